/- Contracts: rows of tokens compared, lent and kept. -/
import Derived.Test.YtfbedonphhiolaaDoorProg
import Derived.Test.YtfbedonphhiolaaDoorAnaP
import Derived.Test.YtfbedonphhiolaaDoorTree
import Derived.Test.YtfbedonphhiolaaDoorOwn
import Derived.Deep.QuietTactic
import Derived.BigQuiet
import Derived.LoopTactic
import Derived.Laws.StructEq
set_option linter.unusedVariables false
namespace Go.Proofs.YtfbedonphhiolaaDoor.Ana
open Go.RowKit Go.Lib AnaP Words Tree Kit Owned

def BoolB (b : Bool) (w : World) (e : Ending) (w' : World) : Prop := e = .returned (.bool b) ∧ Below w.heap.size w w'
theorem tok_ne {x y : TokD} (h : ¬ x = y) : (x.text.toList == y.text.toList) = false ∨ (x.text = y.text ∧ (x.pos == y.pos) = false) ∨ (x.text = y.text ∧ x.pos = y.pos ∧ (x.frm == y.frm) = false) ∨ (x.text = y.text ∧ x.pos = y.pos ∧ x.frm = y.frm ∧ (x.til == y.til) = false) := by
  obtain ⟨t1, p1, f1, l1⟩ := x
  obtain ⟨t2, p2, f2, l2⟩ := y
  dsimp only
  by_cases h1 : t1 = t2
  · by_cases h2 : p1 = p2
    · by_cases h3 : f1 = f2
      · exact .inr (.inr (.inr ⟨h1, h2, h3, by rw [beq_eq_false_iff_ne]; intro h4; exact h (by rw [h1, h2, h3, h4])⟩))
      · exact .inr (.inr (.inl ⟨h1, h2, by rw [beq_eq_false_iff_ne]; exact h3⟩))
    · exact .inr (.inl ⟨h1, by rw [beq_eq_false_iff_ne]; exact h2⟩)
  · refine .inl ?_
    rw [beq_eq_false_iff_ne]
    intro h3
    rw [ByteArray.toList_eq, ByteArray.toList_eq] at h3
    exact h1 (ByteArray.ext (Array.toList_inj.1 h3))
/-- Element k of a row of tokens. -/
theorem reads_tok {w : World} {B n : Nat} {ao : Option Addr} {ts : List TokD} (h : Reads w B 4 ao n (tokCells ts)) (hn : n = ts.length) {k : Nat} (hk : k < ts.length) :
    ∃ ad, ao = some ad ∧ ad.block < B ∧ w.cell? (ad.add (k * 4)) = some (.string ts[k].text) ∧ w.cell? ⟨(ad.add (k * 4)).block, (ad.add (k * 4)).off + 1, none⟩ = some (.int .i64 ts[k].pos) ∧ w.cell? ⟨(ad.add (k * 4)).block, (ad.add (k * 4)).off + 2, none⟩ = some (.int .i64 ts[k].frm) ∧ w.cell? ⟨(ad.add (k * 4)).block, (ad.add (k * 4)).off + 3, none⟩ = some (.int .i64 ts[k].til) := by
  obtain ⟨ad, ha, hb, hc⟩ := reads_elem cells_len h hn hk
  exact ⟨ad, ha, hb, hc.zero, hc.at_ 1 _ rfl (by omega), hc.at_ 2 _ rfl (by omega), hc.at_ 3 _ rfl (by omega)⟩

set_option maxRecDepth 100000 in
set_option maxHeartbeats 1000000 in
theorem tokensEq_any (ao bo : Option Addr) (c d : Nat) (xs ys : List TokD) (w : World) (ha : Reads w w.heap.size 4 ao xs.length (tokCells xs)) (hb : Reads w w.heap.size 4 bo ys.length (tokCells ys)) (hla : xs.length ≤ 4398046511104) (hlb : ys.length ≤ 4398046511104) (r : Bool) (hr : r = true ↔ xs = ys) :
    Calls Tryd.prog 12 #[.slice ao xs.length c, .slice bo ys.length d] w (BoolB r w) := by
  have HA := Lib.hid ha; have HB := Lib.hid hb; have HR := Lib.hid hr
  clear ha hb hr
  by_cases hl : xs.length = ys.length
  · have HL := Lib.hid hl
    have hbne : ((xs.length : Int) != (ys.length : Int)) = false := by rw [hl]; simp
    clear hl
    go_enter Tryd.func12, Tryd.ntmps12
    go_wp2_with fail
    go_loopw [5] (fun i wr => ∃ (k m : Nat), k ≤ xs.length ∧ i = .int .i64 k ∧ Hid (xs.take k = ys.take k) ∧ wr = w.drewN m) (fun i _ => xs.length - (intOf i).toNat)
    case atStart => exact ⟨0, 0, by omega, rfl, Lib.hid (by simp), rfl⟩
    case round =>
      obtain ⟨k, m, hk, rfl, HE, rfl⟩ := hrel
      by_cases hlt : k < xs.length
      · have hlt2 : k < ys.length := by have := HL.out; omega
        obtain ⟨ad, rfl, hba, a0, a1, a2, a3⟩ := reads_tok HA.out rfl hlt
        obtain ⟨bd, rfl, hbb, b0, b1, b2, b3⟩ := reads_tok HB.out rfl hlt2
        have HST : Hid (xs.take (k + 1) = xs.take k ++ [xs[k]] ∧ ys.take (k + 1) = ys.take k ++ [ys[k]]) := Lib.hid ⟨List.take_succ_eq_append_getElem hlt, List.take_succ_eq_append_getElem hlt2⟩
        have HNE : Hid (¬ xs[k] = ys[k] → r = false) := Lib.hid (fun h => by
          cases hr0 : r with
          | false => rfl
          | true =>
            have e := HR.out.1 hr0
            subst e
            exact absurd rfl h)
        by_cases he : xs[k] = ys[k]
        · have HQ := Lib.hid he
          rw [← he] at b0 b1 b2 b3
          clear he HNE
          generalize hx : xs[k] = x at *
          clear hx
          obtain ⟨tx, p1, f1, l1⟩ := x
          dsimp only at a0 a1 a2 a3 b0 b1 b2 b3
          go_wp2_with fail
          go_quiet (fail)
          go_wp2_with fail
          go_roundw
          case rel => exact ⟨k + 1, _, by omega, by go_num, Lib.hid (by rw [HST.out.1, HST.out.2, HE.out, ← HQ.out]), by first | rfl | (rw [World.drewN_drewN])⟩
          case measure => simp [intOf]; omega
        · have hne := tok_ne he
          have HRF := Lib.hid (HNE.out he)
          clear he HNE HST
          generalize xs[k] = x at *
          generalize ys[k] = y at *
          obtain ⟨t1, p1, f1, l1⟩ := x
          obtain ⟨t2, p2, f2, l2⟩ := y
          dsimp only at a0 a1 a2 a3 b0 b1 b2 b3 hne
          rcases hne with h1 | ⟨rfl, h1⟩ | ⟨rfl, rfl, h1⟩ | ⟨rfl, rfl, rfl, h1⟩
          all_goals
            go_wp2_with fail
            go_quiet (fail)
            go_wp2_with fail
            go_ret
            rw [HRF.out]
            exact ⟨rfl, ⟨rfl, rfl, rfl, Nat.le_refl _, fun _ _ => rfl⟩⟩
      · obtain rfl : k = xs.length := by omega
        have hT : r = true := by
          rw [HR.out]
          have := HE.out
          rw [List.take_of_length_le (Nat.le_refl _), HL.out, List.take_of_length_le (Nat.le_refl _)] at this
          exact this
        have HRT := Lib.hid hT
        clear hT
        go_wp2_with fail
        go_ret
        rw [HRT.out]
        exact ⟨rfl, ⟨rfl, rfl, rfl, Nat.le_refl _, fun _ _ => rfl⟩⟩
  · have hbne : ((xs.length : Int) != (ys.length : Int)) = true := by rw [bne_iff_ne]; omega
    have HRF : Hid (r = false) := Lib.hid (by
      cases hr0 : r with
      | false => rfl
      | true => exact absurd (by rw [HR.out.1 hr0]) hl)
    clear hl
    go_enter Tryd.func12, Tryd.ntmps12
    go_wp2_with fail
    go_ret
    rw [HRF.out]
    exact ⟨rfl, Below.refl _ _⟩

/-! ### Lent, kept -/
theorem infoTok : (Tryd.prog.info? 43).map (fun i => (i.zero, i.size, i.bytes)) = some (some (.agg #[.string ⟨#[]⟩, .int .i64 0, .int .i64 0, .int .i64 0]), 4, 40) := by kernel_rfl
theorem tok_one {u : Value} {ts : List TokD} (h : u ∈ tokCells ts) : u.oneCell' = true := by
  unfold tokCells at h
  rw [List.mem_flatMap] at h
  obtain ⟨t, _, h⟩ := h
  simp only [TokD.cells, List.mem_cons, List.not_mem_nil, or_false] at h
  rcases h with rfl | rfl | rfl | rfl <;> rfl
theorem tokCells_append (a b : List TokD) : tokCells (a ++ b) = tokCells a ++ tokCells b := by simp [tokCells]
theorem tokCells_len (l : List TokD) : (tokCells l).length = l.length * 4 := flat_len cells_len l
theorem cells_new (w : World) (l : List Value) (t : TypeId) (j : Nat) (u : Value) (h : l[j]? = some u) : (w.alloc (.cells l.toArray t)).cell? ((⟨w.heap.size, 0, none⟩ : Addr).add j) = some u := by
  have e : (⟨w.heap.size, 0, none⟩ : Addr).add j = ⟨w.heap.size, j, none⟩ := by unfold Addr.add; split <;> simp_all
  rw [e, World.cell?_alloc_new]; simpa using h
def markT : TokD := ⟨⟨#[]⟩, -71, 0, 0⟩
/-- A row of tokens in memory of the call's own, with the mark behind it. -/
def LentRow (w : World) (B : Nat) (v : Value) (ts : List TokD) : Prop :=
  ∃ g cap, v = .slice (some ⟨g, 0, none⟩) ts.length cap ∧ ts.length < cap ∧ cap ≤ maxLen ∧ B ≤ g ∧ Reads w w.heap.size 4 (some ⟨g, 0, none⟩) (ts.length + 1) (tokCells (ts ++ [markT]))
def LentRet (ts : List TokD) (w : World) (e : Ending) (w' : World) : Prop := ∃ v, e = .returned v ∧ LentRow w' w.heap.size v ts ∧ Below w.heap.size w w'

set_option maxRecDepth 100000 in
set_option maxHeartbeats 1000000 in
theorem lent_any (ao : Option Addr) (c : Nat) (ts : List TokD) (w : World) (hk : Reads w w.heap.size 4 ao ts.length (tokCells ts)) (hl : ts.length * 40 ≤ 140737488351232) :
    Calls Tryd.prog 9 #[.slice ao ts.length c] w (LentRet ts w) := by
  obtain ⟨i0, hi, hz0, hz1, hz2⟩ := info_parts infoTok
  go_enter Tryd.func9, Tryd.ntmps9
  go_wp2_with (at_builtin; refine wpList_append_any _ rfl (.tmp 4) (.tmp 5) 22 rfl w.heap.size 43 i0 (.agg #[.string ⟨#[]⟩, .int .i64 0, .int .i64 0, .int .i64 0]) 4 40 Tryd.underlying22 hi hz0 hz1 hz2 rfl (by decide) (.slice none 0 0) 0 [] rfl (World.ownsRow_nil _ _ _ _) w.heap.size ao ts.length c (tokCells ts) rfl hk ?c2 ?c3 ?c4 ?c5 ?_)
  case c2 => intro u hu; exact tok_one hu
  case c3 => unfold maxLen; omega
  case c4 => omega
  case c5 => exact Nat.le_refl _
  intro v1 w1 ho1 hg1 _
  have hb1 : Below w.heap.size w w1 := (Below.refl _ w).grown hg1 (Nat.le_refl _) (fun r e => by cases e)
  replace ho1 : w1.ownsRow w.heap.size 43 4 v1 ts.length (tokCells ts) := by simpa using ho1
  have HB1 := Lib.hid hb1
  have hsz1 := hb1.size
  clear hg1 hb1
  go_wp2_with (at_builtin; refine wpList_append_own _ rfl (.tmp 7) (.tmp 9) 22 rfl w.heap.size 43 i0 (.agg #[.string ⟨#[]⟩, .int .i64 0, .int .i64 0, .int .i64 0]) 4 40 Tryd.underlying22 hi hz0 hz1 hz2 rfl (by decide) _ ts.length (tokCells ts) rfl (ho1.alloc _) ⟨w1.heap.size, 0, none⟩ 1 1 [.string ⟨#[]⟩, .int .i64 (-71), .int .i64 0, .int .i64 0] rfl rfl ?d1 ?d2 ?d3 ?d4 ?d5 ?_)
  case d1 => intro j u hu; exact cells_new w1 [.string ⟨#[]⟩, .int .i64 (-71), .int .i64 0, .int .i64 0] _ j u hu
  case d2 => intro u hu; exact tok_one (ts := [markT]) hu
  case d3 => unfold maxLen; omega
  case d4 => omega
  case d5 => simp; omega
  intro v2 w2 ho2 hg2 _
  have hb2 : Below w.heap.size w w2 := (HB1.out.alloc HB1.out.size _).grown hg2 (by simp; omega) (fun r e => (ho1.lt r e).1)
  have HB2 := Lib.hid hb2
  have e1 : tokCells ts ++ [.string ⟨#[]⟩, .int .i64 (-71), .int .i64 0, .int .i64 0] = tokCells (ts ++ [markT]) := by rw [tokCells_append]; rfl
  rw [e1] at ho2
  rcases ho2.2 with ⟨_, h0⟩ | ⟨g, cap, cur, rfl, hB, hgg, hn, hm, hcs, ht⟩
  · omega
  · have HOW := Lib.hid (Reads.of_own ho2)
    have hm' := hm
    unfold maxLen at hm'
    clear hg2 hb2 e1 ho1 hk hgg hcs ht ho2
    go_wp2_with fail
    go_ret
    exact ⟨_, rfl, ⟨g, cap, rfl, hn, hm, hB, HOW.out⟩, HB2.out⟩

/-- What was lent reads as it did. -/
theorem LentRow.reads {w : World} {B : Nat} {v : Value} {ts : List TokD} (h : LentRow w B v ts) : ∃ g cap, v = .slice (some ⟨g, 0, none⟩) ts.length cap ∧ ts.length < cap ∧ cap ≤ maxLen ∧ Reads w w.heap.size 4 (some ⟨g, 0, none⟩) ts.length (tokCells ts) ∧ g < w.heap.size ∧ w.cell? ⟨g, ts.length * 4 + 1, none⟩ = some (.int .i64 (-71)) := by
  obtain ⟨g, cap, rfl, h1, h2, h3, h4⟩ := h
  obtain ⟨ad, ha, hb, hc⟩ := h4.2 (by omega)
  obtain rfl := Option.some.inj ha
  refine ⟨g, cap, rfl, h1, h2, ⟨tokCells_len ts, fun hn => ⟨_, rfl, hb, fun j u hu => hc j u ?_⟩⟩, hb, ?_⟩
  · rw [tokCells_append, List.getElem?_append_left (List.getElem?_eq_some_iff.1 hu).1]; exact hu
  · have := hc (ts.length * 4 + 1) (.int .i64 (-71)) (by rw [tokCells_append, List.getElem?_append_right (by rw [tokCells_len]; omega), tokCells_len, Nat.add_sub_cancel_left]; rfl)
    unfold Addr.add at this
    rw [if_neg (by omega)] at this
    simpa using this
theorem LentRow.below {w w' : World} {B : Nat} {v : Value} {ts : List TokD} (h : LentRow w B v ts) (hb : Below w.heap.size w w') : LentRow w' B v ts := by
  obtain ⟨g, cap, rfl, h1, h2, h3, h4⟩ := h
  exact ⟨g, cap, rfl, h1, h2, h3, (h4.below hb).more hb.size⟩

set_option maxRecDepth 100000 in
set_option maxHeartbeats 1000000 in
theorem kept_any (v : Value) (B : Nat) (bo : Option Addr) (d : Nat) (ts : List TokD) (w : World) (hv : LentRow w B v ts) (hb : Reads w w.heap.size 4 bo ts.length (tokCells ts)) (hl : ts.length * 40 ≤ 140737488351232) :
    Calls Tryd.prog 13 #[v, .slice bo ts.length d] w (BoolB true w) := by
  obtain ⟨g, cap, rfl, h1, h2, h3, h4, h5⟩ := hv.reads
  have HC := Lib.hid (tokensEq_any _ _ cap d ts ts w h3 hb (by omega) (by omega) true (by simp))
  have H5 := Lib.hid h5
  have h2' := h2
  unfold maxLen at h2'
  clear hv h3 hb h5
  go_enter Tryd.func13, Tryd.ntmps13
  go_wp2_with fail
  refine HC.out.mono ?_
  rintro e w1 ⟨rfl, b1⟩
  have hcell : w1.cell? ⟨g, ts.length * 4 + 1, none⟩ = some (.int .i64 (-71)) := (b1.cell (p := ⟨g, ts.length * 4 + 1, none⟩) h4).trans H5.out
  have B1 := Lib.hid b1; clear b1
  go_wp2_with fail
  go_ret
  exact ⟨rfl, B1.out⟩
end Go.Proofs.YtfbedonphhiolaaDoor.Ana
