/- The walk of AnalysisOwn. -/
import Derived.Test.YtfbedonphhiolaaDoorAnaRun
import Derived.Test.YtfbedonphhiolaaDoorAnaPlain
import Derived.Maps.AppendAt
import Derived.Test.YtfbedonphhiolaaDoorAnaRefToks
set_option linter.unusedVariables false
namespace Go.Proofs.YtfbedonphhiolaaDoor.Ana
open Go.RowKit Go.Lib FoldP FoldInts Kit FoldForms FoldNext AnaP Words Owned Tree

theorem reads_blk {w : World} {g n m : Nat} {t : TypeId} {l : List Value} (h : Blk w g t l.toArray) (hl : l.length = n * m) : Reads w w.heap.size m (some ⟨g, 0, none⟩) n l :=
  ⟨hl, fun _ => ⟨_, rfl, h.lt, fun j u hu => by
    have e : (⟨g, 0, none⟩ : Addr).add j = ⟨g, j, none⟩ := by unfold Addr.add; split <;> simp_all
    rw [e, h.cell j]
    simpa using hu⟩⟩
theorem run_lit (l : List Int) (s : ByteArray) (r : List TokD × Int) (w W : World) (n : Nat) (hn : n = l.length) (h8 : l.length ≤ 8) (hs : s.size ≤ 4096) (hT : Tabs w) (hr : runF l s = r) (hw : Below w.heap.size w W) (hz : w.heap.size < W.heap.size)
    {g : Nat} (hg : Blk W g 3 (intCells l).toArray) :
    Calls Tryd.prog 19 #[.slice (some ⟨g, 0, none⟩) n n, .string s] W (RunRet r W) := by
  subst hn
  rw [← hr]
  exact run_any _ _ _ l s W rfl (reads_blk hg (by simp [intCells])) (Nat.le_refl _) (by unfold maxLen; omega) (by omega) (hT.next hw)

set_option maxRecDepth 100000 in
set_option maxHeartbeats 4000000 in
theorem known_any (w : World) (hT : Tabs w) : Calls Tryd.prog 24 #[] w (BoolB true w) := by
  have HT := Lib.hid hT; clear hT
  have HB0 : Hid (Below w.heap.size w w) := Lib.hid (Below.refl _ _)
  go_enter Tryd.func24, Tryd.ntmps24
  go_wp2_with fail
  have hb1 : Below w.heap.size w (w.alloc (.cells #[.int .i64 1, .int .i64 10, .int .i64 11] 3)) := (Below.refl _ _).alloc (Nat.le_refl _) _
  refine (run_lit [1, 10, 11] _ _ w _ 3 rfl (by decide) (by decide) HT.out kn1 hb1 (by simp) (Blk.new _ _ _)).mono ?_
  rintro e w1 ⟨a1, c1, rfl, o1, b1⟩
  have HR1 := Lib.hid (Reads.of_own o1)
  have HB1 := Lib.hid (hb1.trans (b1.mono (by simp)))
  have hz1 : w.heap.size ≤ w1.heap.size := HB1.out.size
  clear hb1 b1 o1
  dsimp only at HR1 ⊢
  go_wp2_with fail
  have hb2 := HB1.out.alloc hz1 (.cells #[.int .i64 4] 3)
  refine (run_lit [4] _ _ w _ 1 rfl (by decide) (by decide) HT.out kn2 hb2 (by simp; omega) (Blk.new _ _ _)).mono ?_
  rintro e w2 ⟨a2, c2, rfl, o2, b2⟩
  have HR2 := Lib.hid (Reads.of_own o2)
  have HBB := Lib.hid ((((Below.refl w1.heap.size w1).alloc (Nat.le_refl _) (.cells #[.int .i64 4] 3)).trans (b2.mono (by simp))))
  have HR12 := Lib.hid ((HR1.out.below HBB.out).more HBB.out.size)
  have HB2 := Lib.hid (HB1.out.trans (HBB.out.mono hz1))
  have hz2 : w.heap.size ≤ w2.heap.size := HB2.out.size
  clear hb2 b2 o2 HBB HR1
  dsimp only at HR2 ⊢
  go_wp2_with fail
  have hb3 := HB2.out.alloc hz2 (.cells #[.int .i64 1, .int .i64 13] 3)
  refine (run_lit [1, 13] _ _ w _ 2 rfl (by decide) (by decide) HT.out kn3 hb3 (by simp; omega) (Blk.new _ _ _)).mono ?_
  rintro e w3 ⟨a3, c3, rfl, o3, b3⟩
  have HR3 := Lib.hid (Reads.of_own o3)
  have HBB := Lib.hid ((((Below.refl w2.heap.size w2).alloc (Nat.le_refl _) (.cells #[.int .i64 1, .int .i64 13] 3)).trans (b3.mono (by simp))))
  have HR13 := Lib.hid ((HR12.out.below HBB.out).more HBB.out.size)
  have HR23 := Lib.hid ((HR2.out.below HBB.out).more HBB.out.size)
  have HB3 := Lib.hid (HB2.out.trans (HBB.out.mono hz2))
  have hz3 : w.heap.size ≤ w3.heap.size := HB3.out.size
  clear hb3 b3 o3 HBB HR12 HR2
  dsimp only at HR3 ⊢
  go_wp2_with fail
  have hb4 := HB3.out.alloc hz3 (.cells #[.int .i64 10] 3)
  refine (run_lit [10] _ _ w _ 1 rfl (by decide) (by decide) HT.out kn4 hb4 (by simp; omega) (Blk.new _ _ _)).mono ?_
  rintro e w4 ⟨a4, c4, rfl, o4, b4⟩
  have HBB := Lib.hid ((((Below.refl w3.heap.size w3).alloc (Nat.le_refl _) (.cells #[.int .i64 10] 3)).trans (b4.mono (by simp))))
  have HR14 := Lib.hid ((HR13.out.below HBB.out).more HBB.out.size)
  have HR24 := Lib.hid ((HR23.out.below HBB.out).more HBB.out.size)
  have HR34 := Lib.hid ((HR3.out.below HBB.out).more HBB.out.size)
  have HB4 := Lib.hid (HB3.out.trans (HBB.out.mono hz3))
  have hz4 : w.heap.size ≤ w4.heap.size := HB4.out.size
  clear hb4 b4 o4 HBB HR13 HR23 HR3
  dsimp only
  go_wp2_with fail
  have HBA := Lib.hid ((Below.refl w4.heap.size w4).alloc (Nat.le_refl _) (.cells #[.string ⟨#[102, 111, 120]⟩, .int .i64 1, .int .i64 4, .int .i64 7] 43))
  refine (tokensEq_any a1 (some ⟨w4.heap.size, 0, none⟩) c1 1 [⟨⟨#[102, 111, 120]⟩, 1, 4, 7⟩] [⟨⟨#[102, 111, 120]⟩, 1, 4, 7⟩] _ ((HR14.out.below HBA.out).more HBA.out.size) (reads_blk (Blk.new _ _ _) rfl) (by decide) (by decide) true (by simp)).mono ?_
  rintro e w5 ⟨rfl, b5⟩
  have HBB := Lib.hid (HBA.out.trans (b5.mono (by simp)))
  have HR25 := Lib.hid ((HR24.out.below HBB.out).more HBB.out.size)
  have HR35 := Lib.hid ((HR34.out.below HBB.out).more HBB.out.size)
  have HB5 := Lib.hid (HB4.out.trans (HBB.out.mono hz4))
  have hz5 : w.heap.size ≤ w5.heap.size := HB5.out.size
  clear b5 HBA HBB HR24 HR34 HR14
  go_wp2_with fail
  have HBA := Lib.hid ((Below.refl w5.heap.size w5).alloc (Nat.le_refl _) (.cells #[.string ⟨#[230, 157, 177, 228, 186, 172]⟩, .int .i64 0, .int .i64 0, .int .i64 6, .string ⟨#[228, 186, 172, 233, 131, 189]⟩, .int .i64 1, .int .i64 3, .int .i64 9, .string ⟨#[120]⟩, .int .i64 2, .int .i64 10, .int .i64 11] 43))
  refine (tokensEq_any a2 (some ⟨w5.heap.size, 0, none⟩) c2 3 [⟨⟨#[230, 157, 177, 228, 186, 172]⟩, 0, 0, 6⟩, ⟨⟨#[228, 186, 172, 233, 131, 189]⟩, 1, 3, 9⟩, ⟨⟨#[120]⟩, 2, 10, 11⟩] [⟨⟨#[230, 157, 177, 228, 186, 172]⟩, 0, 0, 6⟩, ⟨⟨#[228, 186, 172, 233, 131, 189]⟩, 1, 3, 9⟩, ⟨⟨#[120]⟩, 2, 10, 11⟩] _ ((HR25.out.below HBA.out).more HBA.out.size) (reads_blk (Blk.new _ _ _) rfl) (by decide) (by decide) true (by simp)).mono ?_
  rintro e w6 ⟨rfl, b6⟩
  have HBB := Lib.hid (HBA.out.trans (b6.mono (by simp)))
  have HR36 := Lib.hid ((HR35.out.below HBB.out).more HBB.out.size)
  have HB6 := Lib.hid (HB5.out.trans (HBB.out.mono hz5))
  have hz6 : w.heap.size ≤ w6.heap.size := HB6.out.size
  clear b6 HBA HBB HR25 HR35
  go_wp2_with fail
  have HBA := Lib.hid ((Below.refl w6.heap.size w6).alloc (Nat.le_refl _) (.cells #[.string ⟨#[97, 98, 99]⟩, .int .i64 0, .int .i64 0, .int .i64 4, .string ⟨#[98, 99, 100]⟩, .int .i64 0, .int .i64 0, .int .i64 4, .string ⟨#[97, 98]⟩, .int .i64 1, .int .i64 5, .int .i64 7] 43))
  refine (tokensEq_any a3 (some ⟨w6.heap.size, 0, none⟩) c3 3 [⟨⟨#[97, 98, 99]⟩, 0, 0, 4⟩, ⟨⟨#[98, 99, 100]⟩, 0, 0, 4⟩, ⟨⟨#[97, 98]⟩, 1, 5, 7⟩] [⟨⟨#[97, 98, 99]⟩, 0, 0, 4⟩, ⟨⟨#[98, 99, 100]⟩, 0, 0, 4⟩, ⟨⟨#[97, 98]⟩, 1, 5, 7⟩] _ ((HR36.out.below HBA.out).more HBA.out.size) (reads_blk (Blk.new _ _ _) rfl) (by decide) (by decide) true (by simp)).mono ?_
  rintro e w7 ⟨rfl, b7⟩
  have HBB := Lib.hid (HBA.out.trans (b7.mono (by simp)))
  have HB7 := Lib.hid (HB6.out.trans (HBB.out.mono hz6))
  clear b7 HBA HBB HR36
  go_wp2_with fail
  go_ret
  exact ⟨rfl, HB7.out⟩
end Go.Proofs.YtfbedonphhiolaaDoor.Ana

namespace Go.Proofs.YtfbedonphhiolaaDoor.AnalysisOwnWalk
open Go.RowKit Go.Lib FoldP FoldNext AnaP Words Tree Kit Owned Ana

abbrev Tk : TypeId := 43
/-- A row of n tokens of the call's own, whatever they are. -/
def OwnAny (w : World) (B : Nat) (v : Value) (n : Nat) : Prop := ∃ xs, w.ownsRow B 43 4 v n xs
def Apart (u v : Value) : Prop := ∀ r, u.ownBlock = some r → v.ownBlock ≠ some r
theorem Apart.symm {u v : Value} (h : Apart u v) : Apart v u := fun r h1 h2 => h r h2 h1
theorem apart_lt {w : World} {B m n n' : Nat} {e : TypeId} {u v : Value} {xs ys : List Value} (hu : w.ownsRow B e m u n xs) {w' : World} {B' : Nat} (hv : w'.ownsRow B' e m v n' ys) (hB : w.heap.size ≤ B') : Apart u v := fun r h1 h2 => by
  have a := (hu.lt r h1).2
  have b := (hv.lt r h2).1
  omega
theorem kept_apart {w w' : World} {B m n : Nat} {e : TypeId} {u v : Value} {xs : List Value} (h : w.ownsRow B e m v n xs) (hg : w.grownBy w' u.ownBlock) (ha : Apart v u) : w'.ownsRow B e m v n xs := h.kept hg (by
  cases hv : v.ownBlock with
  | none => exact .inl rfl
  | some r => exact .inr (fun e => ha r hv e.symm))
/-- The three rows: what is written over, what is gone on with, what was wanted. -/
structure Rows3 (w0 : World) (ts : List TokD) (na : Nat) (va vb vw : Value) (W : World) : Prop where
  a : OwnAny W w0.heap.size va na
  b : W.ownsRow w0.heap.size 43 4 vb ts.length (tokCells ts)
  w : W.ownsRow w0.heap.size 43 4 vw ts.length (tokCells ts)
  ab : Apart va vb
  aw : Apart va vw
  bw : Apart vb vw
  below : Below w0.heap.size w0 W
theorem Rows3.set {w0 : World} {ts : List TokD} {na : Nat} {vb vw : Value} {W : World} {g cap : Nat} (h : Rows3 w0 ts na (.slice (some ⟨g, 0, none⟩) na cap) vb vw W) (o : Nat) (u : Value) : Rows3 w0 ts na (.slice (some ⟨g, 0, none⟩) na cap) vb vw (W.setCell ⟨g, o, none⟩ u) := by
  obtain ⟨xs, hx⟩ := h.a
  have hBg : w0.heap.size ≤ g := (hx.lt g rfl).1
  refine ⟨?_, own_setCell_ne h.b (a := ⟨g, o, none⟩) (h.ab g rfl) _, own_setCell_ne h.w (a := ⟨g, o, none⟩) (h.aw g rfl) _, h.ab, h.aw, h.bw, h.below.setCell (p := ⟨g, o, none⟩) hBg _⟩
  rcases hx.2 with ⟨e, _⟩ | ⟨g', cap', cur, e, hb, hh, hc, hm, hs, ht⟩
  · cases e
  · cases e
    refine ⟨(cur.setIfInBounds o u).toList.take (na * 4), ?_, .inr ⟨g, cap, cur.setIfInBounds o u, rfl, hb, ?_, hc, hm, by simpa using hs, rfl⟩⟩
    · rw [List.length_take, Array.length_toList, Array.size_setIfInBounds, hs]; omega
    · exact Blk.set_ hh o u

set_option maxRecDepth 100000 in
set_option maxHeartbeats 8000000 in
theorem walk (ao : Option Addr) (c : Nat) (l : List Int) (x : ByteArray) (w : World) (hk : Reads w w.heap.size 1 ao l.length (intCells l)) (hc : l.length ≤ c) (hm : c ≤ maxLen) (hx : x.size ≤ 9223372036854775807) (hT : Tabs w) :
    Calls Tryd.prog 8 #[.slice ao l.length c, .string x] w (BoolB true w) := by
  obtain ⟨i0, hi, hz0, hz1, hz2⟩ := info_parts infoTok
  have HI1 := Lib.hid hi; have HI2 := Lib.hid hz0; have HI3 := Lib.hid hz1; have HI4 := Lib.hid hz2
  have HT := Lib.hid hT
  have HRA := Lib.hid (fun (W : World) (hW : Below w.heap.size w W) => run_any ao l.length c l x W rfl ((hk.below hW).more hW.size) hc hm hx (hT.next hW))
  have hlen := runF_len l x
  generalize runF l x = R at *
  obtain ⟨ts, k⟩ := R
  dsimp only at hlen
  clear hk hT hc hi hz0 hz1 hz2
  go_enter Tryd.func8, Tryd.ntmps8
  go_wp2_with fail
  refine (known_any _ HT.out).mono ?_
  rintro e w1 ⟨rfl, b1⟩
  have HB1 := Lib.hid b1; clear b1
  go_wp2_with fail
  refine (HRA.out _ HB1.out).mono ?_
  rintro e w2 ⟨a2, c2, rfl, o2, b2⟩
  have HB2 := Lib.hid (HB1.out.trans (b2.mono HB1.out.size))
  have HO2 := Lib.hid (own_base o2 HB1.out.size)
  clear o2 b2
  dsimp only at HO2 ⊢
  go_wp2_with fail
  refine (HRA.out _ HB2.out).mono ?_
  rintro e w3 ⟨a3, c3, rfl, o3, b3⟩
  have HB3 := Lib.hid (HB2.out.trans (b3.mono HB2.out.size))
  have HO3 := Lib.hid o3
  have HO23 := Lib.hid (own_below HO2.out b3)
  have HAB := Lib.hid (apart_lt HO2.out HO3.out (Nat.le_refl _))
  have hz2 := HB2.out.size
  have hz3 := HB3.out.size
  clear o3 b3
  dsimp only at HO3 ⊢
  by_cases hk0 : k = 0
  · subst hk0
    have HRD := Lib.hid (Reads.of_own HO3.out)
    have hoe : (w3.alloc (.cells #[] 43)).ownsRow w.heap.size 43 4 (.slice (some ⟨w3.heap.size, 0, none⟩) 0 0) 0 [] := ⟨rfl, .inr ⟨w3.heap.size, 0, #[], rfl, hz3, heap_alloc_new w3 _, Nat.le_refl _, Nat.zero_le _, rfl, rfl⟩⟩
    have hi := HI1.out; have hz0 := HI2.out; have hz1 := HI3.out; have hz4 := HI4.out
    have hrd := (HRD.out.below ((Below.refl w3.heap.size w3).alloc (Nat.le_refl _) (.cells #[] 43))).more (B' := (w3.alloc (.cells #[] 43)).heap.size) (by simp)
    go_wp2_with (at_builtin; refine wpList_append_any _ rfl (.tmp 27) (.tmp 28) 22 rfl w.heap.size 43 i0 (.agg #[.string ⟨#[]⟩, .int .i64 0, .int .i64 0, .int .i64 0]) 4 40 Tryd.underlying22 hi hz0 hz1 hz4 rfl (by decide) _ 0 [] rfl hoe (w3.alloc (.cells #[] 43)).heap.size a3 ts.length c3 (tokCells ts) rfl hrd ?c2 ?c3 ?c4 ?c5 ?_)
    case c2 => intro u hu; exact tok_one hu
    case c3 => unfold maxLen; omega
    case c4 => omega
    case c5 => omega
    intro v4 w4 o4 g4 hv4
    have hlt2 : ∀ r, (Value.slice a2 ts.length c2).ownBlock = some r → r < w3.heap.size := fun r e => (HO23.out.lt r e).2
    have hlt3 : ∀ r, (Value.slice a3 ts.length c3).ownBlock = some r → r < w3.heap.size := fun r e => (HO3.out.lt r e).2
    have hge4 : ∀ r, v4.ownBlock = some r → w3.heap.size ≤ r := fun r e => by
      rcases hv4 with h | h
      · rw [h] at e; cases e; exact Nat.le_refl _
      · rw [h] at e; cases e; simp
    have HR4 : Hid (Rows3 w ts ts.length (.slice a2 ts.length c2) (.slice a3 ts.length c3) v4 w4) := Lib.hid (by
      refine ⟨⟨_, kept_apart (HO23.out.alloc _) g4 (fun r h1 h2 => ?_)⟩, own_base (kept_apart (HO3.out.alloc _) g4 (fun r h1 h2 => ?_)) hz2, by simpa using o4, HAB.out, fun r h1 h2 => ?_, fun r h1 h2 => ?_, (HB3.out.alloc hz3 _).grown g4 (by simp; omega) (fun r e => (hoe.lt r e).1)⟩
      · have := hlt2 r h1; have e : w3.heap.size = r := by simpa [Value.ownBlock] using h2
        omega
      · have := hlt3 r h1; have e : w3.heap.size = r := by simpa [Value.ownBlock] using h2
        omega
      · have := hlt2 r h1; have := hge4 r h2; omega
      · have := hlt3 r h1; have := hge4 r h2; omega)
    clear hoe hi hz0 hz1 hz4 hrd o4 g4 hv4 hlt2 hlt3 hge4 HO2 HO3 HO23 HAB HRD HB2 HB3
    go_wp2_with fail
    go_loopw [10] (fun i wr => ∃ k : Nat, k ≤ ts.length ∧ i = .int .i64 k ∧ Hid (Rows3 w ts ts.length (.slice a2 ts.length c2) (.slice a3 ts.length c3) v4 wr)) (fun i _ => ts.length - (RowKit.intOf i).toNat)
    case atStart => exact ⟨0, by omega, rfl, HR4⟩
    case round =>
      obtain ⟨k, hk, rfl, HR⟩ := hrel
      by_cases hlt : k < ts.length
      · obtain ⟨xs, hxs⟩ := HR.out.a
        obtain ⟨g, cap, cur, hveq, hbk, hcc, hcm, _⟩ := own_blk hxs (by omega)
        simp only [Value.slice.injEq, true_and] at hveq
        obtain ⟨rfl, rfl⟩ := hveq
        have hcs : cur.size = c2 * 4 := by
          rcases hxs.2 with ⟨e, _⟩ | ⟨g', cap', cur', e, _, hh, _, _, hs, _⟩
          · cases e
          · cases e
            rw [show wr.heap[g]? = _ from hbk] at hh
            cases hh
            exact hs
        have e0 : wr.cell? ⟨g, k * 4, none⟩ = some (cur[k * 4]'(by omega)) := (hbk.cell _).trans (Array.getElem?_eq_getElem _)
        have e1 : wr.cell? ⟨g, k * 4 + 1, none⟩ = some (cur[k * 4 + 1]'(by omega)) := (hbk.cell _).trans (Array.getElem?_eq_getElem _)
        have e2 : wr.cell? ⟨g, k * 4 + 2, none⟩ = some (cur[k * 4 + 2]'(by omega)) := (hbk.cell _).trans (Array.getElem?_eq_getElem _)
        have e3 : wr.cell? ⟨g, k * 4 + 3, none⟩ = some (cur[k * 4 + 3]'(by omega)) := (hbk.cell _).trans (Array.getElem?_eq_getElem _)
        have f0 : wr.frozen? ⟨g, k * 4, none⟩ = false := hbk.frozen _
        have f1 : wr.frozen? ⟨g, k * 4 + 1, none⟩ = false := hbk.frozen _
        have f2 : wr.frozen? ⟨g, k * 4 + 2, none⟩ = false := hbk.frozen _
        have f3 : wr.frozen? ⟨g, k * 4 + 3, none⟩ = false := hbk.frozen _
        generalize cur[k * 4]'(by omega) = y0 at *
        generalize cur[k * 4 + 1]'(by omega) = y1 at *
        generalize cur[k * 4 + 2]'(by omega) = y2 at *
        generalize cur[k * 4 + 3]'(by omega) = y3 at *
        clear hcs hbk hxs
        have HF : Hid (Rows3 w ts ts.length (.slice (some ⟨g, 0, none⟩) ts.length c2) (.slice a3 ts.length c3) v4 ((((wr.setCell ⟨g, k * 4, none⟩ (.string ⟨#[]⟩)).setCell ⟨g, k * 4 + 1, none⟩ (.int .i64 (-1))).setCell ⟨g, k * 4 + 2, none⟩ (.int .i64 0)).setCell ⟨g, k * 4 + 3, none⟩ (.int .i64 0))) := Lib.hid ((((HR.out.set _ _).set _ _).set _ _).set _ _)
        have hx1 : (k : Int) < (ts.length : Int) := by omega
        go_wp2_with fail
        go_roundw
        case rel => exact ⟨k + 1, by omega, by go_num, HF⟩
        case measure => simp [RowKit.intOf]; omega
      · obtain rfl : k = ts.length := by omega
        obtain ⟨xs, hxs⟩ := HR.out.a
        have hzr := HR.out.below.size
        have hi := HI1.out; have hz0 := HI2.out; have hz1 := HI3.out; have hz4 := HI4.out
        go_wp2_with (at_builtin; refine wpList_append_own_at _ rfl (.tmp 40) (.tmp 42) 22 rfl w.heap.size 43 i0 (.agg #[.string ⟨#[]⟩, .int .i64 0, .int .i64 0, .int .i64 0]) 4 40 Tryd.underlying22 hi hz0 hz1 hz4 rfl (by decide) _ ts.length xs rfl (hxs.alloc _) ⟨wr.heap.size, 0, none⟩ 1 1 [.string ⟨#[]⟩, .int .i64 (-2), .int .i64 0, .int .i64 0] rfl rfl ?d1 ?d2 ?d3 ?d4 ?d5 ?_)
        case d1 => intro q u hu; exact cells_new wr [.string ⟨#[]⟩, .int .i64 (-2), .int .i64 0, .int .i64 0] _ q u hu
        case d2 => intro u hu; exact tok_one (ts := [⟨⟨#[]⟩, -2, 0, 0⟩]) hu
        case d3 => unfold maxLen; omega
        case d4 => omega
        case d5 => simp; omega
        intro v5 w5 o5 g5 _ hv5
        have hxl : xs.length = ts.length * 4 := hxs.1
        have hb5 : Below w.heap.size w w5 := (HR.out.below.alloc hzr _).grown g5 (by simp; omega) (fun r e => (hxs.lt r e).1)
        have hB5 := kept_apart (HR.out.b.alloc (.cells #[.string ⟨#[]⟩, .int .i64 (-2), .int .i64 0, .int .i64 0] 43)) g5 HR.out.ab.symm
        have hW5 := kept_apart (HR.out.w.alloc (.cells #[.string ⟨#[]⟩, .int .i64 (-2), .int .i64 0, .int .i64 0] 43)) g5 HR.out.aw.symm
        have hab5 : Apart v5 (.slice a3 ts.length c3) := fun r h1 h2 => by
          rcases hv5 with h | h
          · exact HR.out.ab r (by rw [← h]; exact h1) h2
          · rw [h] at h1; have e : wr.heap.size + 1 = r := by simpa using h1
            have := (HR.out.b.lt r h2).2; omega
        have HA5 := Lib.hid o5; have HB5 := Lib.hid hB5; have HW5 := Lib.hid hW5; have HBE5 := Lib.hid hb5; have HAB5 := Lib.hid hab5
        have HBW := Lib.hid HR.out.bw
        have hz5 := hb5.size
        clear o5 hB5 hW5 hb5 hab5 g5 hv5 hxs HR
        go_wp2_with (at_builtin; refine wpList_append_own_at _ rfl (.tmp 44) (.tmp 46) 22 rfl w.heap.size 43 i0 (.agg #[.string ⟨#[]⟩, .int .i64 0, .int .i64 0, .int .i64 0]) 4 40 Tryd.underlying22 hi hz0 hz1 hz4 rfl (by decide) _ ts.length (tokCells ts) rfl (HB5.out.alloc _) ⟨w5.heap.size, 0, none⟩ 1 1 [.string ⟨#[]⟩, .int .i64 (-3), .int .i64 0, .int .i64 0] rfl rfl ?e1 ?e2 ?e3 ?e4 ?e5 ?_)
        case e1 => intro q u hu; exact cells_new w5 [.string ⟨#[]⟩, .int .i64 (-3), .int .i64 0, .int .i64 0] _ q u hu
        case e2 => intro u hu; exact tok_one (ts := [⟨⟨#[]⟩, -3, 0, 0⟩]) hu
        case e3 => unfold maxLen; omega
        case e4 => omega
        case e5 => simp; omega
        intro v6 w6 o6 g6 _ _
        have hb6 : Below w.heap.size w w6 := (HBE5.out.alloc hz5 _).grown g6 (by simp; omega) (fun r e => (HB5.out.lt r e).1)
        have hA6 := kept_apart (HA5.out.alloc (.cells #[.string ⟨#[]⟩, .int .i64 (-3), .int .i64 0, .int .i64 0] 43)) g6 HAB5.out
        have hW6 := kept_apart (HW5.out.alloc (.cells #[.string ⟨#[]⟩, .int .i64 (-3), .int .i64 0, .int .i64 0] 43)) g6 HBW.out.symm
        obtain ⟨ga, ca, cura, rfl, hbka, hca1, hca2, hca3⟩ := own_blk hA6 (by omega)
        have hcell : w6.cell? ⟨ga, ts.length * 4 + 1, none⟩ = some (.int .i64 (-2)) := (hbka.cell _).trans (hca3 _ _ (by rw [List.getElem?_append_right (by omega), show ts.length * 4 + 1 - xs.length = 1 by omega]; rfl))
        obtain ⟨aw, cw, rfl⟩ := own_slice2 hW6
        have HRW := Lib.hid (Reads.of_own hW6)
        obtain ⟨gb, cb, curb, rfl, _, hcb1, hcb2, _⟩ := own_blk o6 (by omega)
        have HRB : Hid (Reads w6 w6.heap.size 4 (some ⟨gb, 0, none⟩) ts.length (tokCells ts)) := Lib.hid ⟨tokCells_len ts, fun h => by
          have hr := Reads.of_own o6
          obtain ⟨ad, e, hb, hcc⟩ := hr.2 (by omega)
          cases e
          exact ⟨_, rfl, hb, fun j u hu => hcc j u (by rw [List.getElem?_append_left (List.getElem?_eq_some_iff.1 hu).1]; exact hu)⟩⟩
        have HB6 := Lib.hid hb6
        unfold maxLen at hca2 hcb2
        have hl1 : IntKind.i64.wrap ((ts.length : Int) + 1 - 1) = (ts.length : Int) := by rw [show (ts.length : Int) + 1 - 1 = ts.length by omega]; exact IntWalk.i64_in _ (by omega)
        clear hi hz0 hz1 hz4 o6 hb6 hA6 hW6 hbka hca3 g6 HA5 HB5 HW5 HBE5 HAB5 HBW
        go_wp2_with fail
        refine (tokensEq_any _ _ _ _ ts ts _ HRB.out HRW.out (by omega) (by omega) true (by simp)).mono ?_
        rintro e w7 ⟨rfl, b7⟩
        have HB7 := Lib.hid (HB6.out.trans (b7.mono HB6.out.size))
        clear b7
        go_wp2_with fail
        go_ret
        exact ⟨rfl, HB7.out⟩
  · have hkn : (k != 0) = true := by rw [bne_iff_ne]; exact hk0
    clear hk0
    go_wp2_with fail
    go_ret
    exact ⟨rfl, HB3.out⟩
end Go.Proofs.YtfbedonphhiolaaDoor.AnalysisOwnWalk
