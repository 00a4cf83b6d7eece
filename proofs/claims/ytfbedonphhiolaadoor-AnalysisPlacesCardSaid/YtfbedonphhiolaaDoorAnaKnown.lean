/- Contract: the tokens that the document names are found so. -/
import Derived.Test.YtfbedonphhiolaaDoorAnaRun
import Derived.Test.YtfbedonphhiolaaDoorAnaPlain
set_option linter.unusedVariables false
namespace Go.Proofs.YtfbedonphhiolaaDoor.Ana
open Go.RowKit Go.Lib FoldP FoldInts Kit FoldForms FoldNext AnaP Words Owned Tree

theorem reads_blk {w : World} {g n m : Nat} {t : TypeId} {l : List Value} (h : Blk w g t l.toArray) (hl : l.length = n * m) : Reads w w.heap.size m (some ⟨g, 0, none⟩) n l :=
  ⟨hl, fun _ => ⟨_, rfl, h.lt, fun j u hu => by
    have e : (⟨g, 0, none⟩ : Addr).add j = ⟨g, j, none⟩ := by unfold Addr.add; split <;> simp_all
    rw [e, h.cell j]
    simpa using hu⟩⟩
theorem run_lit (l : List Int) (s : ByteArray) (r : List TokD × Int) (w W : World) (n : Nat) (hn : n = l.length) (h8 : l.length ≤ 8) (hs : s.size ≤ 4096) (hT : Tabs w) (hr : runF l s = r) (hw : Below w.heap.size w W) (hz : w.heap.size < W.heap.size)
    {g : Nat} (hg : Blk W g 3 (intCells l).toArray) :
    Calls Tryd.prog 19 #[.slice (some ⟨g, 0, none⟩) n n, .string s] W (RunRet r W) := by
  subst hn
  rw [← hr]
  exact run_any _ _ _ l s W rfl (reads_blk hg (by simp [intCells])) (Nat.le_refl _) (by unfold maxLen; omega) (by omega) (hT.next hw)

set_option maxRecDepth 100000 in
set_option maxHeartbeats 4000000 in
theorem known_any (w : World) (hT : Tabs w) : Calls Tryd.prog 24 #[] w (BoolB true w) := by
  have HT := Lib.hid hT; clear hT
  have HB0 : Hid (Below w.heap.size w w) := Lib.hid (Below.refl _ _)
  go_enter Tryd.func24, Tryd.ntmps24
  go_wp2_with fail
  have hb1 : Below w.heap.size w (w.alloc (.cells #[.int .i64 1, .int .i64 10, .int .i64 11] 3)) := (Below.refl _ _).alloc (Nat.le_refl _) _
  refine (run_lit [1, 10, 11] _ _ w _ 3 rfl (by decide) (by decide) HT.out kn1 hb1 (by simp) (Blk.new _ _ _)).mono ?_
  rintro e w1 ⟨a1, c1, rfl, o1, b1⟩
  have HR1 := Lib.hid (Reads.of_own o1)
  have HB1 := Lib.hid (hb1.trans (b1.mono (by simp)))
  have hz1 : w.heap.size ≤ w1.heap.size := HB1.out.size
  clear hb1 b1 o1
  dsimp only at HR1 ⊢
  go_wp2_with fail
  have hb2 := HB1.out.alloc hz1 (.cells #[.int .i64 4] 3)
  refine (run_lit [4] _ _ w _ 1 rfl (by decide) (by decide) HT.out kn2 hb2 (by simp; omega) (Blk.new _ _ _)).mono ?_
  rintro e w2 ⟨a2, c2, rfl, o2, b2⟩
  have HR2 := Lib.hid (Reads.of_own o2)
  have HBB := Lib.hid ((((Below.refl w1.heap.size w1).alloc (Nat.le_refl _) (.cells #[.int .i64 4] 3)).trans (b2.mono (by simp))))
  have HR12 := Lib.hid ((HR1.out.below HBB.out).more HBB.out.size)
  have HB2 := Lib.hid (HB1.out.trans (HBB.out.mono hz1))
  have hz2 : w.heap.size ≤ w2.heap.size := HB2.out.size
  clear hb2 b2 o2 HBB HR1
  dsimp only at HR2 ⊢
  go_wp2_with fail
  have hb3 := HB2.out.alloc hz2 (.cells #[.int .i64 1, .int .i64 13] 3)
  refine (run_lit [1, 13] _ _ w _ 2 rfl (by decide) (by decide) HT.out kn3 hb3 (by simp; omega) (Blk.new _ _ _)).mono ?_
  rintro e w3 ⟨a3, c3, rfl, o3, b3⟩
  have HR3 := Lib.hid (Reads.of_own o3)
  have HBB := Lib.hid ((((Below.refl w2.heap.size w2).alloc (Nat.le_refl _) (.cells #[.int .i64 1, .int .i64 13] 3)).trans (b3.mono (by simp))))
  have HR13 := Lib.hid ((HR12.out.below HBB.out).more HBB.out.size)
  have HR23 := Lib.hid ((HR2.out.below HBB.out).more HBB.out.size)
  have HB3 := Lib.hid (HB2.out.trans (HBB.out.mono hz2))
  have hz3 : w.heap.size ≤ w3.heap.size := HB3.out.size
  clear hb3 b3 o3 HBB HR12 HR2
  dsimp only at HR3 ⊢
  go_wp2_with fail
  have hb4 := HB3.out.alloc hz3 (.cells #[.int .i64 10] 3)
  refine (run_lit [10] _ _ w _ 1 rfl (by decide) (by decide) HT.out kn4 hb4 (by simp; omega) (Blk.new _ _ _)).mono ?_
  rintro e w4 ⟨a4, c4, rfl, o4, b4⟩
  have HBB := Lib.hid ((((Below.refl w3.heap.size w3).alloc (Nat.le_refl _) (.cells #[.int .i64 10] 3)).trans (b4.mono (by simp))))
  have HR14 := Lib.hid ((HR13.out.below HBB.out).more HBB.out.size)
  have HR24 := Lib.hid ((HR23.out.below HBB.out).more HBB.out.size)
  have HR34 := Lib.hid ((HR3.out.below HBB.out).more HBB.out.size)
  have HB4 := Lib.hid (HB3.out.trans (HBB.out.mono hz3))
  have hz4 : w.heap.size ≤ w4.heap.size := HB4.out.size
  clear hb4 b4 o4 HBB HR13 HR23 HR3
  dsimp only
  go_wp2_with fail
  have HBA := Lib.hid ((Below.refl w4.heap.size w4).alloc (Nat.le_refl _) (.cells #[.string ⟨#[102, 111, 120]⟩, .int .i64 1, .int .i64 4, .int .i64 7] 43))
  refine (tokensEq_any a1 (some ⟨w4.heap.size, 0, none⟩) c1 1 [⟨⟨#[102, 111, 120]⟩, 1, 4, 7⟩] [⟨⟨#[102, 111, 120]⟩, 1, 4, 7⟩] _ ((HR14.out.below HBA.out).more HBA.out.size) (reads_blk (Blk.new _ _ _) rfl) (by decide) (by decide) true (by simp)).mono ?_
  rintro e w5 ⟨rfl, b5⟩
  have HBB := Lib.hid (HBA.out.trans (b5.mono (by simp)))
  have HR25 := Lib.hid ((HR24.out.below HBB.out).more HBB.out.size)
  have HR35 := Lib.hid ((HR34.out.below HBB.out).more HBB.out.size)
  have HB5 := Lib.hid (HB4.out.trans (HBB.out.mono hz4))
  have hz5 : w.heap.size ≤ w5.heap.size := HB5.out.size
  clear b5 HBA HBB HR24 HR34 HR14
  go_wp2_with fail
  have HBA := Lib.hid ((Below.refl w5.heap.size w5).alloc (Nat.le_refl _) (.cells #[.string ⟨#[230, 157, 177, 228, 186, 172]⟩, .int .i64 0, .int .i64 0, .int .i64 6, .string ⟨#[228, 186, 172, 233, 131, 189]⟩, .int .i64 1, .int .i64 3, .int .i64 9, .string ⟨#[120]⟩, .int .i64 2, .int .i64 10, .int .i64 11] 43))
  refine (tokensEq_any a2 (some ⟨w5.heap.size, 0, none⟩) c2 3 [⟨⟨#[230, 157, 177, 228, 186, 172]⟩, 0, 0, 6⟩, ⟨⟨#[228, 186, 172, 233, 131, 189]⟩, 1, 3, 9⟩, ⟨⟨#[120]⟩, 2, 10, 11⟩] [⟨⟨#[230, 157, 177, 228, 186, 172]⟩, 0, 0, 6⟩, ⟨⟨#[228, 186, 172, 233, 131, 189]⟩, 1, 3, 9⟩, ⟨⟨#[120]⟩, 2, 10, 11⟩] _ ((HR25.out.below HBA.out).more HBA.out.size) (reads_blk (Blk.new _ _ _) rfl) (by decide) (by decide) true (by simp)).mono ?_
  rintro e w6 ⟨rfl, b6⟩
  have HBB := Lib.hid (HBA.out.trans (b6.mono (by simp)))
  have HR36 := Lib.hid ((HR35.out.below HBB.out).more HBB.out.size)
  have HB6 := Lib.hid (HB5.out.trans (HBB.out.mono hz5))
  have hz6 : w.heap.size ≤ w6.heap.size := HB6.out.size
  clear b6 HBA HBB HR25 HR35
  go_wp2_with fail
  have HBA := Lib.hid ((Below.refl w6.heap.size w6).alloc (Nat.le_refl _) (.cells #[.string ⟨#[97, 98, 99]⟩, .int .i64 0, .int .i64 0, .int .i64 4, .string ⟨#[98, 99, 100]⟩, .int .i64 0, .int .i64 0, .int .i64 4, .string ⟨#[97, 98]⟩, .int .i64 1, .int .i64 5, .int .i64 7] 43))
  refine (tokensEq_any a3 (some ⟨w6.heap.size, 0, none⟩) c3 3 [⟨⟨#[97, 98, 99]⟩, 0, 0, 4⟩, ⟨⟨#[98, 99, 100]⟩, 0, 0, 4⟩, ⟨⟨#[97, 98]⟩, 1, 5, 7⟩] [⟨⟨#[97, 98, 99]⟩, 0, 0, 4⟩, ⟨⟨#[98, 99, 100]⟩, 0, 0, 4⟩, ⟨⟨#[97, 98]⟩, 1, 5, 7⟩] _ ((HR36.out.below HBA.out).more HBA.out.size) (reads_blk (Blk.new _ _ _) rfl) (by decide) (by decide) true (by simp)).mono ?_
  rintro e w7 ⟨rfl, b7⟩
  have HBB := Lib.hid (HBA.out.trans (b7.mono (by simp)))
  have HB7 := Lib.hid (HB6.out.trans (HBB.out.mono hz6))
  clear b7 HBA HBB HR36
  go_wp2_with fail
  go_ret
  exact ⟨rfl, HB7.out⟩
end Go.Proofs.YtfbedonphhiolaaDoor.Ana
