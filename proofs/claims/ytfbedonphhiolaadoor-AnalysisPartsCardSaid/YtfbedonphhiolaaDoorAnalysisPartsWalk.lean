/- The walk of AnalysisParts. -/
import Derived.Test.YtfbedonphhiolaaDoorAnaRun
import Derived.Test.YtfbedonphhiolaaDoorAnaPlain
import Derived.Test.YtfbedonphhiolaaDoorAnaRefToks
set_option linter.unusedVariables false
namespace Go.Proofs.YtfbedonphhiolaaDoor.Ana
open Go.RowKit Go.Lib FoldP FoldInts Kit FoldForms FoldNext AnaP Words Owned Tree

theorem reads_blk {w : World} {g n m : Nat} {t : TypeId} {l : List Value} (h : Blk w g t l.toArray) (hl : l.length = n * m) : Reads w w.heap.size m (some ⟨g, 0, none⟩) n l :=
  ⟨hl, fun _ => ⟨_, rfl, h.lt, fun j u hu => by
    have e : (⟨g, 0, none⟩ : Addr).add j = ⟨g, j, none⟩ := by unfold Addr.add; split <;> simp_all
    rw [e, h.cell j]
    simpa using hu⟩⟩
theorem run_lit (l : List Int) (s : ByteArray) (r : List TokD × Int) (w W : World) (n : Nat) (hn : n = l.length) (h8 : l.length ≤ 8) (hs : s.size ≤ 4096) (hT : Tabs w) (hr : runF l s = r) (hw : Below w.heap.size w W) (hz : w.heap.size < W.heap.size)
    {g : Nat} (hg : Blk W g 3 (intCells l).toArray) :
    Calls Tryd.prog 19 #[.slice (some ⟨g, 0, none⟩) n n, .string s] W (RunRet r W) := by
  subst hn
  rw [← hr]
  exact run_any _ _ _ l s W rfl (reads_blk hg (by simp [intCells])) (Nat.le_refl _) (by unfold maxLen; omega) (by omega) (hT.next hw)

set_option maxRecDepth 100000 in
set_option maxHeartbeats 4000000 in
theorem known_any (w : World) (hT : Tabs w) : Calls Tryd.prog 24 #[] w (BoolB true w) := by
  have HT := Lib.hid hT; clear hT
  have HB0 : Hid (Below w.heap.size w w) := Lib.hid (Below.refl _ _)
  go_enter Tryd.func24, Tryd.ntmps24
  go_wp2_with fail
  have hb1 : Below w.heap.size w (w.alloc (.cells #[.int .i64 1, .int .i64 10, .int .i64 11] 3)) := (Below.refl _ _).alloc (Nat.le_refl _) _
  refine (run_lit [1, 10, 11] _ _ w _ 3 rfl (by decide) (by decide) HT.out kn1 hb1 (by simp) (Blk.new _ _ _)).mono ?_
  rintro e w1 ⟨a1, c1, rfl, o1, b1⟩
  have HR1 := Lib.hid (Reads.of_own o1)
  have HB1 := Lib.hid (hb1.trans (b1.mono (by simp)))
  have hz1 : w.heap.size ≤ w1.heap.size := HB1.out.size
  clear hb1 b1 o1
  dsimp only at HR1 ⊢
  go_wp2_with fail
  have hb2 := HB1.out.alloc hz1 (.cells #[.int .i64 4] 3)
  refine (run_lit [4] _ _ w _ 1 rfl (by decide) (by decide) HT.out kn2 hb2 (by simp; omega) (Blk.new _ _ _)).mono ?_
  rintro e w2 ⟨a2, c2, rfl, o2, b2⟩
  have HR2 := Lib.hid (Reads.of_own o2)
  have HBB := Lib.hid ((((Below.refl w1.heap.size w1).alloc (Nat.le_refl _) (.cells #[.int .i64 4] 3)).trans (b2.mono (by simp))))
  have HR12 := Lib.hid ((HR1.out.below HBB.out).more HBB.out.size)
  have HB2 := Lib.hid (HB1.out.trans (HBB.out.mono hz1))
  have hz2 : w.heap.size ≤ w2.heap.size := HB2.out.size
  clear hb2 b2 o2 HBB HR1
  dsimp only at HR2 ⊢
  go_wp2_with fail
  have hb3 := HB2.out.alloc hz2 (.cells #[.int .i64 1, .int .i64 13] 3)
  refine (run_lit [1, 13] _ _ w _ 2 rfl (by decide) (by decide) HT.out kn3 hb3 (by simp; omega) (Blk.new _ _ _)).mono ?_
  rintro e w3 ⟨a3, c3, rfl, o3, b3⟩
  have HR3 := Lib.hid (Reads.of_own o3)
  have HBB := Lib.hid ((((Below.refl w2.heap.size w2).alloc (Nat.le_refl _) (.cells #[.int .i64 1, .int .i64 13] 3)).trans (b3.mono (by simp))))
  have HR13 := Lib.hid ((HR12.out.below HBB.out).more HBB.out.size)
  have HR23 := Lib.hid ((HR2.out.below HBB.out).more HBB.out.size)
  have HB3 := Lib.hid (HB2.out.trans (HBB.out.mono hz2))
  have hz3 : w.heap.size ≤ w3.heap.size := HB3.out.size
  clear hb3 b3 o3 HBB HR12 HR2
  dsimp only at HR3 ⊢
  go_wp2_with fail
  have hb4 := HB3.out.alloc hz3 (.cells #[.int .i64 10] 3)
  refine (run_lit [10] _ _ w _ 1 rfl (by decide) (by decide) HT.out kn4 hb4 (by simp; omega) (Blk.new _ _ _)).mono ?_
  rintro e w4 ⟨a4, c4, rfl, o4, b4⟩
  have HBB := Lib.hid ((((Below.refl w3.heap.size w3).alloc (Nat.le_refl _) (.cells #[.int .i64 10] 3)).trans (b4.mono (by simp))))
  have HR14 := Lib.hid ((HR13.out.below HBB.out).more HBB.out.size)
  have HR24 := Lib.hid ((HR23.out.below HBB.out).more HBB.out.size)
  have HR34 := Lib.hid ((HR3.out.below HBB.out).more HBB.out.size)
  have HB4 := Lib.hid (HB3.out.trans (HBB.out.mono hz3))
  have hz4 : w.heap.size ≤ w4.heap.size := HB4.out.size
  clear hb4 b4 o4 HBB HR13 HR23 HR3
  dsimp only
  go_wp2_with fail
  have HBA := Lib.hid ((Below.refl w4.heap.size w4).alloc (Nat.le_refl _) (.cells #[.string ⟨#[102, 111, 120]⟩, .int .i64 1, .int .i64 4, .int .i64 7] 43))
  refine (tokensEq_any a1 (some ⟨w4.heap.size, 0, none⟩) c1 1 [⟨⟨#[102, 111, 120]⟩, 1, 4, 7⟩] [⟨⟨#[102, 111, 120]⟩, 1, 4, 7⟩] _ ((HR14.out.below HBA.out).more HBA.out.size) (reads_blk (Blk.new _ _ _) rfl) (by decide) (by decide) true (by simp)).mono ?_
  rintro e w5 ⟨rfl, b5⟩
  have HBB := Lib.hid (HBA.out.trans (b5.mono (by simp)))
  have HR25 := Lib.hid ((HR24.out.below HBB.out).more HBB.out.size)
  have HR35 := Lib.hid ((HR34.out.below HBB.out).more HBB.out.size)
  have HB5 := Lib.hid (HB4.out.trans (HBB.out.mono hz4))
  have hz5 : w.heap.size ≤ w5.heap.size := HB5.out.size
  clear b5 HBA HBB HR24 HR34 HR14
  go_wp2_with fail
  have HBA := Lib.hid ((Below.refl w5.heap.size w5).alloc (Nat.le_refl _) (.cells #[.string ⟨#[230, 157, 177, 228, 186, 172]⟩, .int .i64 0, .int .i64 0, .int .i64 6, .string ⟨#[228, 186, 172, 233, 131, 189]⟩, .int .i64 1, .int .i64 3, .int .i64 9, .string ⟨#[120]⟩, .int .i64 2, .int .i64 10, .int .i64 11] 43))
  refine (tokensEq_any a2 (some ⟨w5.heap.size, 0, none⟩) c2 3 [⟨⟨#[230, 157, 177, 228, 186, 172]⟩, 0, 0, 6⟩, ⟨⟨#[228, 186, 172, 233, 131, 189]⟩, 1, 3, 9⟩, ⟨⟨#[120]⟩, 2, 10, 11⟩] [⟨⟨#[230, 157, 177, 228, 186, 172]⟩, 0, 0, 6⟩, ⟨⟨#[228, 186, 172, 233, 131, 189]⟩, 1, 3, 9⟩, ⟨⟨#[120]⟩, 2, 10, 11⟩] _ ((HR25.out.below HBA.out).more HBA.out.size) (reads_blk (Blk.new _ _ _) rfl) (by decide) (by decide) true (by simp)).mono ?_
  rintro e w6 ⟨rfl, b6⟩
  have HBB := Lib.hid (HBA.out.trans (b6.mono (by simp)))
  have HR36 := Lib.hid ((HR35.out.below HBB.out).more HBB.out.size)
  have HB6 := Lib.hid (HB5.out.trans (HBB.out.mono hz5))
  have hz6 : w.heap.size ≤ w6.heap.size := HB6.out.size
  clear b6 HBA HBB HR25 HR35
  go_wp2_with fail
  have HBA := Lib.hid ((Below.refl w6.heap.size w6).alloc (Nat.le_refl _) (.cells #[.string ⟨#[97, 98, 99]⟩, .int .i64 0, .int .i64 0, .int .i64 4, .string ⟨#[98, 99, 100]⟩, .int .i64 0, .int .i64 0, .int .i64 4, .string ⟨#[97, 98]⟩, .int .i64 1, .int .i64 5, .int .i64 7] 43))
  refine (tokensEq_any a3 (some ⟨w6.heap.size, 0, none⟩) c3 3 [⟨⟨#[97, 98, 99]⟩, 0, 0, 4⟩, ⟨⟨#[98, 99, 100]⟩, 0, 0, 4⟩, ⟨⟨#[97, 98]⟩, 1, 5, 7⟩] [⟨⟨#[97, 98, 99]⟩, 0, 0, 4⟩, ⟨⟨#[98, 99, 100]⟩, 0, 0, 4⟩, ⟨⟨#[97, 98]⟩, 1, 5, 7⟩] _ ((HR36.out.below HBA.out).more HBA.out.size) (reads_blk (Blk.new _ _ _) rfl) (by decide) (by decide) true (by simp)).mono ?_
  rintro e w7 ⟨rfl, b7⟩
  have HBB := Lib.hid (HBA.out.trans (b7.mono (by simp)))
  have HB7 := Lib.hid (HB6.out.trans (HBB.out.mono hz6))
  clear b7 HBA HBB HR36
  go_wp2_with fail
  go_ret
  exact ⟨rfl, HB7.out⟩
end Go.Proofs.YtfbedonphhiolaaDoor.Ana

namespace Go.Proofs.YtfbedonphhiolaaDoor.AnalysisPartsWalk
open Go.RowKit Go.Lib FoldP FoldNext AnaP Words Tree Kit Owned Ana

theorem join_eq (a b : ByteArray) : a ++ (⟨#[32]⟩ : ByteArray) ++ b = joinB a b := by
  apply ByteArray.ext
  apply Array.toList_inj.1
  simp [joinB]
theorem join_size (a b : ByteArray) : (joinB a b).size = a.size + b.size + 1 := by
  show (a.data.toList ++ 32 :: b.data.toList).toArray.size = _
  rw [List.size_toArray, List.length_append, List.length_cons]
  have e1 : a.data.toList.length = a.size := by simp
  have e2 : b.data.toList.length = b.size := by simp
  omega

set_option maxRecDepth 100000 in
set_option maxHeartbeats 4000000 in
theorem walk_long (a b : ByteArray) (w : World) (ha : a.size ≤ 140737488351232) (hb : b.size ≤ 140737488351232) (hT : Tabs w) (h : 4096 < a.size + b.size + 1) :
    Calls Tryd.prog 7 #[.string a, .string b] w (BoolB true w) := by
  have HT := Lib.hid hT; clear hT
  have h1 : decide ((4096 : Int) < (a.size : Int) + (b.size : Int) + 1) = true := by rw [decide_eq_true_iff]; omega
  go_enter Tryd.func7, Tryd.ntmps7
  go_wp2_with fail
  refine (known_any _ HT.out).mono ?_
  rintro e w1 ⟨rfl, b1⟩
  have HB1 := Lib.hid b1; clear b1
  go_wp2_with fail
  go_ret
  exact ⟨rfl, HB1.out⟩

set_option maxRecDepth 100000 in
set_option maxHeartbeats 8000000 in
theorem walk_short (a b : ByteArray) (w : World) (hT : Tabs w) (h : a.size + b.size + 1 ≤ 4096) :
    Calls Tryd.prog 7 #[.string a, .string b] w (BoolB true w) := by
  obtain ⟨i0, hi, hz0, hz1, hz2⟩ := info_parts infoTok
  have HI1 := Lib.hid hi; have HI2 := Lib.hid hz0; have HI3 := Lib.hid hz1; have HI4 := Lib.hid hz2
  have HT := Lib.hid hT; clear hT hi hz0 hz1 hz2
  have h1 : decide ((4096 : Int) < (a.size : Int) + (b.size : Int) + 1) = false := by rw [decide_eq_false_iff_not]; omega
  go_enter Tryd.func7, Tryd.ntmps7
  go_wp2_with fail
  refine (known_any _ HT.out).mono ?_
  rintro e w1 ⟨rfl, b1⟩
  have HB1 := Lib.hid b1; clear b1
  go_wp2_with fail
  go_loopw [5, 6, 7, 8, 9, 10, 11, 12, 13, 14] (fun n _ _ _ _ _ _ _ _ _ wr => ∃ q : Nat, 1 ≤ q ∧ q ≤ 3 ∧ n = .int .i64 q ∧ Hid (Below w.heap.size w wr)) (fun n _ _ _ _ _ _ _ _ _ _ => 3 - (RowKit.intOf n).toNat)
  case atStart => exact ⟨1, by omega, by omega, rfl, HB1⟩
  case round =>
    obtain ⟨q, hq1, hq3, rfl, HW⟩ := hrel
    have hzr := HW.out.size
    by_cases hlt : q ≤ 2
    · have hle : decide ((q : Int) ≤ 2) = true := by rw [decide_eq_true_iff]; omega
      have HQ : Hid ((q : Int) = 1 ∨ (q : Int) = 2) := Lib.hid (by omega)
      have HRN : Hid (∀ s : ByteArray, s.size ≤ 4096 → runF [(q : Int)] s = (tokensF q s, 0)) := Lib.hid (fun s hs => runF_one q (by omega) (by omega) s hs)
      have HKL : Hid ((tokensF q a).length ≤ a.size) := Lib.hid (tokensF_len q a)
      have HLL : Hid ((tokensF q b).length ≤ b.size) := Lib.hid (tokensF_len q b)
      have HLT := Lib.hid (tokens_text q b)
      have HBL : Hid (tokensF q (joinB a b) = tokensF q a ++ (tokensF q b).map (shiftT (tokensF q a).length (a.size + 1))) := Lib.hid (tokens_blank q HQ.out a b)
      obtain ⟨wo, hwo⟩ : ∃ wo : World, wr = wo := ⟨_, rfl⟩
      rw [hwo] at HW hzr ⊢
      clear hwo wr
      go_wp2_with fail
      have hbA := HW.out.alloc hzr (.cells #[.int .i64 (q : Int)] 3)
      refine (run_lit [(q : Int)] a _ w _ 1 rfl (by simp) (by omega) HT.out (HRN.out a (by omega)) hbA (by simp; omega) (Blk.new _ _ _)).mono ?_
      rintro e w2 ⟨a2, c2, rfl, o2, b2⟩
      have HR2 := Lib.hid (Reads.of_own o2)
      have HB2 := Lib.hid (hbA.trans (b2.mono hbA.size))
      have hz2 := HB2.out.size
      clear hbA b2 o2
      dsimp only at HR2 ⊢
      go_wp2_with fail
      have hbA := HB2.out.alloc hz2 (.cells #[.int .i64 (q : Int)] 3)
      refine (run_lit [(q : Int)] b _ w _ 1 rfl (by simp) (by omega) HT.out (HRN.out b (by omega)) hbA (by simp; omega) (Blk.new _ _ _)).mono ?_
      rintro e w3 ⟨a3, c3, rfl, o3, b3⟩
      have HR3 := Lib.hid (Reads.of_own o3)
      have HBB := Lib.hid (((Below.refl w2.heap.size w2).alloc (Nat.le_refl _) (.cells #[.int .i64 (q : Int)] 3)).trans (b3.mono (by simp)))
      have HR23 := Lib.hid ((HR2.out.below HBB.out).more HBB.out.size)
      have HB3 := Lib.hid (hbA.trans (b3.mono hbA.size))
      have hz3 := HB3.out.size
      clear hbA b3 o3 HBB HR2
      dsimp only at HR3 ⊢
      go_wp2_with fail
      have hbA := HB3.out.alloc hz3 (.cells #[.int .i64 (q : Int)] 3)
      have hjs := join_size a b
      obtain ⟨s3, hs3⟩ : ∃ s3, a ++ (⟨#[32]⟩ : ByteArray) ++ b = s3 := ⟨_, rfl⟩
      have hs4 : s3 = joinB a b := by rw [← hs3, join_eq]
      have hs5 : s3.size ≤ 4096 := by rw [hs4]; omega
      have hrn3 : runF [(q : Int)] s3 = (tokensF q a ++ (tokensF q b).map (shiftT (tokensF q a).length (a.size + 1)), 0) := by rw [HRN.out s3 hs5, hs4, HBL.out]
      rw [hs3]
      clear hs3 hs4 HBL hjs
      refine (run_lit [(q : Int)] s3 _ w _ 1 rfl (by simp) hs5 HT.out hrn3 hbA (by simp; omega) (Blk.new _ _ _)).mono ?_
      rintro e w4 ⟨a4, c4, rfl, o4, b4⟩
      have HR4 := Lib.hid (Reads.of_own o4)
      have HBB := Lib.hid (((Below.refl w3.heap.size w3).alloc (Nat.le_refl _) (.cells #[.int .i64 (q : Int)] 3)).trans (b4.mono (by simp)))
      have HR24 := Lib.hid ((HR23.out.below HBB.out).more HBB.out.size)
      have HR34 := Lib.hid ((HR3.out.below HBB.out).more HBB.out.size)
      have HB4 := Lib.hid (hbA.trans (b4.mono hbA.size))
      have hz4 := HB4.out.size
      have hkl := HKL.out
      have hll := HLL.out
      clear hbA b4 o4 HBB HR23 HR3 HRN hrn3
      dsimp only at HR4 ⊢
      generalize tokensF q a = K at *
      generalize tokensF q b = L at *
      have hi := HI1.out; have hx0 := HI2.out; have hx1 := HI3.out; have hx2 := HI4.out
      have hrk := HR24.out
      go_wp2_with (at_builtin; refine wpList_append_any _ rfl (.tmp 62) (.tmp 63) 22 rfl w4.heap.size 43 i0 (.agg #[.string ⟨#[]⟩, .int .i64 0, .int .i64 0, .int .i64 0]) 4 40 Tryd.underlying22 hi hx0 hx1 hx2 rfl (by decide) (.slice none 0 0) 0 [] rfl (World.ownsRow_nil _ _ _ _) w4.heap.size a2 K.length c2 (tokCells K) rfl hrk ?c2 ?c3 ?c4 ?c5 ?_)
      case c2 => intro u hu; exact tok_one hu
      case c3 => unfold maxLen; omega
      case c4 => omega
      case c5 => exact Nat.le_refl _
      intro v5 w5 o5 g5 _
      have hb5 : Below w4.heap.size w4 w5 := (Below.refl _ w4).grown g5 (Nat.le_refl _) (fun r e => by cases e)
      have HO5 : Hid (w5.ownsRow w4.heap.size 43 4 v5 (K ++ (L.take 0).map (shiftT K.length (a.size + 1))).length (tokCells (K ++ (L.take 0).map (shiftT K.length (a.size + 1))))) := Lib.hid (by simpa using o5)
      have HB5 := Lib.hid hb5
      clear o5 g5 hb5 hrk hi hx0 hx1 hx2
      go_wp2_with fail
      go_loopw [12, 13, 14] (fun o i _ wq => ∃ j : Nat, j ≤ L.length ∧ i = .int .i64 j ∧ Hid (wq.ownsRow w4.heap.size 43 4 o (K ++ (L.take j).map (shiftT K.length (a.size + 1))).length (tokCells (K ++ (L.take j).map (shiftT K.length (a.size + 1))))) ∧ Hid (Below w4.heap.size w4 wq)) (fun _ i _ _ => L.length - (RowKit.intOf i).toNat)
      case atStart => exact ⟨0, by omega, rfl, HO5, HB5⟩
      case round =>
        obtain ⟨j, hj, rfl, HO, HV⟩ := hrel
        have hzv := HV.out.size
        by_cases hlj : j < L.length
        · obtain ⟨ad, rfl, hba, c0, c1, c2', c3'⟩ := reads_tok HR34.out rfl hlj
          obtain ⟨x, y, hxy, hy, e1, e2, e3, e4⟩ := HLT.out j hlj
          have hba2 : (ad.add (j * 4)).block < w4.heap.size := by rw [block_of_add]; exact hba
          have d0 := (HV.out.cell (p := ad.add (j * 4)) hba2).trans c0
          have d1 := (HV.out.cell (p := ⟨(ad.add (j * 4)).block, (ad.add (j * 4)).off + 1, none⟩) hba2).trans c1
          have d2 := (HV.out.cell (p := ⟨(ad.add (j * 4)).block, (ad.add (j * 4)).off + 2, none⟩) hba2).trans c2'
          have d3 := (HV.out.cell (p := ⟨(ad.add (j * 4)).block, (ad.add (j * 4)).off + 3, none⟩) hba2).trans c3'
          rw [e1] at d0; rw [e2] at d1; rw [e3] at d2; rw [e4] at d3
          have HTK : Hid (K ++ (L.take (j + 1)).map (shiftT K.length (a.size + 1)) = (K ++ (L.take j).map (shiftT K.length (a.size + 1))) ++ [⟨b.extract x y, (j : Int) + (K.length : Int), (x : Int) + (a.size : Int) + 1, (y : Int) + (a.size : Int) + 1⟩]) := Lib.hid (by
            rw [List.take_succ_eq_append_getElem hlj, List.map_append, ← List.append_assoc]
            congr 1
            have e : L[j] = ⟨b.extract x y, (j : Int), (x : Int), (y : Int)⟩ := by
              generalize L[j] = t at *
              obtain ⟨t1, t2, t3, t4⟩ := t
              dsimp only at e1 e2 e3 e4
              rw [e1, e2, e3, e4]
            rw [e]
            simp only [List.map_cons, List.map_nil, shiftT, List.cons.injEq, TokD.mk.injEq, true_and, and_true]
            omega)
          have htl : (K ++ (L.take j).map (shiftT K.length (a.size + 1))).length = K.length + j := by rw [List.length_append, List.length_map, List.length_take]; omega
          have HTL := Lib.hid htl
          clear e1 e2 e3 e4 c0 c1 c2' c3' htl
          have hi := HI1.out; have hx0 := HI2.out; have hx1 := HI3.out; have hx2 := HI4.out
          have ho := HO.out
          rw [HTL.out] at ho
          generalize b.extract x y = tx at *
          have hab2 : (ad.add (j * 4)).block < wr.heap.size := by omega
          have hne : wr.heap.size ≠ (ad.add (j * 4)).block := by omega
          go_upto_region 22 with fail
          go_wp2_with (at_builtin; refine wpList_append_own _ rfl (.tmp 95) (.tmp 97) 22 rfl w4.heap.size 43 i0 (.agg #[.string ⟨#[]⟩, .int .i64 0, .int .i64 0, .int .i64 0]) 4 40 Tryd.underlying22 hi hx0 hx1 hx2 rfl (by decide) _ _ _ rfl ((ho.alloc _).alloc _) ⟨wr.heap.size + 1, 0, none⟩ 1 1 [.string tx, .int .i64 ((j : Int) + (K.length : Int)), .int .i64 ((x : Int) + (a.size : Int) + 1), .int .i64 ((y : Int) + (a.size : Int) + 1)] rfl rfl ?d1 ?d2 ?d3 ?d4 ?d5 ?_)
          case d1 => intro u v hu; have := cells_new (wr.alloc (.cells #[.string tx, .int .i64 ((j : Int) + (K.length : Int)), .int .i64 ((x : Int) + (a.size : Int) + 1), .int .i64 ((y : Int) + (a.size : Int) + 1)] 43)) [.string tx, .int .i64 ((j : Int) + (K.length : Int)), .int .i64 ((x : Int) + (a.size : Int) + 1), .int .i64 ((y : Int) + (a.size : Int) + 1)] 43 u v hu; rw [World.size_alloc] at this; exact this
          case d2 => intro u hu; exact tok_one (ts := [⟨tx, (j : Int) + (K.length : Int), (x : Int) + (a.size : Int) + 1, (y : Int) + (a.size : Int) + 1⟩]) hu
          case d3 => unfold maxLen; omega
          case d4 => omega
          case d5 => simp; omega
          intro v' w6 o6 g6 _
          have hb6 : Below w4.heap.size w4 w6 := ((HV.out.alloc hzv _).alloc (by simp; omega) _).grown g6 (by simp; omega) (fun r e => (ho.lt r e).1)
          have HO6 : Hid (w6.ownsRow w4.heap.size 43 4 v' (K ++ (L.take (j + 1)).map (shiftT K.length (a.size + 1))).length (tokCells (K ++ (L.take (j + 1)).map (shiftT K.length (a.size + 1))))) := Lib.hid (by rw [HTK.out, tokCells_append, List.length_append, HTL.out, List.map_take]; exact o6)
          have HB6 := Lib.hid hb6
          clear ho o6 g6 hb6 hi hx0 hx1 hx2 d0 d1 d2 d3
          go_wp2_with fail
          go_roundw
          case rel => exact ⟨j + 1, by omega, by go_num, HO6, HB6⟩
          case measure => simp [RowKit.intOf]; omega
        · obtain rfl : j = L.length := by omega
          have HOF : Hid (wr.ownsRow w4.heap.size 43 4 u12 (K ++ L.map (shiftT K.length (a.size + 1))).length (tokCells (K ++ L.map (shiftT K.length (a.size + 1))))) := Lib.hid (by have := HO.out; rwa [List.take_of_length_le (Nat.le_refl _)] at this)
          have HR4V := Lib.hid ((HR4.out.below HV.out).more HV.out.size)
          obtain ⟨aw, cw, rfl⟩ := own_slice2 HOF.out
          have HRF := Lib.hid (Reads.of_own HOF.out)
          have hlk : (K ++ L.map (shiftT K.length (a.size + 1))).length = K.length + L.length := by rw [List.length_append, List.length_map]
          have hcal := fun W h1 h2 => tokensEq_any a4 aw c4 cw (K ++ L.map (shiftT K.length (a.size + 1))) (K ++ L.map (shiftT K.length (a.size + 1))) W h1 h2 (by omega) (by omega) true (by simp)
          have h9 := HR4V.out
          have h10 := HRF.out
          rw [hlk] at hcal h9 h10 ⊢
          have HCAL := Lib.hid hcal
          have H9 := Lib.hid h9; have H10 := Lib.hid h10
          clear hcal h9 h10 hlk HR4V HRF HOF
          go_wp2_with fail
          refine (HCAL.out _ H9.out H10.out).mono ?_
          rintro e w7 ⟨rfl, b7⟩
          have HB7 := Lib.hid (HB4.out.trans ((HV.out.trans (b7.mono HV.out.size)).mono HB4.out.size))
          clear b7
          go_wp2_with fail
          go_roundw
          case rel => exact ⟨q + 1, by omega, by omega, by go_num, HB7⟩
          case measure => simp [RowKit.intOf]; omega
    · have hle : decide ((q : Int) ≤ 2) = false := by rw [decide_eq_false_iff_not]; omega
      go_wp2_with fail
      go_ret
      exact ⟨rfl, HW.out⟩
theorem walk (a b : ByteArray) (w : World) (ha : a.size ≤ 140737488351232) (hb : b.size ≤ 140737488351232) (hT : Tabs w) :
    Calls Tryd.prog 7 #[.string a, .string b] w (BoolB true w) := by
  by_cases h : 4096 < a.size + b.size + 1
  · exact walk_long a b w ha hb hT h
  · exact walk_short a b w hT (by omega)
end Go.Proofs.YtfbedonphhiolaaDoor.AnalysisPartsWalk
