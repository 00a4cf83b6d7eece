/- The walk of AnalysisRuns. -/
import Derived.Test.YtfbedonphhiolaaDoorAnaRefRun
set_option linter.unusedVariables false
namespace Go.Proofs.YtfbedonphhiolaaDoor.AnalysisRunsWalk
open Go.RowKit Go.Lib FoldP FoldNext AnaP Words Tree Kit Owned Ana

set_option maxRecDepth 100000 in
set_option maxHeartbeats 4000000 in
theorem walk (ao : Option Addr) (c : Nat) (l : List Int) (x : ByteArray) (w : World) (hk : Reads w w.heap.size 1 ao l.length (intCells l)) (hl : l.length * 8 ≤ 140737488351232) (hc : l.length ≤ c) (hm : c ≤ maxLen) (hx : x.size ≤ 9223372036854775807) (hT : Tabs w) :
    Calls Tryd.prog 4 #[.slice ao l.length c, .string x] w (BoolB true w) := by
  have hl2 := runF_len l x
  have HK := Lib.hid hk; have HT := Lib.hid hT
  have HRA := Lib.hid (fun (ao : Option Addr) (cp : Nat) (W : World) (hW : Below w.heap.size w W) (h1 : Reads W W.heap.size 1 ao l.length (intCells l)) (h2 : l.length ≤ cp) (h3 : cp ≤ maxLen) => run_any ao l.length cp l x W rfl h1 h2 h3 hx (hT.next hW))
  have HRB := Lib.hid (fun (W : World) (h1 : Reads W W.heap.size 1 ao l.length (intCells l)) => refRun_any ao l.length c l x W rfl h1 hc hm hx)
  have HCA := Lib.hid (fun (ao : Option Addr) (cp : Nat) (W : World) (h1 : Reads W W.heap.size 1 ao l.length (intCells l)) (h2 : l.length ≤ cp) (h3 : cp ≤ maxLen) => check_any ao l.length cp l W rfl h1 h2 h3)
  have HCB := Lib.hid (fun (W : World) (h1 : Reads W W.heap.size 1 ao l.length (intCells l)) => refCheck_any ao l.length c l W rfl h1 (Nat.le_trans hc hm))
  have HCC := Lib.hid hc; have HM := Lib.hid hm
  clear hk hT hc hm
  generalize runF l x = R at *
  obtain ⟨ts, k⟩ := R
  dsimp only at hl2
  generalize errOf (checkB l) = q at *
  have hkk : (k == k) = true := by simp
  have hqq : (q == q) = true := by simp
  go_enter Tryd.func4, Tryd.ntmps4
  go_wp2_with fail
  refine (lentInts_any ao c l _ HK.out hl).mono ?_
  rintro e w1 ⟨v, rfl, hv, b1⟩
  have HV := Lib.hid hv
  have HB1 := Lib.hid b1
  obtain ⟨g, cap, rfl, hg1, hg2, hrd, hg3, _⟩ := hv.reads
  have HR1 := Lib.hid hrd; have HG2 := Lib.hid hg2
  clear b1 hrd hv hg2
  go_wp2_with fail
  refine (HRA.out _ cap _ HB1.out HR1.out (by omega) HG2.out).mono ?_
  rintro e w2 ⟨a2, c2, rfl, hr2, b2⟩
  have HR2 := Lib.hid (Reads.of_own hr2)
  have HV2 := Lib.hid (HV.out.below b2)
  have HB2 := Lib.hid (HB1.out.trans (b2.mono HB1.out.size))
  clear hr2 b2
  dsimp only
  go_wp2_with fail
  refine (HRB.out _ ((HK.out.below HB2.out).more HB2.out.size)).mono ?_
  rintro e w3 ⟨a3, c3, rfl, hr3, b3⟩
  have HR3 := Lib.hid (Reads.of_own hr3)
  have HR23 := Lib.hid ((HR2.out.below b3).more b3.size)
  have HV3 := Lib.hid (HV2.out.below b3)
  have HB3 := Lib.hid (HB2.out.trans (b3.mono HB2.out.size))
  clear hr3 b3
  dsimp only
  go_wp2_with fail
  refine (tokensEq_any _ _ _ _ ts ts _ HR23.out HR3.out (by omega) (by omega) true (by simp)).mono ?_
  rintro e w4 ⟨rfl, b4⟩
  have HV4 := Lib.hid (HV3.out.below b4)
  have HB4 := Lib.hid (HB3.out.trans (b4.mono HB3.out.size))
  clear b4
  obtain ⟨g', cap', he, _, _, hrd4, _, _⟩ := HV4.out.reads
  cases he
  have HR4 := Lib.hid hrd4; clear hrd4
  go_wp2_with fail
  refine (HCA.out _ cap _ HR4.out (by omega) HG2.out).mono ?_
  rintro e w5 ⟨rfl, b5⟩
  have HV5 := Lib.hid (HV4.out.below b5)
  have HB5 := Lib.hid (HB4.out.trans (b5.mono HB4.out.size))
  clear b5
  go_wp2_with fail
  refine (HCB.out _ ((HK.out.below HB5.out).more HB5.out.size)).mono ?_
  rintro e w6 ⟨rfl, b6⟩
  have HV6 := Lib.hid (HV5.out.below b6)
  have HB6 := Lib.hid (HB5.out.trans (b6.mono HB5.out.size))
  clear b6
  go_wp2_with fail
  refine (keptInts_any _ _ _ _ l _ HV6.out ((HK.out.below HB6.out).more HB6.out.size) hl).mono ?_
  rintro e w7 ⟨rfl, b7⟩
  have HB7 := Lib.hid (HB6.out.trans (b7.mono HB6.out.size))
  clear b7
  go_wp2_with fail
  go_ret
  exact ⟨rfl, HB7.out⟩
end Go.Proofs.YtfbedonphhiolaaDoor.AnalysisRunsWalk
