/- The walk of OrderDecimals. -/
import Derived.Test.YtebagmiclfhelaaDoorOrdAwake2
set_option linter.unusedVariables false
namespace Go.Proofs.YtebagmiclfhelaaDoor.OrderDecimalsWalk
open Go.RowKit Go.Lib OrdP Kit OrdRef OrdLib Words Owned

set_option maxRecDepth 100000 in
theorem walk (s : ByteArray) (n scale : Int) (w : World) (hs : s.size < 4294967281) (h0 : -9223372036854775808 ≤ n) (h9 : n ≤ 9223372036854775807) (hT : OTabs w) :
    Calls Tryd.prog 3 #[.string s, .int .i64 n, .int .i64 scale] w (BoolB true w) := by
  obtain ⟨a, ha⟩ : ∃ a, decN s.data.toList scale = a := ⟨_, rfl⟩
  obtain ⟨b, hb⟩ : ∃ b, decE s.data.toList scale = b := ⟨_, rfl⟩
  obtain ⟨t, ht⟩ : ∃ t, str (txtS n scale) = t := ⟨_, rfl⟩
  obtain ⟨g, hg⟩ : ∃ g, txtE scale = g := ⟨_, rfl⟩
  have C1 : ∀ w, OTabs w → Calls Tryd.prog 9 #[.string s, .int .i64 scale] w (fun e w' => e = .returned (.tuple #[.int .i64 a, .int .i64 b]) ∧ Below w.heap.size w w') := by
    intro w h; rw [← ha, ← hb]; exact dec_any s scale w hs h
  have C2 : ∀ w, Calls Tryd.prog 10 #[.string s, .int .i64 scale] w (fun e w' => e = .returned (.tuple #[.int .i64 a, .int .i64 b]) ∧ Below w.heap.size w w') := by
    intro w; rw [← ha, ← hb]; exact refDec_any s scale w (by omega)
  have C3 : ∀ w, OTabs w → Calls Tryd.prog 11 #[.int .i64 n, .int .i64 scale] w (fun e w' => e = .returned (.tuple #[.string t, .int .i64 g]) ∧ Below w.heap.size w w') := by
    intro w h; rw [← ht, ← hg]; exact text_any n scale w h0 h9 h
  have C4 : ∀ w, Calls Tryd.prog 12 #[.int .i64 n, .int .i64 scale] w (fun e w' => e = .returned (.tuple #[.string t, .int .i64 g]) ∧ Below w.heap.size w w') := by
    intro w; rw [← ht, ← hg]; exact refText_any n scale w h0 h9
  clear ha hb ht hg h0 h9 hs
  have C1 := Lib.hid C1; have C2 := Lib.hid C2; have C3 := Lib.hid C3; have C4 := Lib.hid C4
  have HT := Lib.hid hT; clear hT
  go_enter Tryd.func3, Tryd.ntmps3
  go_wp2_with fail
  refine (C1.out w HT.out).mono ?_
  rintro e w1 ⟨rfl, b1⟩
  have T1 := Lib.hid (HT.out.next b1); have B1 := Lib.hid b1; clear b1
  go_wp2_with fail
  refine (C2.out w1).mono ?_
  rintro e w2 ⟨rfl, b2⟩
  have T2 := Lib.hid (T1.out.next b2); have B2 := Lib.hid (B1.out.trans (b2.mono B1.out.size)); clear b2
  go_wp2_with fail
  refine (C3.out w2 T2.out).mono ?_
  rintro e w3 ⟨rfl, b3⟩
  have T3 := Lib.hid (T2.out.next b3); have B3 := Lib.hid (B2.out.trans (b3.mono B2.out.size)); clear b3
  go_wp2_with fail
  refine (C4.out w3).mono ?_
  rintro e w4 ⟨rfl, b4⟩
  have T4 := Lib.hid (T3.out.next b4); have B4 := Lib.hid (B3.out.trans (b4.mono B3.out.size)); clear b4
  go_wp2_with fail
  refine (awake_any w4 T4.out).mono ?_
  rintro e w5 ⟨rfl, b5⟩
  have B5 := Lib.hid (B4.out.trans (b5.mono B4.out.size)); clear b5
  go_wp2_with fail
  go_ret
  exact ⟨ret_bool (by simp), B5.out⟩
end Go.Proofs.YtebagmiclfhelaaDoor.OrderDecimalsWalk
