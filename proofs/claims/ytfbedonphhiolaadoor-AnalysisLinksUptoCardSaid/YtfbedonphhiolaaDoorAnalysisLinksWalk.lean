/- The walk of AnalysisLinks. -/
import Derived.Test.YtfbedonphhiolaaDoorAnaRefLink
import Derived.Test.YtfbedonphhiolaaDoorAnaMarks
set_option linter.unusedVariables false
namespace Go.Proofs.YtfbedonphhiolaaDoor.AnalysisLinksWalk
open Go.RowKit Go.Lib FoldP FoldNext AnaP Words Tree Kit Owned Ana

/-- Tokens and a number are answered. -/
def Ret (ts : List TokD) (k : Int) (w : World) (e : Ending) (w' : World) : Prop :=
  ∃ ao c, e = .returned (.tuple #[.slice ao ts.length c, .int .i64 k]) ∧ Reads w' w'.heap.size 4 ao ts.length (tokCells ts) ∧ Below w.heap.size w w'
theorem ret_none {k : Int} {w w' : World} {e : Ending} (h : e = .returned (.tuple #[.slice none 0 0, .int .i64 k]) ∧ Below w.heap.size w w') : Ret [] k w e w' := ⟨none, 0, h.1, Reads.none_, h.2⟩
theorem ret_84 {w w' : World} {e : Ending} (h : LinkRet none w e w') : Ret [] 84 w e w' := by
  rcases h with ⟨_, h1, h2⟩ | ⟨ts, ao, c, h0, _⟩
  · exact ret_none ⟨h1, h2⟩
  · cases h0
theorem ret_some {ts : List TokD} {w w' : World} {e : Ending} (h : LinkRet (some ts) w e w') : Ret ts 0 w e w' := by
  rcases h with ⟨h0, _⟩ | ⟨ts', ao, c, h0, h1, h2, h3⟩
  · cases h0
  · cases h0; exact ⟨ao, c, h1, h2, h3⟩
theorem linkGo_len (n : Int) : ∀ (l acc ts : List TokD), acc.length ≤ 4096 → linkGo n l acc = some ts → ts.length ≤ 4096
  | [], acc, ts, h, e => by unfold linkGo at e; cases e; exact h
  | t :: l, acc, ts, h, e => by
    unfold linkGo at e
    split at e
    · cases e
    · exact linkGo_len n l _ ts (by omega) e

theorem links (n : Int) (toks : List TokD) (hl : toks.length ≤ 1048576) (ht : ∀ t ∈ toks, t.text.size ≤ 1048576) : ∃ (ts : List TokD) (k : Int), ts.length ≤ 4398046511104 ∧
    (∀ (W : World) (ao : Option Addr) (c : Nat), Reads W W.heap.size 4 ao toks.length (tokCells toks) → Tabs W → Calls Tryd.prog 10 #[.int .i64 n, .slice ao toks.length c] W (Ret ts k W)) ∧
    (∀ (W : World) (ao : Option Addr) (c : Nat), Reads W W.heap.size 4 ao toks.length (tokCells toks) → Calls Tryd.prog 11 #[.int .i64 n, .slice ao toks.length c] W (Ret ts k W)) := by
  by_cases hf : filterB n = true
  · cases hR : linkF n toks with
    | none =>
      refine ⟨[], 84, by simp, fun W ao c hk hT => ?_, fun W ao c hk => ?_⟩
      · have h := link_any n hf ao c toks W hk hl ht hT
        rw [hR] at h
        exact h.mono fun _ _ => ret_84
      · have h := refLink_any n hf ao c toks W hk hl ht
        rw [hR] at h
        exact h.mono fun _ _ => ret_84
    | some ts =>
      refine ⟨ts, 0, by have := linkGo_len n toks [] ts (by simp) hR; omega, fun W ao c hk hT => ?_, fun W ao c hk => ?_⟩
      · have h := link_any n hf ao c toks W hk hl ht hT
        rw [hR] at h
        exact h.mono fun _ _ => ret_some
      · have h := refLink_any n hf ao c toks W hk hl ht
        rw [hR] at h
        exact h.mono fun _ _ => ret_some
  · have hf' : filterB n = false := by simpa using hf
    exact ⟨[], 60, by simp, fun W ao c _ _ => (link_none n ao toks.length c W hf').mono fun _ _ => ret_none, fun W ao c _ => (refLink_none n ao toks.length c W hf').mono fun _ _ => ret_none⟩

set_option maxRecDepth 100000 in
set_option maxHeartbeats 4000000 in
theorem walk (n : Int) (ao : Option Addr) (c : Nat) (toks : List TokD) (x : ByteArray) (r : Int) (w : World) (hk : Reads w w.heap.size 4 ao toks.length (tokCells toks)) (hl : toks.length ≤ 1048576) (ht : ∀ t ∈ toks, t.text.size ≤ 1048576) (hT : Tabs w) :
    Calls Tryd.prog 3 #[.int .i64 n, .slice ao toks.length c, .string x, .int .i32 r] w (BoolB true w) := by
  obtain ⟨ts, k, hts, hL1, hL2⟩ := links n toks hl ht
  have H1 := Lib.hid hL1; have H2 := Lib.hid hL2; have HK := Lib.hid hk; have HT := Lib.hid hT
  have hkk : (k == k) = true := by simp
  clear hL1 hL2 hk hT ht
  go_enter Tryd.func3, Tryd.ntmps3
  go_wp2_with fail
  refine (lent_any ao c toks _ HK.out (by omega)).mono ?_
  rintro e w1 ⟨v, rfl, hv, b1⟩
  have HV := Lib.hid hv
  have HB1 := Lib.hid b1
  obtain ⟨g, cap, rfl, hg1, hg2, hrd, hg3, _⟩ := hv.reads
  have HR1 := Lib.hid hrd
  clear b1 hrd hv
  go_wp2_with fail
  refine (H1.out _ _ _ HR1.out (HT.out.next HB1.out)).mono ?_
  rintro e w2 ⟨a2, c2, rfl, hr2, b2⟩
  have HR2 := Lib.hid hr2
  have HV2 := Lib.hid (HV.out.below b2)
  have HB2 := Lib.hid (HB1.out.trans (b2.mono HB1.out.size))
  clear hr2 b2
  go_wp2_with fail
  refine (H2.out _ _ _ ((HK.out.below HB2.out).more HB2.out.size)).mono ?_
  rintro e w3 ⟨a3, c3, rfl, hr3, b3⟩
  have HR3 := Lib.hid hr3
  have HR23 := Lib.hid ((HR2.out.below b3).more b3.size)
  have HV3 := Lib.hid (HV2.out.below b3)
  have HB3 := Lib.hid (HB2.out.trans (b3.mono HB2.out.size))
  clear hr3 b3
  go_wp2_with fail
  refine (tokensEq_any _ _ _ _ ts ts _ HR23.out HR3.out (by omega) (by omega) true (by simp)).mono ?_
  rintro e w4 ⟨rfl, b4⟩
  have HV4 := Lib.hid (HV3.out.below b4)
  have HB4 := Lib.hid (HB3.out.trans (b4.mono HB3.out.size))
  clear b4
  go_wp2_with fail
  refine (kept_any _ _ _ _ toks _ HV4.out ((HK.out.below HB4.out).more HB4.out.size) (by omega)).mono ?_
  rintro e w5 ⟨rfl, b5⟩
  have HB5 := Lib.hid (HB4.out.trans (b5.mono HB4.out.size))
  clear b5
  go_wp2_with fail
  refine (stop_any x _).mono ?_
  rintro e w6 ⟨rfl, rfl⟩
  go_wp2_with fail
  refine (refStop_any x _).mono ?_
  rintro e w7 ⟨rfl, b7⟩
  have HB7 := Lib.hid (HB5.out.trans (b7.mono HB5.out.size))
  clear b7
  generalize stopF x = sx at *
  have hss : (sx == sx) = true := by simp
  generalize hbx : blankF r = bx at *
  have hbb : (bx == bx) = true := by simp
  go_wp2_with fail
  refine (blank_any r _).mono ?_
  rintro e w8 ⟨rfl, rfl⟩
  go_wp2_with fail
  refine (refBlank_any r _).mono ?_
  rintro e w9 ⟨rfl, rfl⟩
  rw [hbx]
  go_wp2_with fail
  go_ret
  exact ⟨rfl, HB7.out⟩
end Go.Proofs.YtfbedonphhiolaaDoor.AnalysisLinksWalk
