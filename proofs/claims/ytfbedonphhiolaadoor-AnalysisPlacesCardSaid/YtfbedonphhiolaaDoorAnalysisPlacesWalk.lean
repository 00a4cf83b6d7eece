/- The walk of AnalysisPlaces. -/
import Derived.Test.YtfbedonphhiolaaDoorAnaKnown
import Derived.Test.YtfbedonphhiolaaDoorAnaPlain
import Derived.Deep.QuietTactic
import Derived.BigQuiet
set_option linter.unusedVariables false
namespace Go.Proofs.YtfbedonphhiolaaDoor.AnalysisPlacesWalk
open Go.RowKit Go.Lib FoldP FoldNext AnaP Words Tree Kit Owned Ana

/-- What is asked of token k of an answer. -/
structure TokAsk (ts : List TokD) (n : Nat) (one : Bool) (x : ByteArray) (k : Nat) (t : TokD) : Prop where
  lo : 0 ≤ t.frm
  lt : t.frm < t.til
  hi : t.til ≤ (n : Int)
  prev : ∀ p, 0 < k → ts[k - 1]? = some p → p.pos ≤ t.pos ∧ p.frm ≤ t.frm
  own : one = true → ∃ a b : Nat, a ≤ b ∧ b ≤ x.size ∧ t = ⟨x.extract a b, k, a, b⟩
theorem tokAsk (l : List Int) (x : ByteArray) (he : (runF l x).2 = 0) (k : Nat) (hk : k < (runF l x).1.length) : TokAsk (runF l x).1 x.size (decide (l.length = 1)) x k (runF l x).1[k] := by
  obtain ⟨h1, h2⟩ := runF_places l x he
  obtain ⟨a1, a2, a3⟩ := h1 _ (List.getElem_mem hk)
  refine ⟨a1, a2, a3, fun p h0 hp => ?_, fun h => ?_⟩
  · obtain ⟨hlt, rfl⟩ := List.getElem?_eq_some_iff.1 hp
    exact (List.pairwise_iff_getElem.1 h2) (k - 1) k hlt hk (by omega)
  · have hs := runF_single l x (by simpa using h) he
    have hk2 : k < (tokensF (l.getD 0 0) x).length := by rw [← hs]; exact hk
    obtain ⟨a, b, b1, b2, b3, b4, b5, b6⟩ := tokens_text (l.getD 0 0) x k hk2
    have e : (runF l x).1[k] = (tokensF (l.getD 0 0) x)[k] := by simp only [hs]
    rw [e]
    refine ⟨a, b, b1, b2, ?_⟩
    generalize (tokensF (l.getD 0 0) x)[k] = t at *
    obtain ⟨t1, t2, t3, t4⟩ := t
    dsimp only at b3 b4 b5 b6
    rw [b3, b4, b5, b6]

set_option maxRecDepth 100000 in
set_option maxHeartbeats 4000000 in
theorem walk_err (ao : Option Addr) (c : Nat) (l : List Int) (x : ByteArray) (w : World) (hk : Reads w w.heap.size 1 ao l.length (intCells l)) (hc : l.length ≤ c) (hm : c ≤ maxLen) (hx : x.size ≤ 9223372036854775807) (hT : Tabs w) (he : ¬ (runF l x).2 = 0) :
    Calls Tryd.prog 5 #[.slice ao l.length c, .string x] w (BoolB true w) := by
  have HT := Lib.hid hT
  have HRA := Lib.hid (fun (W : World) (hW : Below w.heap.size w W) => run_any ao l.length c l x W rfl ((hk.below hW).more hW.size) hc hm hx (hT.next hW))
  have h0 := (runF_cases l x).resolve_left he
  generalize runF l x = R at *
  obtain ⟨ts, k⟩ := R
  dsimp only at h0 he
  subst h0
  have hkn : (k != 0) = true := by rw [bne_iff_ne]; exact he
  clear hk hT he
  go_enter Tryd.func5, Tryd.ntmps5
  go_wp2_with fail
  refine (known_any _ HT.out).mono ?_
  rintro e w1 ⟨rfl, b1⟩
  have HB1 := Lib.hid b1; clear b1
  go_wp2_with fail
  refine (HRA.out _ HB1.out).mono ?_
  rintro e w2 ⟨a2, c2, rfl, o2, b2⟩
  have HB2 := Lib.hid (HB1.out.trans (b2.mono HB1.out.size))
  clear o2 b2
  dsimp only
  go_wp2_with fail
  go_ret
  exact ⟨rfl, HB2.out⟩

set_option maxRecDepth 100000 in
set_option maxHeartbeats 8000000 in
theorem walk_ok (ao : Option Addr) (c : Nat) (l : List Int) (x : ByteArray) (w : World) (hk : Reads w w.heap.size 1 ao l.length (intCells l)) (hc : l.length ≤ c) (hm : c ≤ maxLen) (hx : x.size ≤ 9223372036854775807) (hT : Tabs w) (he : (runF l x).2 = 0) :
    Calls Tryd.prog 5 #[.slice ao l.length c, .string x] w (BoolB true w) := by
  have HT := Lib.hid hT
  have HRA := Lib.hid (fun (W : World) (hW : Below w.heap.size w W) => run_any ao l.length c l x W rfl ((hk.below hW).more hW.size) hc hm hx (hT.next hW))
  have HAS := Lib.hid (tokAsk l x he)
  have hlen := runF_len l x
  generalize runF l x = R at *
  obtain ⟨ts, k⟩ := R
  dsimp only at HAS he hlen
  subst he
  obtain ⟨n, hn⟩ : ∃ n, l.length = n := ⟨_, rfl⟩
  rw [hn] at HRA HAS ⊢
  clear hk hT hc hn
  go_enter Tryd.func5, Tryd.ntmps5
  go_wp2_with fail
  refine (known_any _ HT.out).mono ?_
  rintro e w1 ⟨rfl, b1⟩
  have HB1 := Lib.hid b1; clear b1
  go_wp2_with fail
  refine (HRA.out _ HB1.out).mono ?_
  rintro e w2 ⟨a2, c2, rfl, o2, b2⟩
  have HB2 := Lib.hid (HB1.out.trans (b2.mono HB1.out.size))
  have HR2 := Lib.hid (Reads.of_own o2)
  clear o2 b2
  dsimp only at HR2 ⊢
  go_wp2_with fail
  go_loopw [7] (fun i wr => ∃ (k m : Nat), k ≤ ts.length ∧ i = .int .i64 k ∧ wr = w2.drewN m) (fun i _ => ts.length - (RowKit.intOf i).toNat)
  case atStart => exact ⟨0, 0, by omega, rfl, rfl⟩
  case round =>
    obtain ⟨k, m, hk, rfl, rfl⟩ := hrel
    by_cases hlt : k < ts.length
    · obtain ⟨ad, rfl, hba, c0, c1, c2', c3⟩ := reads_tok HR2.out rfl hlt
      obtain ⟨g1, g2, g3, g4, g5⟩ := HAS.out k hlt
      have HP : Hid (0 < k → ∃ p, ts[k - 1]? = some p ∧ w2.cell? ⟨(ad.add ((k - 1) * 4)).block, (ad.add ((k - 1) * 4)).off + 1, none⟩ = some (.int .i64 p.pos) ∧ w2.cell? ⟨(ad.add ((k - 1) * 4)).block, (ad.add ((k - 1) * 4)).off + 2, none⟩ = some (.int .i64 p.frm)) := Lib.hid (fun h => by
        have hlt2 : k - 1 < ts.length := by omega
        obtain ⟨ad', e, _, _, d1, d2, _⟩ := reads_tok HR2.out rfl hlt2
        cases e
        exact ⟨ts[k - 1], List.getElem?_eq_getElem hlt2, d1, d2⟩)
      have HG4 := Lib.hid g4; have HG5 := Lib.hid g5
      clear g4 g5
      generalize ts[k] = t at *
      obtain ⟨tx, ps, fr, tl⟩ := t
      dsimp only at *
      by_cases hn : n = 1
      · subst hn
        obtain ⟨a, b, ab1, ab2, hab⟩ := HG5.out rfl
        simp only [TokD.mk.injEq] at hab
        obtain ⟨rfl, rfl, rfl, rfl⟩ := hab
        have ht1 : (a : Int) ≤ (b : Int) := by omega
        have ht2 : (b : Int) ≤ (x.size : Int) := by omega
        have ht3 : (0 : Int) ≤ (a : Int) := by omega
        have dn2 : decide (b ≤ a) = false := by rw [decide_eq_false_iff_not]; omega
        have dn3 : decide (x.size < b) = false := by rw [decide_eq_false_iff_not]; omega
        have dn4 : ¬ b ≤ a := by omega
        have dn5 : ¬ x.size < b := by omega
        have d1 : decide ((a : Int) < 0) = false := by rw [decide_eq_false_iff_not]; omega
        have d2 : decide ((b : Int) ≤ a) = false := by rw [decide_eq_false_iff_not]; omega
        have d3 : decide ((x.size : Int) < b) = false := by rw [decide_eq_false_iff_not]; omega
        have hx1 : (k : Int) < (ts.length : Int) := by omega
        by_cases h0 : 0 < k
        · obtain ⟨p, hp, p1, p2⟩ := HP.out h0
          obtain ⟨q1, q2⟩ := HG4.out p h0 hp
          clear hp
          generalize p.pos = pp at *
          generalize p.frm = pf at *
          have d4 : decide (0 < (k : Int)) = true := by rw [decide_eq_true_iff]; omega
          have d5 : decide ((k : Int) < pp) = false := by rw [decide_eq_false_iff_not]; omega
          have d6 : decide ((a : Int) < pf) = false := by rw [decide_eq_false_iff_not]; omega
          have hx2 : (k : Int) - 1 < (ts.length : Int) := by omega
          have hy1 : IntKind.i64.wrap ((k : Int) - 1) = (k : Int) - 1 := IntWalk.i64_in _ (by omega)
          have hy2 : 0 ≤ (k : Int) - 1 := by omega
          have hy4 : 1 ≤ (k : Int) := by omega
          have hy3 : ((k : Int) - 1).toNat = k - 1 := by omega
          go_wp2_with fail
          go_quiet (fail)
          go_wp2_with fail
          go_quiet (fail)
          go_wp2_with fail
          go_roundw
          case rel => exact ⟨k + 1, _, by omega, by go_num, by first | rfl | (rw [World.drewN_drewN, World.drewN_drewN])⟩
          case measure => simp [RowKit.intOf]; omega
        · have d4 : decide (0 < (k : Int)) = false := by rw [decide_eq_false_iff_not]; omega
          go_wp2_with fail
          go_quiet (fail)
          go_wp2_with fail
          go_quiet (fail)
          go_wp2_with fail
          go_roundw
          case rel => exact ⟨k + 1, _, by omega, by go_num, by first | rfl | (rw [World.drewN_drewN, World.drewN_drewN])⟩
          case measure => simp [RowKit.intOf]; omega
      · have hnb : ((n : Int) == 1) = false := by rw [beq_eq_false_iff_ne]; omega
        have hnc : ¬ n = 1 := hn
        have d1 : decide ((fr : Int) < 0) = false := by rw [decide_eq_false_iff_not]; omega
        have d2 : decide ((tl : Int) ≤ fr) = false := by rw [decide_eq_false_iff_not]; omega
        have d3 : decide ((x.size : Int) < tl) = false := by rw [decide_eq_false_iff_not]; omega
        have hx1 : (k : Int) < (ts.length : Int) := by omega
        by_cases h0 : 0 < k
        · obtain ⟨p, hp, p1, p2⟩ := HP.out h0
          obtain ⟨q1, q2⟩ := HG4.out p h0 hp
          clear hp
          generalize p.pos = pp at *
          generalize p.frm = pf at *
          have d4 : decide (0 < (k : Int)) = true := by rw [decide_eq_true_iff]; omega
          have d5 : decide ((ps : Int) < pp) = false := by rw [decide_eq_false_iff_not]; omega
          have d6 : decide ((fr : Int) < pf) = false := by rw [decide_eq_false_iff_not]; omega
          have hx2 : (k : Int) - 1 < (ts.length : Int) := by omega
          have hy1 : IntKind.i64.wrap ((k : Int) - 1) = (k : Int) - 1 := IntWalk.i64_in _ (by omega)
          have hy2 : 0 ≤ (k : Int) - 1 := by omega
          have hy4 : 1 ≤ (k : Int) := by omega
          have hy3 : ((k : Int) - 1).toNat = k - 1 := by omega
          go_wp2_with fail
          go_quiet (fail)
          go_wp2_with fail
          go_quiet (fail)
          go_wp2_with fail
          go_roundw
          case rel => exact ⟨k + 1, _, by omega, by go_num, by first | rfl | (rw [World.drewN_drewN, World.drewN_drewN])⟩
          case measure => simp [RowKit.intOf]; omega
        · have d4 : decide (0 < (k : Int)) = false := by rw [decide_eq_false_iff_not]; omega
          go_wp2_with fail
          go_quiet (fail)
          go_wp2_with fail
          go_quiet (fail)
          go_wp2_with fail
          go_roundw
          case rel => exact ⟨k + 1, _, by omega, by go_num, by first | rfl | (rw [World.drewN_drewN, World.drewN_drewN])⟩
          case measure => simp [RowKit.intOf]; omega
    · obtain rfl : k = ts.length := by omega
      have hle : decide ((ts.length : Int) ≤ 4096) = true := by rw [decide_eq_true_iff]; omega
      go_wp2_with fail
      go_ret
      exact ⟨rfl, below_drewN HB2.out _⟩
theorem walk (ao : Option Addr) (c : Nat) (l : List Int) (x : ByteArray) (w : World) (hk : Reads w w.heap.size 1 ao l.length (intCells l)) (hc : l.length ≤ c) (hm : c ≤ maxLen) (hx : x.size ≤ 9223372036854775807) (hT : Tabs w) :
    Calls Tryd.prog 5 #[.slice ao l.length c, .string x] w (BoolB true w) := by
  by_cases he : (runF l x).2 = 0
  · exact walk_ok ao c l x w hk hc hm hx hT he
  · exact walk_err ao c l x w hk hc hm hx hT he
end Go.Proofs.YtfbedonphhiolaaDoor.AnalysisPlacesWalk
