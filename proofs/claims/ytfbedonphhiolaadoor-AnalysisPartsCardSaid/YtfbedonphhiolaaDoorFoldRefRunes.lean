/- Contract: 'Runes' of the document's answer: two new slices, the places and the runes. -/
import Derived.Test.YtfbedonphhiolaaDoorFoldValid
import Derived.Test.YtfbedonphhiolaaDoorOwn
namespace Go.Proofs.YtfbedonphhiolaaDoor.FoldRefRunes
open Go.RowKit Go.Lib FoldP FoldInts Kit FoldForms FoldNext FoldValid Words Owned

theorem infoInt : (Tryd.prog.info? 3).map (fun i => (i.zero, i.size, i.bytes)) = some (some (.int .i64 0), 1, 8) := by kernel_rfl
theorem infoRune : (Tryd.prog.info? 21).map (fun i => (i.zero, i.size, i.bytes)) = some (some (.int .i32 0), 1, 4) := by kernel_rfl

def cellP (x : Nat × Int) : Value := .int .i64 (x.1 : Int)
def cellR (x : Nat × Int) : Value := .int .i32 x.2

def RunesRet (l : List UInt8) (w : World) (e : Ending) (w' : World) : Prop :=
  ∃ v1 v2, e = .returned (.tuple #[v1, v2]) ∧ w'.ownsRow w.heap.size 3 1 v1 (runesL l).length ((runesL l).map cellP) ∧ w'.ownsRow w.heap.size 21 1 v2 (runesL l).length ((runesL l).map cellR) ∧ Below w.heap.size w w'

set_option maxHeartbeats 1000000 in
theorem refRunes_any (s : ByteArray) (w : World) (hs : s.size ≤ 1099511627776) :
    Calls Tryd.prog 37 #[.string s] w (RunesRet s.data.toList w) := by
  obtain ⟨i0, hi, hz0, hz1, hz2⟩ := info_parts infoInt
  obtain ⟨j0, hj, hy0, hy1, hy2⟩ := info_parts infoRune
  go_enter Tryd.func37, Tryd.ntmps37
  go_wp2
  go_loopw [4, 5, 6] (fun a b i wr => ∃ (k : Nat) (pre : List (Nat × Int)), k ≤ s.size ∧ pre.length ≤ k ∧ i = .int .i64 k ∧ Hid (pre ++ runesFrom k (s.data.toList.drop k) = runesL s.data.toList) ∧
      Hid (wr.ownsRow w.heap.size 3 1 a pre.length (pre.map cellP)) ∧ Hid (wr.ownsRow w.heap.size 21 1 b pre.length (pre.map cellR)) ∧ Hid (Below w.heap.size w wr)) (fun _ _ i _ => s.size - (RowKit.intOf i).toNat)
  case atStart => exact ⟨0, [], Nat.zero_le _, Nat.le_refl _, rfl, Lib.hid rfl, Lib.hid (World.ownsRow_nil _ _ _ _), Lib.hid (World.ownsRow_nil _ _ _ _), Lib.hid (Below.refl _ _)⟩
  case round =>
    obtain ⟨k, pre, hk, hpl, rfl, HP, HA, HB, HBW⟩ := hrel
    have hlen : s.data.toList.length = s.size := by simp
    by_cases hlt : k < s.size
    · have hst := step_le s.data.toList k (by rw [hlen]; exact hlt)
      have hat := runesAt s.data.toList k (by rw [hlen]; exact hlt)
      rw [hlen] at hst
      clear hlen
      cases hdr : decodeL (s.data.toList.drop k) with
      | mk rr nn =>
      have HN := Lib.hid (refNext_at s k wr (by omega) hlt rr nn hdr)
      rw [hdr] at hst hat
      clear hdr
      dsimp only at hst hat
      obtain ⟨hst1, hst2⟩ := hst
      have HAT := Lib.hid hat; clear hat
      go_wp2_with fail
      refine HN.out.mono ?_
      rintro e w2 ⟨rfl, hb2⟩
      have HB2 := Lib.hid hb2; clear hb2
      have hbw2 : Below w.heap.size w w2 := HBW.out.trans (HB2.out.mono HBW.out.size)
      have ha2 := own_below HA.out HB2.out
      have hB2 := own_below HB.out HB2.out
      go_wp2_with (at_builtin; refine wpList_append_own _ rfl (.tmp 19) (.tmp 21) 33 rfl w.heap.size 3 i0 (.int .i64 0) 1 8 Tryd.underlying33 hi hz0 hz1 hz2 rfl (by decide) u4 pre.length (pre.map cellP) rfl (ha2.alloc _) ⟨w2.heap.size, 0, none⟩ 1 1 [.int .i64 (k : Int)] rfl rfl ?c1 ?c2 ?c3 ?c4 ?c5 ?_)
      case c1 => exact cell_one_new _ _ _
      case c2 => intro u hu; simp at hu; subst hu; rfl
      case c3 => unfold maxLen; omega
      case c4 => omega
      case c5 => have := hbw2.size; simp; omega
      intro v1 w3 hown1 hgrow1 _
      have hB3 := (hB2.alloc (.cells #[.int .i64 (k : Int)] 3)).kept hgrow1 (own_own_ne hB2 ha2 (by decide))
      have hbw3 : Below w.heap.size w w3 := (hbw2.alloc hbw2.size (.cells #[.int .i64 (k : Int)] 3)).grown hgrow1 (by have := hbw2.size; simp; omega) (fun k hk => (ha2.lt k hk).1)
      go_wp2_with (at_builtin; refine wpList_append_own _ rfl (.tmp 23) (.tmp 25) 53 rfl w.heap.size 21 j0 (.int .i32 0) 1 4 Tryd.underlying53 hj hy0 hy1 hy2 rfl (by decide) u5 pre.length (pre.map cellR) rfl (hB3.alloc _) ⟨w3.heap.size, 0, none⟩ 1 1 [.int .i32 (rr : Int)] rfl rfl ?d1 ?d2 ?d3 ?d4 ?d5 ?_)
      case d1 => exact cell_one_new _ _ _
      case d2 => intro u hu; simp at hu; subst hu; rfl
      case d3 => unfold maxLen; omega
      case d4 => omega
      case d5 => have := hbw3.size; simp; omega
      intro v2 w4 hown2 hgrow2 _
      have ha4 := (hown1.alloc (.cells #[.int .i32 (rr : Int)] 21)).kept hgrow2 (own_own_ne hown1 hB3 (by decide))
      have hbw4 : Below w.heap.size w w4 := (hbw3.alloc hbw3.size (.cells #[.int .i32 (rr : Int)] 21)).grown hgrow2 (by have := hbw3.size; simp; omega) (fun k hk => (hB3.lt k hk).1)
      have H1 := Lib.hid ha4
      have H2 := Lib.hid hown2
      have H3 := Lib.hid hbw4
      clear ha4 hown2 hbw4 hown1 hgrow1 hgrow2 hB3 hbw3 ha2 hB2 hbw2
      go_wp2
      go_roundw
      case rel =>
        refine ⟨k + nn, pre ++ [(k, (rr : Int))], hst2, by simp; omega, by go_num, ?_, ?_, ?_, H3⟩
        · unfold Hid; rw [← HP.out, HAT.out]; simp
        · have := H1.out; unfold Hid; simpa [cellP] using this
        · have := H2.out; unfold Hid; simpa [cellR] using this
      case measure => simp [RowKit.intOf]; omega
    · obtain rfl : k = s.size := by omega
      go_wp2_with fail
      go_ret2
      have hp := HP.out
      rw [runesEnd _ _ (by rw [hlen]; exact Nat.le_refl _), List.append_nil] at hp
      subst hp
      exact ⟨_, _, rfl, HA.out, HB.out, HBW.out⟩
end Go.Proofs.YtfbedonphhiolaaDoor.FoldRefRunes
