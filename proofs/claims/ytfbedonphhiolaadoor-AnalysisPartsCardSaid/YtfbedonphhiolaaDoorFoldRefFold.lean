/- Contract: 'Fold' of the document's answer. -/
import Derived.Test.YtfbedonphhiolaaDoorFoldValid
import Derived.Test.YtfbedonphhiolaaDoorOwn
import Derived.Lib.AppendStr
namespace Go.Proofs.YtfbedonphhiolaaDoor.FoldRefFold
open Go.RowKit Go.Lib FoldP FoldInts Kit FoldForms FoldNext FoldValid Words Owned FoldAmong

theorem infoByte : (Tryd.prog.info? 5).map (fun i => (i.zero, i.size, i.bytes)) = some (some (.int .u8 0), 1, 1) := by kernel_rfl

def StrBelow (l : List UInt8) (w : World) (e : Ending) (w' : World) : Prop := e = .returned (.string (str l)) ∧ Below w.heap.size w w'

theorem lower_valid (r : Nat) (h : lowerF r ≠ r) : Lib.validRune (lowerF r) = true := by
  have := lower_moves r (by omega) h
  unfold Lib.validRune; simp; omega

set_option maxHeartbeats 2000000 in
theorem refFold_any (s : ByteArray) (w : World) (hs : s.size ≤ 140737488351232) :
    Calls Tryd.prog 38 #[.string s] w (StrBelow (foldL s.data.toList) w) := by
  obtain ⟨i0, hi, hz0, hz1, hz2⟩ := info_parts infoByte
  go_enter Tryd.func38, Tryd.ntmps38
  go_wp2
  go_loopw [3, 4] (fun b i wr => ∃ (k : Nat) (pre : List UInt8), k ≤ s.size ∧ Hid (pre.length = k) ∧ i = .int .i64 k ∧ Hid (pre ++ foldL (s.data.toList.drop k) = foldL s.data.toList) ∧
      Hid (wr.ownsRow w.heap.size 5 1 b k (byteCells pre)) ∧ Hid (Below w.heap.size w wr)) (fun _ i _ => s.size - (RowKit.intOf i).toNat)
  case atStart => exact ⟨0, [], Nat.zero_le _, rfl, rfl, Lib.hid rfl, Lib.hid (World.ownsRow_nil _ _ _ _), Lib.hid (Below.refl _ _)⟩
  case round =>
    obtain ⟨k, pre, hk, HPL, rfl, HP, HA, HBW⟩ := hrel
    have hlen : s.data.toList.length = s.size := by simp
    by_cases hlt : k < s.size
    · have hst := step_le s.data.toList k (by rw [hlen]; exact hlt)
      have hat := foldAt s.data.toList k (by rw [hlen]; exact hlt)
      have hpl := piece_len (s.data.toList.drop k) (by intro e; have := congrArg List.length e; simp at this; omega)
      have hle := decodeL_rune (s.data.toList.drop k)
      rw [hlen] at hst
      clear hlen
      cases hdr : decodeL (s.data.toList.drop k) with
      | mk rr nn =>
      have HN := Lib.hid (refNext_at s k wr (by omega) hlt rr nn hdr)
      unfold piece at hat hpl
      rw [hdr] at hst hat hpl hle
      clear hdr
      dsimp only at hst hat hpl hle
      obtain ⟨hst1, hst2⟩ := hst
      have HAT := Lib.hid hat; clear hat
      by_cases hlow : lowerF rr = rr
      · have hneq : (lowerF rr != (rr : Int)) = false := by rw [hlow]; simp
        have HLOW := Lib.hid hlow; clear hlow
        clear hpl
        go_wp2_with fail
        refine HN.out.mono ?_
        rintro e w2 ⟨rfl, hb2⟩
        have HB2 := Lib.hid hb2; clear hb2
        go_wp2_with fail
        refine (refLower_any rr w2).mono ?_
        rintro e w3 ⟨rfl, hb3⟩
        have HB3 := Lib.hid hb3; clear hb3
        have ha3 := own_below (own_below HA.out HB2.out) HB3.out
        have hbw3 : Below w.heap.size w w3 := (HBW.out.trans (HB2.out.mono HBW.out.size)).trans (HB3.out.mono (Nat.le_trans HBW.out.size HB2.out.size))
        have hsz : (s.extract k (k + nn)).size = nn := by simp; omega
        have hcells : strCells (s.extract k (k + nn)) = byteCells ((s.data.toList.drop k).take nn) := by
          rw [strCells_eq, extract_data, show k + nn - k = nn by omega]
        have HSZ := Lib.hid hsz; clear hsz
        have HCE := Lib.hid hcells; clear hcells
        go_wp2_with (at_builtin; refine Lib.wpList_append_own_string _ rfl (.tmp 26) (.tmp 32) 57 9 rfl w.heap.size 5 i0 Tryd.underlying57 Tryd.underlying9 hi hz0 hz1 hz2 u3 k (byteCells pre) rfl ha3 (s.extract k (k + nn)) rfl ?c3 ?c4 ?c5 ?_)
        case c3 => rw [HSZ.out]; unfold maxLen; omega
        case c4 => rw [HSZ.out]; omega
        case c5 => exact hbw3.size
        intro v' w4 hown4 hgrow _
        have hbw4 := hbw3.grown hgrow hbw3.size (fun k hk => (ha3.lt k hk).1)
        have H1 := Lib.hid hown4
        have H2 := Lib.hid hbw4
        clear hown4 hbw4 ha3 hbw3 hgrow
        go_wp2
        go_roundw
        case rel =>
          refine ⟨k + nn, pre ++ (s.data.toList.drop k).take nn, hst2, ?_, by go_num, ?_, ?_, H2⟩
          · unfold Hid; rw [List.length_append, HPL.out, List.length_take, List.length_drop]; simp; omega
          · unfold Hid; rw [← HP.out, HAT.out, if_pos HLOW.out, List.append_assoc]
          · have := H1.out; rw [HCE.out, ← byteCells_append] at this; exact this
        case measure => simp [RowKit.intOf]; omega
      · have hneq : (lowerF rr != (rr : Int)) = true := by rw [bne_iff_ne]; exact hlow
        have HLOW := Lib.hid hlow; clear hlow
        rw [if_neg HLOW.out] at hpl
        have HPC := Lib.hid hpl; clear hpl
        have hval := lower_valid rr HLOW.out
        have HVAL := Lib.hid hval; clear hval
        go_wp2_with fail
        refine HN.out.mono ?_
        rintro e w2 ⟨rfl, hb2⟩
        have HB2 := Lib.hid hb2; clear hb2
        go_wp2_with fail
        refine (refLower_any rr w2).mono ?_
        rintro e w3 ⟨rfl, hb3⟩
        have HB3 := Lib.hid hb3; clear hb3
        have hbw3 : Below w.heap.size w w3 := (HBW.out.trans (HB2.out.mono HBW.out.size)).trans (HB3.out.mono (Nat.le_trans HBW.out.size HB2.out.size))
        have ha3 := own_below (own_below HA.out HB2.out) HB3.out
        have HBW3 := Lib.hid hbw3; clear hbw3
        have HA3 := Lib.hid ha3; clear ha3
        go_wp2_with fail
        refine (refLower_any rr w3).mono ?_
        rintro e w5 ⟨rfl, hb5⟩
        have HB5 := Lib.hid hb5; clear hb5
        go_wp2_with fail
        refine (refForm_any (lowerF rr) w5 HVAL.out).mono ?_
        rintro e w6 ⟨vf, rfl, hownf, hb6⟩
        have hbw6 : Below w.heap.size w w6 := (HBW3.out.trans (HB5.out.mono HBW3.out.size)).trans (hb6.mono (Nat.le_trans HBW3.out.size HB5.out.size))
        have ha6 := own_below (own_below HA3.out HB5.out) hb6
        rw [HPC.out] at hownf
        obtain ⟨ao, cap, rfl⟩ := own_slice hownf
        obtain ⟨g, rfl, _, _, hcf⟩ := own_cell hownf (i := 0) (by omega)
        have hadd : ∀ j, (⟨g, 0, none⟩ : Addr).add j = ⟨g, j, none⟩ := fun j => by unfold Addr.add; split <;> simp_all
        have hcf' : ∀ j u, (byteCells (encodeRune (lowerF rr)))[j]? = some u → w6.cell? ((⟨g, 0, none⟩ : Addr).add j) = some u := fun j u hu => by rw [hadd]; exact hcf j u hu
        have HCF := Lib.hid hcf'; clear hcf hcf' hadd
        have hlenf : (byteCells (encodeRune (lowerF rr))).length = nn * 1 := by rw [byteCells_length, HPC.out]; omega
        have HLF := Lib.hid hlenf; clear hlenf
        clear hownf hb6
        go_wp2_with (at_builtin; refine wpList_append_own _ rfl (.tmp 21) (.tmp 24) 57 rfl w.heap.size 5 i0 (.int .u8 0) 1 1 Tryd.underlying57 hi hz0 hz1 hz2 rfl (by decide) u3 k (byteCells pre) rfl ha6 ⟨g, 0, none⟩ nn cap (byteCells (encodeRune (lowerF rr))) rfl HLF.out HCF.out ?d2 ?d3 ?d4 ?d5 ?_)
        case d2 => intro u hu; simp [byteCells] at hu; obtain ⟨_, _, rfl⟩ := hu; rfl
        case d3 => unfold maxLen; omega
        case d4 => omega
        case d5 => exact hbw6.size
        intro v' w4 hown4 hgrow _
        have hbw4 := hbw6.grown hgrow hbw6.size (fun k hk => (ha6.lt k hk).1)
        have H1 := Lib.hid hown4
        have H2 := Lib.hid hbw4
        clear hown4 hbw4 ha6 hbw6 hgrow
        go_wp2
        go_roundw
        case rel =>
          refine ⟨k + nn, pre ++ encodeRune (lowerF rr), hst2, ?_, by go_num, ?_, ?_, H2⟩
          · unfold Hid; rw [List.length_append, HPL.out, HPC.out]
          · unfold Hid; rw [← HP.out, HAT.out, if_neg HLOW.out, List.append_assoc]
          · have := H1.out; rw [← byteCells_append] at this; exact this
        case measure => simp [RowKit.intOf]; omega
    · obtain rfl : k = s.size := by omega
      have hcv := run_convert_own (P := Tryd.prog) wr 57 9 5 Tryd.underlying57 Tryd.underlying5 Tryd.underlying9 HPL.out.symm HA.out
      go_wp2_with fail
      go_ret
      have hp := HP.out
      rw [foldEnd _ _ (by rw [hlen]; exact Nat.le_refl _), List.append_nil] at hp
      subst hp
      exact ⟨rfl, HBW.out⟩
end Go.Proofs.YtfbedonphhiolaaDoor.FoldRefFold
