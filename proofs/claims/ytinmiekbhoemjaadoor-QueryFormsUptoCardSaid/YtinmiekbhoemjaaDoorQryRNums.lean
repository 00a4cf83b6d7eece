/- Contract: the document's numbers. -/
import Derived.Test.YtinmiekbhoemjaaDoorQryRQuoted
import Derived.Test.YtinmiekbhoemjaaDoorQryNums
import Derived.Lib.AppendStr
set_option linter.unusedVariables false
namespace Go.Proofs.YtinmiekbhoemjaaDoor.Qry
open Go.RowKit Words Tree QryP Kit Owned

theorem txt_itoa (n : Int) : OrdLib.txtS n 0 = numT n := by
  unfold OrdLib.txtS
  rw [if_neg (by omega)]
  show OrdP.textF n 0 = Lib.itoa n
  have hw : OrdP.wide n.natAbs 0 = Lib.nDigits n.natAbs := by
    have := Lib.nDigits_pos n.natAbs
    unfold OrdP.wide; omega
  unfold OrdP.textF OrdP.textU Lib.itoa
  rw [hw, if_pos rfl, Nat.pow_zero, Nat.div_one, Nat.sub_zero, List.append_nil, ← OrdP.decDigits_eq_low]
  by_cases h : n < 0
  · rw [if_pos h, if_pos h]; rfl
  · rw [if_neg h, if_neg h, show n.toNat = n.natAbs by omega]; rfl
theorem rtext_z (z : Int) (h : I64 z) (w : World) : Calls Tryd.prog 75 #[.int .i64 z, .int .i64 0] w (fun e w' => e = .returned (.tuple #[.string (str (numT z)), .int .i64 0]) ∧ Below w.heap.size w w') :=
  (OrdLib.refText_any z 0 w h.1 h.2).mono fun e w' ⟨h1, h2⟩ => ⟨by rw [txt_itoa] at h1; exact h1, h2⟩
theorem strCells_str (l : List UInt8) : Lib.strCells (str l) = Lib.byteCells l := by simp [Lib.strCells, Lib.byteCells, str]
theorem str_size (l : List UInt8) : (str l).size = l.length := rfl
set_option maxRecDepth 100000 in
set_option maxHeartbeats 8000000 in
theorem rnums_any (A : Option Addr) (cA : Nat) (l : List Int) (w : World) (hr : Reads w w.heap.size 1 A l.length (l.map (Value.int .i64))) (hz : ∀ z ∈ l, I64 z) (hn : l.length ≤ 9223372036854775807) (hl : (numsF numT l).length + 10 ≤ 140737488355328) :
    Calls Tryd.prog 59 #[.slice A l.length cA] w (RowB (numsF numT l) w) := by
  obtain ⟨i0, hi1, hi2, hi3, hi4⟩ := info_parts infoU8
  have HI := Lib.hid (And.intro hi1 (And.intro hi2 (And.intro hi3 hi4)))
  have HR := Lib.hid hr; have HZ := Lib.hid hz; have HL := Lib.hid hl
  clear hi1 hi2 hi3 hi4 hr hz hl
  go_enter Tryd.func59, Tryd.ntmps59
  go_wp2_with fail
  have H0 : Hid (w.ownsRow w.heap.size 5 1 (.slice none 0 0) (numsF numT (l.take 0)).length (Lib.byteCells (numsF numT (l.take 0))) ∧ Below w.heap.size w w) := Lib.hid ⟨World.ownsRow_nil _ _ _ _, Below.refl _ _⟩
  go_loopw [3, 4] (fun v i wr => ∃ k : Nat, k ≤ l.length ∧ i = .int .i64 k ∧ Hid (wr.ownsRow w.heap.size 5 1 v (numsF numT (l.take k)).length (Lib.byteCells (numsF numT (l.take k))) ∧ Below w.heap.size w wr)) (fun _ i _ => l.length - (intOf i).toNat)
  case atStart => exact ⟨0, by omega, rfl, H0⟩
  case round =>
    obtain ⟨k, hk, rfl, HP⟩ := hrel
    obtain ⟨ao, ca, hao⟩ := own_slice HP.out.1
    subst hao
    by_cases hlt : k < l.length
    · have hlt2 : (k : Int) < (l.length : Int) := by omega
      obtain ⟨ad, hA, hba, hca⟩ := HR.out.2 (by omega)
      subst hA
      have hcell : ∀ W, Below w.heap.size w W → W.cell? (ad.add k) = some (.int .i64 l[k]) := fun W hW => (hW.cell (by rw [block_of_add]; exact hba)).trans (hca k _ (by simp [List.getElem?_eq_getElem hlt]))
      have HC := Lib.hid hcell
      have HX := Lib.hid (nums_step hlt)
      have HLE : Hid ((numsF numT (l.take (k + 1))).length + 10 ≤ 140737488355328) := Lib.hid (by have := nums_le (l := l) (k := k + 1); have := HL.out; omega)
      have HTX := Lib.hid (fun W => rtext_z l[k] (HZ.out _ (List.getElem_mem _)) W)
      clear hba hca hcell
      generalize hlk : l[k] = z at *
      have HBS := Lib.hid HP.out.2.size
      obtain ⟨hi1, hi2, hi3, hi4⟩ := HI.out
      by_cases h0 : k = 0
      · have d0 : decide (0 < k) = false := decide_eq_false (by omega)
        have HNX : Hid (numsF numT (l.take (k + 1)) = numsF numT (l.take k) ++ numT z) := Lib.hid (by rw [HX.out, if_pos h0, h0]; simp [numsF, joinF])
        have hle : (numsF numT (l.take k)).length + (str (numT z)).size + 10 ≤ 140737488355328 := by
          have := HLE.out
          rw [HNX.out, List.length_append] at this
          exact this
        have hc := HC.out wr HP.out.2
        clear h0 HX
        have HND : Hid (∀ (W : World) (v : Value), W.ownsRow w.heap.size 5 1 v ((numsF numT (l.take k)).length + (str (numT z)).size) (Lib.byteCells (numsF numT (l.take k)) ++ Lib.strCells (str (numT z))) → W.ownsRow w.heap.size 5 1 v (numsF numT (l.take (k + 1))).length (Lib.byteCells (numsF numT (l.take (k + 1))))) := Lib.hid (fun W v h => by rw [HNX.out, List.length_append]; rw [strCells_str, str_size] at h; simpa [Lib.byteCells] using h)
        clear HNX
        generalize numsF numT (l.take k) = Ld at *
        go_wp2_with fail
        refine (HTX.out _).mono ?_
        rintro e W1 ⟨rfl, hb⟩
        have hown := own_below HP.out.1 hb
        have hbz := hb.size
        have hbs := HBS.out
        have HB1 := Lib.hid (HP.out.2.trans (hb.mono hbs))
        clear hb hc
        go_wp2_with (at_builtin; refine Lib.wpList_append_own_string _ rfl (.tmp 26) (.tmp 27) 43 9 rfl w.heap.size 5 i0 Tryd.underlying43 Tryd.underlying9 hi1 hi2 hi3 hi4 _ _ _ rfl hown (str (numT z)) rfl (by unfold maxLen; omega) (by omega) (by omega) ?_)
        intro v' w' ho hg _
        have HN : Hid (w'.ownsRow w.heap.size 5 1 v' (numsF numT (l.take (k + 1))).length (Lib.byteCells (numsF numT (l.take (k + 1)))) ∧ Below w.heap.size w w') := Lib.hid ⟨HND.out _ _ ho, HB1.out.grown hg (by omega) (fun r e => (hown.lt r e).1)⟩
        clear ho hg hown hi1 hi2 hi3 hi4
        go_wp2_with fail
        go_roundw
        case rel => exact ⟨k + 1, by omega, by go_num, HN⟩
        case measure => simp [intOf]; omega
      · have d0 : decide (0 < k) = true := decide_eq_true (by omega)
        have HNX : Hid (numsF numT (l.take (k + 1)) = numsF numT (l.take k) ++ [32] ++ numT z) := Lib.hid (by rw [HX.out, if_neg h0])
        have hle : (numsF numT (l.take k)).length + 1 + (str (numT z)).size + 10 ≤ 140737488355328 := by
          have := HLE.out
          rw [HNX.out, List.length_append, List.length_append] at this
          exact this
        clear h0 HX
        have HND : Hid (∀ (W : World) (v : Value), W.ownsRow w.heap.size 5 1 v ((numsF numT (l.take k)).length + 1 + (str (numT z)).size) ((Lib.byteCells (numsF numT (l.take k)) ++ [.int .u8 32]) ++ Lib.strCells (str (numT z))) → W.ownsRow w.heap.size 5 1 v (numsF numT (l.take (k + 1))).length (Lib.byteCells (numsF numT (l.take (k + 1))))) := Lib.hid (fun W v h => by rw [HNX.out, List.length_append, List.length_append]; rw [strCells_str, str_size] at h; simpa [Lib.byteCells] using h)
        clear HNX
        generalize numsF numT (l.take k) = Ld at *
        have hown := own_below HP.out.1 ((Below.refl _ wr).alloc (Nat.le_refl _) (.cells #[.int .u8 32] 5))
        have hbs := HBS.out
        go_wp2_with (at_builtin; refine wpList_append_own _ rfl (.tmp 15) (.tmp 16) 43 rfl w.heap.size 5 i0 (.int .u8 0) 1 1 Tryd.underlying43 hi1 hi2 hi3 hi4 rfl (by decide) _ _ _ rfl hown ⟨wr.heap.size, 0, none⟩ 1 1 [.int .u8 32] rfl rfl (World.news_of_block (Blk.new wr _ _)) (by intro u hu; simp only [List.mem_cons, List.not_mem_nil, or_false] at hu; subst hu; rfl) (by unfold maxLen; omega) (by omega) (by simp; omega) ?_)
        intro v1 w1 ho1 hg1 _
        have HB1 : Hid (Below w.heap.size w w1) := Lib.hid ((HP.out.2.alloc hbs (.cells #[.int .u8 32] 5)).grown hg1 (by simp; omega) (fun r e => (hown.lt r e).1))
        obtain ⟨a1, c1, hv1⟩ := own_slice ho1
        subst hv1
        have hc := HC.out w1 HB1.out
        clear hg1 hown
        have hbs := HB1.out.size
        go_wp2_with fail
        refine (HTX.out _).mono ?_
        rintro e W1 ⟨rfl, hb⟩
        have hown := own_below ho1 hb
        have hbz := hb.size
        have HB2 := Lib.hid (HB1.out.trans (hb.mono hbs))
        clear hb hc ho1
        go_wp2_with (at_builtin; refine Lib.wpList_append_own_string _ rfl (.tmp 26) (.tmp 27) 43 9 rfl w.heap.size 5 i0 Tryd.underlying43 Tryd.underlying9 hi1 hi2 hi3 hi4 _ _ _ rfl hown (str (numT z)) rfl (by unfold maxLen; omega) (by omega) (by omega) ?_)
        intro v' w' ho hg _
        have HN : Hid (w'.ownsRow w.heap.size 5 1 v' (numsF numT (l.take (k + 1))).length (Lib.byteCells (numsF numT (l.take (k + 1)))) ∧ Below w.heap.size w w') := Lib.hid ⟨HND.out _ _ (by simpa using ho), HB2.out.grown hg (by omega) (fun r e => (hown.lt r e).1)⟩
        clear ho hg hown hi1 hi2 hi3 hi4
        go_wp2_with fail
        go_roundw
        case rel => exact ⟨k + 1, by omega, by go_num, HN⟩
        case measure => simp [intOf]; omega
    · obtain rfl : k = l.length := by omega
      have HTK : Hid (l.take l.length = l) := Lib.hid List.take_length
      go_wp2_with fail
      go_ret
      refine ⟨_, rfl, ?_, HP.out.2⟩
      have := HP.out.1
      simp only [HTK.out] at this ⊢
      exact this
end Go.Proofs.YtinmiekbhoemjaaDoor.Qry
