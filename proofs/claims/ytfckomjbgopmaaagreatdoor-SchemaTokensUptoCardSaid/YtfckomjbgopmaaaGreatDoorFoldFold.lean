/- Contract: 'Fold' of the program: a range over the text's runes that writes into a builder. -/
import Derived.Test.YtfckomjbgopmaaaGreatDoorPack29
import Derived.Test.YtfckomjbgopmaaaGreatDoorPack31
namespace Go.Proofs.YtfckomjbgopmaaaGreatDoor.FoldFold
open Go.RowKit Go.Lib FoldP FoldInts Kit FoldForms FoldNext FoldIter FoldValid FoldRefFold SBuilder

attribute [local go_sem] Oper.semAt_some

/-- What has been written when some runes have come. -/
def pieces (l : List UInt8) (pre : List (RuneOf l)) : List UInt8 := pre.flatMap (fun x => piece (l.drop x.1.1))
theorem pieces_snoc (l : List UInt8) (pre : List (RuneOf l)) (x : RuneOf l) : pieces l (pre ++ [x]) = pieces l pre ++ piece (l.drop x.1.1) := by simp [pieces]
theorem piece_le (l : List UInt8) (x : RuneOf l) : (piece (l.drop x.1.1)).length ≤ 4 := by
  have hx := runesL_mem x.2
  have hne : l.drop x.1.1 ≠ [] := by intro e; have := congrArg List.length e; simp at this; omega
  rw [piece_len _ hne]
  rw [decodeL_N]
  rcases decodeN_shape (l.drop x.1.1).length ((l.drop x.1.1).getD 0 0).toNat ((l.drop x.1.1).getD 1 0).toNat ((l.drop x.1.1).getD 2 0).toNat ((l.drop x.1.1).getD 3 0).toNat with ⟨c, e⟩ | ⟨c1, c2, c3, cv, e⟩ | ⟨c1, c2, c3, c4, cv, cs, e⟩ | ⟨c1, c2, c3, c4, c5, cv, cw, e⟩ | e
  all_goals (rw [e]; dsimp only; omega)
theorem pieces_le (l : List UInt8) : ∀ pre : List (RuneOf l), (pieces l pre).length ≤ 4 * pre.length
  | [] => by simp [pieces]
  | x :: r => by
    have h1 := pieces_le l r
    have h2 := piece_le l x
    have e : pieces l (x :: r) = piece (l.drop x.1.1) ++ pieces l r := by simp [pieces]
    rw [e]; simp only [List.length_append, List.length_cons]; omega
theorem pieces_from (l : List UInt8) : ∀ (f k : Nat), l.length - k ≤ f → (runesFrom k (l.drop k)).flatMap (fun x => piece (l.drop x.1)) = foldL (l.drop k)
  | 0, k, hf => by rw [runesEnd l k (by omega), foldEnd l k (by omega)]; rfl
  | f + 1, k, hf => by
    by_cases h : k < l.length
    · rw [runesAt l k h, foldAt l k h]
      have hs := step_le l k h
      rw [← pieces_from l f _ (by omega)]
      simp
    · rw [runesEnd l k (by omega), foldEnd l k (by omega)]; rfl
theorem pieces_all (l : List UInt8) (xs : List (RuneOf l)) (h : allR l xs) : pieces l xs = foldL l := by
  have h1 := pieces_from l l.length 0 (by omega)
  simp only [List.drop_zero] at h1
  rw [← h1]
  have h2 : runesFrom 0 l = xs.map (·.1) := h.symm
  rw [h2, List.flatMap_map]
  rfl

set_option maxRecDepth 100000 in
set_option maxHeartbeats 2000000 in
theorem fold_in (s : ByteArray) (w : World) (hs : s.size ≤ 17592186044416) (hT : Tabs w) :
    CallsIn Fence.wide 6 Tryz.prog 141 #[.string s] w (StrBelow (foldL s.data.toList) w) := by
  have HT := Lib.hid hT; clear hT
  refine callsIn_of_wp_marks Tryz.func141 rfl trivial ?_ rfl
  simp only [Tryz.ntmps141, List.size_toArray, List.length_cons, List.length_nil, Nat.reduceAdd, Nat.reduceSub, Array.replicate_succ, Array.replicate_zero, List.push_toArray, List.append_toArray, List.nil_append, List.cons_append]
  gi_wp2_with fail
  refine ⟨trivial, ?_⟩
  refine (runes_in _ _ _).mono ?_
  rintro e w' ⟨rfl, rfl⟩
  gi_wp2_with fail
  have hsz : (((w.alloc (.cells #[.string s] 9)).alloc (.cells #[.pointer none, .slice none 0 0] 125)).alloc (.cells #[.string s] 9)).heap.size = w.heap.size + 3 := by simp
  have hw0 : ∃ W0, (((w.alloc (.cells #[.string s] 9)).alloc (.cells #[.pointer none, .slice none 0 0] 125)).alloc (.cells #[.string s] 9)) = W0 := ⟨_, rfl⟩
  have hb0 : Below w.heap.size w (((w.alloc (.cells #[.string s] 9)).alloc (.cells #[.pointer none, .slice none 0 0] 125)).alloc (.cells #[.string s] 9)) := (((Below.refl _ _).alloc (Nat.le_refl _) _).alloc (by simp) _).alloc (by simp; omega) _
  have hk0 : (((w.alloc (.cells #[.string s] 9)).alloc (.cells #[.pointer none, .slice none 0 0] 125)).alloc (.cells #[.string s] 9)).heap[w.heap.size]? = some (.cells #[.string s] 9 (0, 0)) := by
    rw [Below.heap_alloc _ _ _ (by simp; omega), Below.heap_alloc _ _ _ (by simp)]; exact heap_alloc_new w _
  have hk2 : (((w.alloc (.cells #[.string s] 9)).alloc (.cells #[.pointer none, .slice none 0 0] 125)).alloc (.cells #[.string s] 9)).heap[w.heap.size + 2]? = some (.cells #[.string s] 9 (0, 0)) := by
    have := heap_alloc_new ((w.alloc (.cells #[.string s] 9)).alloc (.cells #[.pointer none, .slice none 0 0] 125)) (.cells #[.string s] 9)
    simpa using this
  have hbd : Lib.IsBuilderF 125 5 w.heap.size (w.heap.size + 1) [] (((w.alloc (.cells #[.string s] 9)).alloc (.cells #[.pointer none, .slice none 0 0] 125)).alloc (.cells #[.string s] 9)) := by
    refine .inl ⟨by omega, .slice none 0 0, ?_, ?_, by simp [Value.ownBlock]⟩
    · rw [Below.heap_alloc _ _ _ (by simp)]
      have := heap_alloc_new (w.alloc (.cells #[.string s] 9)) (.cells #[.pointer none, .slice none 0 0] 125)
      simpa using this
    · exact World.ownsRowF_of (World.ownsRow_nil _ _ _ _)
  obtain ⟨W0, hW0⟩ := hw0
  rw [hW0] at hsz hb0 hk0 hk2 hbd ⊢
  have hT0 : Tabs W0 := HT.out.next hb0
  have h2 : 8 ≤ w.heap.size := HT.out.2
  clear hW0
  refine wpIn_rangeFunc_ownF rfl (by omega) (gf := 146) (lb := #[.pointer (some ⟨w.heap.size + 1 + 1, 0, none⟩)]) rfl trivial (enters_of Tryz.func146 (by kernel_rfl) rfl)
    (runes_stops (w.heap.size + 1 + 1) s (by omega) W0 hk2 hT0) KpR.trans (kpR_b (by omega) (by omega)) (Below.refl _ _) (fun _ => rfl)
    (fun pre W => Lib.IsBuilderF 125 5 w.heap.size (w.heap.size + 1) (byteCells (pieces s.data.toList pre)) W ∧ W.heap[w.heap.size]? = some (.cells #[.string s] 9 (0, 0)) ∧ W.heap[w.heap.size + 1 + 1]? = some (.cells #[.string s] 9 (0, 0)) ∧ Below w.heap.size w W)
    (fun _ _ _ => False)
    (fun pre A B row hI hg hr => ⟨builder_kept hI.1 hg (fun r e => (hr r e).2), (hg.block w.heap.size (Array.getElem?_eq_some_iff.1 hI.2.1).1 (fun e => by have := (hr _ e.symm).1; omega)).trans hI.2.1,
      (hg.block (w.heap.size + 1 + 1) (Array.getElem?_eq_some_iff.1 hI.2.2.1).1 (fun e => by have := (hr _ e.symm).1; omega)).trans hI.2.2.1,
      hI.2.2.2.grown hg hI.2.2.2.size (fun k e => by have := (hr k e).1; omega)⟩)
    (fun _ _ _ _ _ hs _ _ => hs)
    ⟨hbd, hk0, hk2, hb0⟩
    (fun x => { tmps := #[.string s, .pointer (some ⟨w.heap.size, 0, none⟩), .string ⟨#[]⟩, .pointer (some ⟨w.heap.size + 1, 0, none⟩), .int .i64 (x.1.1 : Int), .int .i32 x.1.2, undef, undef, undef, .string s, .func (.func 146) #[] #[.pointer (some ⟨w.heap.size + 1 + 1, 0, none⟩)], .int .i64 (x.1.1 : Int), .int .i32 x.1.2, undef, undef, undef, undef, undef, undef, undef, undef, undef, undef, undef, undef, undef, undef, undef, undef, undef, undef, undef, undef, undef], defers := [] }) ?assign ?body ?done ?stop
  case assign =>
    intro l x W K hK
    dsimp only [FoldIter.encR]
    gi_wp2
    exact hK
  case body =>
    rintro l0 pre x W ⟨hbl, hbx, hby, hB⟩ hlt
    have hx := runesL_mem x.2
    have hrl := runesL_length s.data.toList
    have hpl := pieces_le s.data.toList pre
    have hlen : s.data.toList.length = s.size := by simp
    have hsn := pieces_snoc s.data.toList pre x
    rw [hlen] at hx hrl
    obtain ⟨⟨p, r⟩, hmem⟩ := x
    dsimp only at hx hsn ⊢
    obtain ⟨hx1, hx2⟩ := hx
    have hst := step_le s.data.toList p (by rw [hlen]; exact hx1)
    have hr := decodeL_rune (s.data.toList.drop p)
    rw [hlen] at hst
    clear hlen
    unfold piece at hsn
    cases hdr : decodeL (s.data.toList.drop p) with
    | mk rr nn =>
    rw [hdr] at hst hr hx2 hsn
    dsimp only at hst hr hx2 hsn
    subst hx2
    obtain ⟨hst1, hst2⟩ := hst
    have hnn : nn ≤ s.size := by omega
    have HN := Lib.hid (next_at s p W (by omega) (HT.out.next (hB.mono (Nat.le_refl _))) hx1 rr nn hdr)
    have HSN := Lib.hid hsn; clear hsn
    clear hdr
    have hbc : W.cell? ⟨w.heap.size, 0, none⟩ = some (.string s) := box_cell hbx
    have hbl2 : (byteCells (pieces s.data.toList pre)).length + s.size + 4 ≤ 140737488355328 := by rw [byteCells_length]; omega
    have HBL := Lib.hid hbl2
    have hBW : w.heap.size ≤ W.heap.size := hB.size
    by_cases hlow : lowerF rr = rr
    · have hneq : (lowerF rr != (rr : Int)) = false := by rw [hlow]; simp
      have HLOW := Lib.hid hlow; clear hlow
      gi_wp2_with fail
      refine ⟨trivial, ?_⟩
      refine CallsIn.inRound l0 (callsIn_wide.2 (lower_any rr W)) |>.mono ?_
      rintro e w' ⟨rfl, rfl⟩
      gi_wp2_with fail
      refine ⟨trivial, ?_⟩
      refine CallsIn.inRound l0 (callsIn_wide.2 HN.out) |>.mono ?_
      rintro e w2 ⟨rfl, hb2⟩
      have hbc2 : w2.cell? ⟨w.heap.size, 0, none⟩ = some (.string s) := (hb2.cell (p := ⟨w.heap.size, 0, none⟩) (Array.getElem?_eq_some_iff.1 hbx).1).trans hbc
      have hbl2 := builder_kept hbl (only_of_below hb2 none) (fun r e => by cases e)
      have HB2 := Lib.hid hb2; clear hb2
      gi_wp2_with fail
      refine ⟨trivial, ?_⟩
      have hsz : (s.extract p (p + nn)).size = nn := by simp; omega
      refine CallsIn.inRound l0 (callsIn_wide.2 (writeString_any w.heap.size (w.heap.size + 1) _ (s.extract p (p + nn)) w2 hbl2 ?_ (Nat.le_trans hBW HB2.out.size))) |>.mono ?_
      · rw [hsz]; have := HBL.out; omega
      rintro e w3 ⟨rfl, hbl3, hb3, hk3⟩
      gi_wp2_with fail
      have hcells : strCells (s.extract p (p + nn)) = byteCells ((s.data.toList.drop p).take nn) := by
        rw [strCells_eq, extract_data, show p + nn - p = nn by omega]
      refine ⟨(keepsOthers_below HB2.out).trans (keepsOthers_others hk3 hb3.size (builder_cells hbl2)), (KpR.below HB2.out (by omega) (Array.getElem?_eq_some_iff.1 hby).1).trans ⟨hb3.mono h2, ?_⟩, ?_, ?_, ?_, ?_⟩
      · have hy2 := (HB2.out.block _ (Array.getElem?_eq_some_iff.1 hby).1).trans hby
        rw [hk3 _ _ hy2 (by simp) (by intro c fz e; cases e), hy2]
      · rw [HSN.out, if_pos HLOW.out, byteCells_append, ← hcells]; exact .inr hbl3
      · have hx2 := (HB2.out.block _ (Array.getElem?_eq_some_iff.1 hbx).1).trans hbx
        exact hk3 _ _ hx2 (by simp) (by intro c fz e; cases e)
      · have hy2 := (HB2.out.block _ (Array.getElem?_eq_some_iff.1 hby).1).trans hby
        exact hk3 _ _ hy2 (by simp) (by intro c fz e; cases e)
      · exact (hB.trans (HB2.out.mono hBW)).trans hb3
    · have hneq : (lowerF rr != (rr : Int)) = true := by rw [bne_iff_ne]; exact hlow
      have HLOW := Lib.hid hlow; clear hlow
      have hlv := lower_moves rr (by omega) HLOW.out
      have hl0 : -2147483648 ≤ lowerF rr := by omega
      have hl1 : lowerF rr ≤ 2147483647 := by omega
      clear hlv
      gi_wp2_with fail
      refine ⟨trivial, ?_⟩
      refine CallsIn.inRound l0 (callsIn_wide.2 (lower_any rr W)) |>.mono ?_
      rintro e w' ⟨rfl, rfl⟩
      gi_wp2_with fail
      refine ⟨trivial, ?_⟩
      refine CallsIn.inRound l0 (callsIn_wide.2 (writeRune_any w.heap.size (w.heap.size + 1) _ (lowerF rr) hl0 hl1 W hbl (by have := HBL.out; omega) hBW)) |>.mono ?_
      rintro e w3 ⟨rfl, hbl3, hb3, hk3⟩
      gi_wp2_with fail
      refine ⟨keepsOthers_others hk3 hb3.size (builder_cells hbl), ⟨hb3.mono h2, ?_⟩, ?_, ?_, ?_, ?_⟩
      · rw [hk3 _ _ hby (by simp) (by intro c fz e; cases e), hby]
      · rw [HSN.out, if_neg HLOW.out, byteCells_append, ← runeCells_bytes]; exact .inr hbl3
      · exact hk3 _ _ hbx (by simp) (by intro c fz e; cases e)
      · exact hk3 _ _ hby (by simp) (by intro c fz e; cases e)
      · exact hB.trans hb3
  case done =>
    rintro D ys W hD hall ⟨hbl, hbx, hby, hB⟩ hK
    rw [pieces_all _ _ hall] at hbl
    gi_wp2_with fail
    refine ⟨trivial, ?_⟩
    refine (callsIn_wide.2 (Tryz.Builder_String_any_k w.heap.size (w.heap.size + 1) _ W hbl hB.size)).mono ?_
    rintro e w3 ⟨rfl, hbl3, hb3, hk3⟩
    gi_wp2_with fail
    have hK3 : w3.heap[D]? = some (.deferred (some [])) := hk3 D _ hK (by intro e; cases e; obtain ⟨c, t, fz, hc⟩ := builder_cells hbl; rw [hc] at hK; cases hK) (by intro c fz e; cases e)
    refine ⟨by simp, .inl ⟨_, _, rfl, run_takeDeferred hK3, ?_⟩⟩
    refine ⟨_, results_tmp rfl _ _ _, ?_⟩
    exact ⟨rfl, (hB.trans hb3).trans (belowK_b (w := w) (Nat.le_refl _) _ D _ _ (by omega) hK3 rfl rfl)⟩
  case stop =>
    rintro D c pre W hD _ h _
    exact h.elim
end Go.Proofs.YtfckomjbgopmaaaGreatDoor.FoldFold
