/- Contract: 'tokens' at pieces of two runes. -/
import Derived.Test.YtinmiekbhoemjaaGreatDoorPack29
import Derived.Test.YtinmiekbhoemjaaGreatDoorAnaRefRuns
set_option linter.unusedVariables false
namespace Go.Proofs.YtinmiekbhoemjaaGreatDoor.Ana
open Go.RowKit Go.Lib FoldP FoldInts Kit FoldForms FoldNext FoldIter AnaP Words Owned Tree

/-- How many pieces a run has, and how long they are. -/
def pw (c : Nat × Nat) : Nat := if c.2 = c.1 + 1 then 1 else 2
theorem pieces2_get (c : Nat × Nat) (h : c.1 < c.2) (i : Nat) (hi : i + pw c ≤ c.2 - c.1) : (pieces2 c)[i]? = some (c.1 + i, c.1 + i + pw c) := by
  unfold pieces2 pw at *
  split
  · rename_i e
    rw [if_pos e] at hi
    obtain rfl : i = 0 := by omega
    obtain ⟨a, b⟩ := c
    dsimp only at e; subst e; rfl
  · rename_i e
    rw [if_neg e] at hi
    rw [List.getElem?_map, List.getElem?_range (by omega)]; rfl
theorem pieces2_count (c : Nat × Nat) (h : c.1 < c.2) : (pieces2 c).length + pw c = c.2 - c.1 + 1 := by
  unfold pieces2 pw
  split
  · simp only [List.length_singleton]; omega
  · simp only [List.length_map, List.length_range]; omega
/-- A piece of a run's own text is the text's own. -/
theorem piece_tok (s : ByteArray) (a b i n m : Nat) (hab : a ≤ b) (hb : b ≤ nR s.data.toList) (hi : i + n ≤ b - a) :
    (⟨(s.extract (posAt s.data.toList a) (posAt s.data.toList b)).extract (posAt (subL s.data.toList a b) i) (posAt (subL s.data.toList a b) (i + n)), m, (posAt s.data.toList a : Int) + (posAt (subL s.data.toList a b) i : Int), (posAt s.data.toList a : Int) + (posAt (subL s.data.toList a b) (i + n) : Int)⟩ : TokD) = tokAt s m (a + i, a + i + n) := by
  have h1 := sub_posAt s.data.toList a b hab hb i (by omega)
  have h2 := sub_posAt s.data.toList a b hab hb (i + n) hi
  have h3 := posAt_mono s.data.toList a (a + i) (by omega) (by omega)
  have h4 := posAt_mono s.data.toList (a + i) (a + (i + n)) (by omega) (by omega)
  have h5 := posAt_mono s.data.toList (a + (i + n)) b (by omega) hb
  have h6 := posAt_le s.data.toList b
  have e : s.data.toList.length = s.size := by simp
  unfold tokAt
  rw [h1, h2, extract_sub _ _ _ _ _ (by omega) (by omega) (by omega), show a + (i + n) = a + i + n by omega] at *
  rw [show posAt s.data.toList a + (posAt s.data.toList (a + i) - posAt s.data.toList a) = posAt s.data.toList (a + i) by omega, show posAt s.data.toList a + (posAt s.data.toList (a + i + n) - posAt s.data.toList a) = posAt s.data.toList (a + i + n) by omega]
  simp only [TokD.mk.injEq, true_and]
  omega
theorem take_flat (L : List (Nat × Nat)) (k : Nat) (h : k < L.length) : (L.take (k + 1)).flatMap pieces2 = (L.take k).flatMap pieces2 ++ pieces2 L[k] := by
  rw [List.take_succ_eq_append_getElem h, List.flatMap_append]; simp
/-- All that the walk of a run's pieces wants to know of them: P: the places of the run's own runes; G: the pieces' tokens. -/
structure RunP (s : ByteArray) (c : Nat × Nat) (m : Nat) (tx : ByteArray) (fr : Nat) (P : Nat → Nat) (n : Nat) (G : Nat → TokD) : Prop where
  le : ∀ i, i + pw c ≤ n → P i ≤ P (i + pw c) ∧ P (i + pw c) ≤ tx.size
  tok : ∀ i, i + pw c ≤ n → (⟨tx.extract (P i) (P (i + pw c)), (m + i : Nat), (fr : Int) + (P i : Int), (fr : Int) + (P (i + pw c) : Int)⟩ : TokD) = G i
theorem runP (s : ByteArray) (c : Nat × Nat) (m : Nat) (h : c.1 < c.2) (hb : c.2 ≤ nR s.data.toList) :
    RunP s c m (s.extract (posAt s.data.toList c.1) (posAt s.data.toList c.2)) (posAt s.data.toList c.1) (posAt (subL s.data.toList c.1 c.2)) (c.2 - c.1) (fun i => tokAt s (m + i) (c.1 + i, c.1 + i + pw c)) := by
  refine ⟨fun i hi => ?_, fun i hi => piece_tok s c.1 c.2 i (pw c) (m + i) (by omega) hb hi⟩
  have hn := sub_nR s.data.toList c.1 c.2 (by omega) hb
  refine ⟨posAt_mono _ _ _ (by omega) (by omega), ?_⟩
  have := posAt_le (subL s.data.toList c.1 c.2) (i + pw c)
  have e : (subL s.data.toList c.1 c.2).length = (s.extract (posAt s.data.toList c.1) (posAt s.data.toList c.2)).size := by
    rw [← sub_text s c.1 c.2 hb]; exact Array.length_toList
  rw [e] at this
  exact this
/-- A run's own pieces: the token and its places lie apart from the row that grows. -/
structure PieceW (w1 : World) (bt g : Nat) (bc pc : Array Value) (o : Value) (wq : World) : Prop where
  below : Below w1.heap.size w1 wq
  tb : Blk wq bt 117 bc
  pr : Blk wq g 3 pc
  far : ∀ r, o.ownBlock = some r → r ≠ bt ∧ r ≠ g
theorem PieceW.more {w1 : World} {bt g gg : Nat} {bc pc : Array Value} {o : Value} {W w4 : World} (h : PieceW w1 bt g bc pc o W) {O : Obj} (hg : (W.alloc O).grownBy w4 o.ownBlock) (hr : ∀ r, o.ownBlock = some r → w1.heap.size ≤ r) {v' : Value} {n cap : Nat} (hv : v' = .slice (some ⟨gg, 0, none⟩) n cap) (hgg : o.ownBlock = some gg ∨ gg = W.heap.size + 1) : PieceW w1 bt g bc pc v' w4 := by
  subst hv
  have h1 := h.tb.lt
  have h2 := h.pr.lt
  refine ⟨(h.below.alloc h.below.size O).grown hg (by have := h.below.size; simp; omega) hr, (h.tb.alloc O).grown hg (fun e => (h.far _ e.symm).1 rfl), (h.pr.alloc O).grown hg (fun e => (h.far _ e.symm).2 rfl), fun r e => ?_⟩
  obtain rfl : gg = r := by simpa [Value.ownBlock] using e
  rcases hgg with h3 | h3
  · exact h.far _ h3
  · exact ⟨by omega, by omega⟩
theorem tokOf_more (s : ByteArray) (cuts : List (Nat × Nat)) (c : Nat × Nat) (h : c.1 < c.2) (i : Nat) (hi : i + pw c ≤ c.2 - c.1) : tokOf s (cuts ++ (pieces2 c).take (i + 1)) = tokOf s (cuts ++ (pieces2 c).take i) ++ [tokAt s (cuts.length + i) (c.1 + i, c.1 + i + pw c)] := by
  have hg := pieces2_get c h i hi
  have hl : i < (pieces2 c).length := by
    rcases Nat.lt_or_ge i (pieces2 c).length with h' | h'
    · exact h'
    · rw [List.getElem?_eq_none h'] at hg; cases hg
  rw [List.take_add_one, hg, Option.toList_some, ← List.append_assoc, tokOf_snoc, List.length_append, List.length_take, Nat.min_eq_left (Nat.le_of_lt hl)]


set_option maxRecDepth 100000 in
set_option maxHeartbeats 8000000 in
theorem toks_4 (s : ByteArray) (w : World) (hs : s.size ≤ 1073741824) (hT : Tabs w) :
    Calls Tryz.prog 75 #[.int .i64 4, .string s] w (OwnToks (tokensF 4 s) w) := by
  have hcs := cutF_len 4 (runeL s.data.toList)
  have hco := fun c hc => runIx_mem (may := mayF) (begins := wordF) (runeL s.data.toList) 0 none (fun a e => by cases e) c hc
  have HE : Hid (tokensF 4 s = tokOf s ((runIx mayF wordF (runeL s.data.toList) 0 none).flatMap pieces2)) := Lib.hid rfl
  have HCT : Hid (cutF 4 (runeL s.data.toList) = (runIx mayF wordF (runeL s.data.toList) 0 none).flatMap pieces2) := Lib.hid rfl
  have HC := Lib.hid (letters_any s w (by omega) hT)
  have hll := runIx_len (may := mayF) (begins := wordF) (runeL s.data.toList) 0 none
  have hnr := nR_le s.data.toList
  have e2 : s.data.toList.length = s.size := by simp
  rw [HE.out]
  rw [HCT.out] at hcs
  rw [runeL_len] at hcs hll hco
  rw [e2] at hnr
  have HT := Lib.hid hT; clear hT HE HCT e2
  generalize runIx mayF wordF (runeL s.data.toList) 0 none = L at *
  have hLn : L.length ≤ s.size := by simp at hll; omega
  have HCO : Hid (∀ c ∈ L, c.1 < c.2 ∧ c.2 ≤ nR s.data.toList) := Lib.hid (fun c hc => by have := hco c hc; omega)
  have HFL : Hid ((L.flatMap pieces2).length ≤ s.size) := Lib.hid (by omega)
  clear hco hll hcs
  go_enter Tryz.func75, Tryz.ntmps75
  go_wp2_with fail
  refine HC.out.mono ?_
  rintro e w1 ⟨v, rfl, o1, b1⟩
  obtain ⟨lo, lc, rfl⟩ := own_slice2 o1
  have hrd := Reads.of_own o1
  rw [tokOf_len] at hrd ⊢
  have HRD := Lib.hid hrd; have HB1 := Lib.hid b1
  clear o1 b1 hrd HC
  go_wp2_with fail
  go_loopw [6, 8, 9, 10, 11, 30] (fun o _ _ _ _ i wr => ∃ k : Nat, k ≤ L.length ∧ i = .int .i64 k ∧ Hid (wr.ownsRow w1.heap.size 117 4 o (tokOf s ((L.take k).flatMap pieces2)).length (tokCells (tokOf s ((L.take k).flatMap pieces2)))) ∧ Hid (Below w1.heap.size w1 wr)) (fun _ _ _ _ _ i _ => L.length - (RowKit.intOf i).toNat)
  case atStart => exact ⟨0, by omega, rfl, Lib.hid (World.ownsRow_nil _ _ _ _), Lib.hid (Below.refl _ _)⟩
  case round =>
    obtain ⟨k, hk, rfl, HO, HW⟩ := hrel
    have hzr := HW.out.size
    obtain ⟨wo, hwo⟩ : ∃ wo : World, wr = wo := ⟨_, rfl⟩
    rw [hwo] at HO HW hzr ⊢
    clear hwo wr
    by_cases hlt : k < L.length
    · have hlt2 : k < (tokOf s L).length := by rw [tokOf_len]; exact hlt
      obtain ⟨ad, rfl, hba, c0, c1, c2, c3⟩ := reads_tok HRD.out (tokOf_len s L).symm hlt2
      rw [tokOf_get] at c0 c1 c2 c3
      obtain ⟨hc1, hc2⟩ := HCO.out L[k] (List.getElem_mem hlt)
      have HTF := Lib.hid (take_flat L k hlt)
      generalize L[k] = c at *
      have hab2 : (ad.add (k * 4)).block < w1.heap.size := by rw [block_of_add]; exact hba
      have d0 := (HW.out.cell (p := ad.add (k * 4)) hab2).trans c0
      have d1 := (HW.out.cell (p := ⟨(ad.add (k * 4)).block, (ad.add (k * 4)).off + 1, none⟩) hab2).trans c1
      have d2 := (HW.out.cell (p := ⟨(ad.add (k * 4)).block, (ad.add (k * 4)).off + 2, none⟩) hab2).trans c2
      have d3 := (HW.out.cell (p := ⟨(ad.add (k * 4)).block, (ad.add (k * 4)).off + 3, none⟩) hab2).trans c3
      clear c0 c1 c2 c3
      have HRP := Lib.hid (runP s c ((L.take k).flatMap pieces2).length hc1 hc2)
      have HPC := Lib.hid (pieces2_count c hc1)
      have HMO := Lib.hid (tokOf_more s ((L.take k).flatMap pieces2) c hc1)
      have hsub := sub_text s c.1 c.2 hc2
      have HNS := Lib.hid (sub_nR s.data.toList c.1 c.2 (by omega) hc2)
      have HGS := Lib.hid (posAt_get (subL s.data.toList c.1 c.2))
      have HTLN : Hid (((L.take k).flatMap pieces2).length + (pieces2 c).length ≤ s.size) := Lib.hid (by
        have h1 := HFL.out
        have h2 : (L.flatMap pieces2).length = ((L.take (k + 1)).flatMap pieces2).length + ((L.drop (k + 1)).flatMap pieces2).length := by rw [← List.length_append, ← List.flatMap_append, List.take_append_drop]
        rw [HTF.out, List.length_append] at h2
        omega)
      dsimp only [tokAt] at d0 d1 d2 d3
      have hpl1 := posL_len (subL s.data.toList c.1 c.2)
      rw [HNS.out] at hpl1
      have HPWD : Hid (pw c = if c.2 = c.1 + 1 then 1 else 2) := Lib.hid rfl
      have hNb : c.2 - c.1 ≤ s.size := by omega
      have hfrb := posAt_le s.data.toList c.1
      rw [show s.data.toList.length = s.size by simp] at hfrb
      replace hfrb : posAt s.data.toList c.1 ≤ 1073741824 := by omega
      generalize hfr : posAt s.data.toList c.1 = fr at *
      generalize htl : posAt s.data.toList c.2 = tl at *
      obtain ⟨tx, htx⟩ : ∃ tx, s.extract fr tl = tx := ⟨_, rfl⟩
      rw [htx] at d0 HRP hsub
      have htxs : tx.size ≤ 17592186044415 := by rw [← htx, ByteArray.size_extract]; omega
      have HPA := Lib.hid (fun W hW => places_any tx W (by omega) (HT.out.next hW))
      rw [hsub] at HPA
      clear htx hfr htl hsub
      generalize subL s.data.toList c.1 c.2 = SL at *
      obtain ⟨N, hN⟩ : ∃ N, c.2 - c.1 = N := ⟨_, rfl⟩
      have hN1 : 1 ≤ N := by omega
      have hN2 : N ≤ 1073741824 := by omega
      rw [hN] at hpl1 HRP HPC HMO HNS
      have HPG : Hid (∀ i, i ≤ N → (posL SL)[i]? = some (posAt SL i)) := Lib.hid (fun i hi => HGS.out i (by rw [HNS.out]; exact hi))
      clear HGS
      have HPW : Hid (pw c = if N = 1 then 1 else 2) := Lib.hid (by
        rw [HPWD.out]
        by_cases h1 : N = 1
        · rw [if_pos h1, if_pos (by omega)]
        · rw [if_neg h1, if_neg (by omega)])
      clear hN
      have HPL := Lib.hid hpl1; clear hpl1
      generalize hP : posAt SL = P at *
      clear hP
      go_upto_region 14 with (go_at_call 87; refine (HPA.out _ (HB1.out.trans ((HW.out.alloc hzr _).mono HB1.out.size))).mono ?_; rintro e w3 ⟨v, rfl, hv, b3⟩)
      obtain ⟨g, cap, cur, rfl, hg1, hg2, hc3, hc4, hcell⟩ := ints_blk hv (by rw [HPL.out]; omega)
      have HCE := Lib.hid hcell
      unfold maxLen at hc4
      have hzt : wo.heap.size < (wo.alloc (.cells #[.string tx, .int .i64 (k : Int), .int .i64 (fr : Int), .int .i64 (tl : Int)] 117)).heap.size := by simp
      have hb3w : Below w1.heap.size w1 w3 := (HW.out.alloc hzr _).trans (b3.mono (by simp; omega))
      have hbt : Blk w3 wo.heap.size 117 #[.string tx, .int .i64 (k : Int), .int .i64 (fr : Int), .int .i64 (tl : Int)] := (Blk.new wo _ _).below b3 hzt
      have HO3' := own_below (HO.out.alloc (.cells #[.string tx, .int .i64 (k : Int), .int .i64 (fr : Int), .int .i64 (tl : Int)] 117)) b3
      have HW3 : Hid (PieceW w1 wo.heap.size g #[.string tx, .int .i64 (k : Int), .int .i64 (fr : Int), .int .i64 (tl : Int)] cur u6 w3) := Lib.hid ⟨hb3w, hbt, hg2, fun r e => by have h1 := (HO.out.lt r e).2; simp at hg1; exact ⟨by omega, by omega⟩⟩
      clear hv b3 hg1 hg2 hcell hzt hb3w hbt d0 d1 d2 d3
      have HTN : Hid (∀ i, i + pw c ≤ N → tokOf s ((L.take k).flatMap pieces2 ++ (pieces2 c).take (i + 1)) = tokOf s ((L.take k).flatMap pieces2 ++ (pieces2 c).take i) ++ [tokAt s (((L.take k).flatMap pieces2).length + i) (c.1 + i, c.1 + i + pw c)]) := HMO
      have HT0 : Hid (tokOf s ((L.take k).flatMap pieces2 ++ (pieces2 c).take 0) = tokOf s ((L.take k).flatMap pieces2)) := Lib.hid (by simp)
      have HTM0 : Hid (tokOf s ((L.take k).flatMap pieces2 ++ (pieces2 c).take (pieces2 c).length) = tokOf s ((L.take (k + 1)).flatMap pieces2)) := Lib.hid (by rw [HTF.out, List.take_length])
      have HTL0 : Hid (∀ i, i ≤ (pieces2 c).length → (tokOf s ((L.take k).flatMap pieces2 ++ (pieces2 c).take i)).length = ((L.take k).flatMap pieces2).length + i) := Lib.hid (fun i hi => by rw [tokOf_len, List.length_append, List.length_take, Nat.min_eq_left hi])
      have HO3 : Hid (w3.ownsRow w1.heap.size 117 4 u6 (tokOf s ((L.take k).flatMap pieces2 ++ (pieces2 c).take 0)).length (tokCells (tokOf s ((L.take k).flatMap pieces2 ++ (pieces2 c).take 0)))) := Lib.hid (by rw [HT0.out]; exact HO3')
      clear HO3'
      have hml : ((L.take k).flatMap pieces2).length + (pieces2 c).length ≤ s.size := HTLN.out
      have HPC2 := HPC
      obtain ⟨Q, hQ⟩ : ∃ Q, (pieces2 c).length = Q := ⟨_, rfl⟩
      obtain ⟨m, hm⟩ : ∃ m, ((L.take k).flatMap pieces2).length = m := ⟨_, rfl⟩
      rw [hQ] at HTM0 HTL0 hml HPC2
      rw [hm] at HTN HTL0 hml HRP
      obtain ⟨T, hTd⟩ : ∃ T : Nat → List TokD, (fun i => tokOf s ((L.take k).flatMap pieces2 ++ (pieces2 c).take i)) = T := ⟨_, rfl⟩
      have HTX : ∀ i, tokOf s ((L.take k).flatMap pieces2 ++ (pieces2 c).take i) = T i := fun i => congrFun hTd i
      simp only [HTX] at HTN HTL0 HTM0 HO3
      have HTXS := Lib.hid htxs
      clear HTX hTd hQ hm HMO HTLN HPC HT0 htxs HPA HPWD
      rw [HPL.out] at hc3 ⊢
      by_cases hN : N = 1
      · subst hN
        simp only [Nat.reduceAdd]
        have HPW1 : Hid (pw c = 1) := Lib.hid (by rw [HPW.out]; rfl)
        clear HPW
        have HPW := HPW1
        clear HPW1
        have hQ1 : Q = 1 := by have := HPC2.out; rw [HPW.out] at this; omega
        subst hQ1
        have HTL := HTL0; have HTM := HTM0
        rw [HPW.out] at HTN
        have hmin : min (2 : Int) (1 : Int) = 1 := by decide
        go_wp2_with fail
        go_loopw [6, 11] (fun o i wq => ∃ j : Nat, j ≤ 1 ∧ i = .int .i64 j ∧ Hid (wq.ownsRow w1.heap.size 117 4 o (T j).length (tokCells (T j))) ∧ Hid (PieceW w1 wo.heap.size g #[.string tx, .int .i64 (k : Int), .int .i64 (fr : Int), .int .i64 (tl : Int)] cur o wq)) (fun _ i _ => 1 - (RowKit.intOf i).toNat)
        case atStart => exact ⟨0, by omega, rfl, HO3, HW3⟩
        case round =>
          obtain ⟨j, hj, rfl, HO, HW⟩ := hrel
          by_cases hlt : j < 1
          · obtain ⟨hp1, hp2⟩ := HRP.out.le j (by rw [HPW.out]; omega)
            rw [HPW.out] at hp1 hp2
            have htj : (T j).length ≤ 1099511627776 := by have := HTL.out j (by omega); omega
            have HTS : Hid (T (j + 1) = T j ++ [⟨tx.extract (P j) (P (j + 1)), ((T j).length : Int), (fr : Int) + (P j : Int), (fr : Int) + (P (j + 1) : Int)⟩]) := Lib.hid (by
              have h9 := HRP.out.tok j (by rw [HPW.out]; omega)
              rw [HPW.out] at h9
              rw [HTN.out j (by omega), ← h9, HTL.out j (by omega)])
            have SF : Hid (∀ W, (Blk W wo.heap.size 117 #[.string tx, .int .i64 (k : Int), .int .i64 (fr : Int), .int .i64 (tl : Int)] ∧ Blk W g 3 cur) → W.cell? ⟨wo.heap.size, 0, none⟩ = some (.string tx) ∧ W.cell? ⟨wo.heap.size, 2, none⟩ = some (.int .i64 (fr : Int)) ∧ W.cell? ⟨g, j, none⟩ = some (.int .i64 (P j : Int)) ∧ W.cell? ⟨g, j + 1, none⟩ = some (.int .i64 (P (j + 1) : Int))) := Lib.hid (fun W h =>
              ⟨h.1.cell 0, h.1.cell 2, (h.2.cell j).trans (HCE.out j _ (HPG.out j (by omega))), (h.2.cell (j + 1)).trans (HCE.out (j + 1) _ (HPG.out (j + 1) (by omega)))⟩)
            obtain ⟨ao4, cp4, rfl⟩ := own_slice2 HO.out
            have hx1 : (j : Int) < 2 := by omega
            have hx2 : (j : Int) + 1 < 2 := by omega
            have hx3 : (P j : Int) ≤ (P (j + 1) : Int) := by omega
            have hx4 : (P (j + 1) : Int) ≤ (tx.size : Int) := by omega
            have hfb : fr ≤ 1073741824 := hfrb
            have hpb := HTXS.out
            go_upto_region 18 with fail
            have hy3 : ((j : Int) + 1).toNat = j + 1 := by omega
            have hy2 : 0 ≤ (j : Int) + 1 := by omega
            have hy1 : IntKind.i64.wrap ((j : Int) + 1) = (j : Int) + 1 := IntWalk.i64_in _ (by omega)
            have hz1 : IntKind.i64.wrap ((fr : Int) + (P j : Int)) = (fr : Int) + (P j : Int) := IntWalk.i64_in _ (by omega)
            have hz2 : IntKind.i64.wrap ((fr : Int) + (P (j + 1) : Int)) = (fr : Int) + (P (j + 1) : Int) := IntWalk.i64_in _ (by omega)
            have HB5 : Hid (PieceW w1 wo.heap.size g #[.string tx, .int .i64 (k : Int), .int .i64 (fr : Int), .int .i64 (tl : Int)] cur (.slice ao4 (T j).length cp4) wr.drew) := Lib.hid ⟨HW.out.below.drew, HW.out.tb, HW.out.pr, HW.out.far⟩
            have HO5 : Hid (wr.drew.ownsRow w1.heap.size 117 4 (.slice ao4 (T j).length cp4) (T j).length (tokCells (T j))) := HO
            refine wp_region_held_drew (S := fun W => Blk W wo.heap.size 117 #[.string tx, .int .i64 (k : Int), .int .i64 (fr : Int), .int .i64 (tl : Int)] ∧ Blk W g 3 cur) (by kernel_rfl) ⟨HB5.out.tb, HB5.out.pr⟩ (fun hS0 => ?_)
            generalize wr.drew = W at *
            refine' wpAnyH_take (i := 0) (v := _) (by simp only [List.getElem?_toArray, List.getElem?_cons_zero]; rfl) (by kernel_rfl) (by kernel_rfl) (by kernel_rfl) (by exact fun _ _ _ h => h) (Or.inl ⟨by rfl, ?hx1⟩) hS0 ?rx1
            case hx1 => intro V hSw; clear hSw; go_simp; try with_reducible rfl
            try simp only [Act.put, List.setIfInBounds_toArray, List.set_cons_zero, List.set_cons_succ]
            refine' wpAnyH_take (i := 1) (v := _) (by simp only [List.getElem?_toArray, List.getElem?_cons_succ, List.getElem?_cons_zero]; rfl) (by kernel_rfl) (by kernel_rfl) (by kernel_rfl) (by exact fun _ _ _ h => h) (Or.inl ⟨by rfl, ?hx2⟩) hS0 ?rx2
            case hx2 => intro V hSw; clear hSw; go_simp; try with_reducible rfl
            try simp only [Act.put, List.setIfInBounds_toArray, List.set_cons_zero, List.set_cons_succ]
            refine' wpAnyH_take (i := 2) (v := _) (by simp only [List.getElem?_toArray, List.getElem?_cons_succ, List.getElem?_cons_zero]; rfl) (by kernel_rfl) (by kernel_rfl) (by kernel_rfl) (by exact fun _ _ _ h => h) (Or.inl ⟨by rfl, ?hx3⟩) hS0 ?rx3
            case hx3 => intro V hSw; obtain ⟨f0, f1, f2, f3⟩ := SF.out V hSw; clear hSw; go_simp; try with_reducible rfl
            try simp only [Act.put, List.setIfInBounds_toArray, List.set_cons_zero, List.set_cons_succ]
            refine' wpAnyH_take (i := 3) (v := _) (by simp only [List.getElem?_toArray, List.getElem?_cons_succ, List.getElem?_cons_zero]; rfl) (by kernel_rfl) (by kernel_rfl) (by kernel_rfl) (by exact fun _ _ _ h => h) (Or.inl ⟨by rfl, ?hx4⟩) hS0 ?rx4
            case hx4 => intro V hSw; clear hSw; go_simp; try with_reducible rfl
            try simp only [Act.put, List.setIfInBounds_toArray, List.set_cons_zero, List.set_cons_succ]
            refine' wpAnyH_take (i := 4) (v := _) (by simp only [List.getElem?_toArray, List.getElem?_cons_succ, List.getElem?_cons_zero]; rfl) (by kernel_rfl) (by kernel_rfl) (by kernel_rfl) (by exact fun _ _ _ h => h) (Or.inl ⟨by rfl, ?hx5⟩) hS0 ?rx5
            case hx5 => intro V hSw; clear hSw; go_simp; try with_reducible rfl
            try simp only [Act.put, List.setIfInBounds_toArray, List.set_cons_zero, List.set_cons_succ]
            refine' wpAnyH_take (i := 5) (v := _) (by simp only [List.getElem?_toArray, List.getElem?_cons_succ, List.getElem?_cons_zero]; rfl) (by kernel_rfl) (by kernel_rfl) (by kernel_rfl) (by exact fun _ _ _ h => h) (Or.inl ⟨by rfl, ?hx6⟩) hS0 ?rx6
            case hx6 => intro V hSw; clear hSw; go_simp; try with_reducible rfl
            try simp only [Act.put, List.setIfInBounds_toArray, List.set_cons_zero, List.set_cons_succ]
            refine' wpAnyH_take (i := 6) (v := _) (by simp only [List.getElem?_toArray, List.getElem?_cons_succ, List.getElem?_cons_zero]; rfl) (by kernel_rfl) (by kernel_rfl) (by kernel_rfl) (by exact fun _ _ _ h => h) (Or.inl ⟨by rfl, ?hx7⟩) hS0 ?rx7
            case hx7 => intro V hSw; obtain ⟨f0, f1, f2, f3⟩ := SF.out V hSw; clear hSw; go_simp; try with_reducible rfl
            try simp only [Act.put, List.setIfInBounds_toArray, List.set_cons_zero, List.set_cons_succ]
            refine' wpAnyH_take (i := 7) (v := _) (by simp only [List.getElem?_toArray, List.getElem?_cons_succ, List.getElem?_cons_zero]; rfl) (by kernel_rfl) (by kernel_rfl) (by kernel_rfl) (by exact fun _ _ _ h => h) (Or.inl ⟨by rfl, ?hx8⟩) hS0 ?rx8
            case hx8 => intro V hSw; clear hSw; go_simp; try with_reducible rfl
            try simp only [Act.put, List.setIfInBounds_toArray, List.set_cons_zero, List.set_cons_succ]
            refine' wpAnyH_take (i := 8) (v := _) (by simp only [List.getElem?_toArray, List.getElem?_cons_succ, List.getElem?_cons_zero]; rfl) (by kernel_rfl) (by kernel_rfl) (by kernel_rfl) (by exact fun _ _ _ h => h) (Or.inl ⟨by rfl, ?hx9⟩) hS0 ?rx9
            case hx9 => intro V hSw; clear hSw; go_simp; try with_reducible rfl
            try simp only [Act.put, List.setIfInBounds_toArray, List.set_cons_zero, List.set_cons_succ]
            refine' wpAnyH_take (i := 9) (v := _) (by simp only [List.getElem?_toArray, List.getElem?_cons_succ, List.getElem?_cons_zero]; rfl) (by kernel_rfl) (by kernel_rfl) (by kernel_rfl) (by exact fun _ _ _ h => h) (Or.inl ⟨by rfl, ?hx10⟩) hS0 ?rx10
            case hx10 => intro V hSw; clear hSw; go_simp; try with_reducible rfl
            try simp only [Act.put, List.setIfInBounds_toArray, List.set_cons_zero, List.set_cons_succ]
            refine' wpAnyH_take (i := 10) (v := _) (by simp only [List.getElem?_toArray, List.getElem?_cons_succ, List.getElem?_cons_zero]; rfl) (by kernel_rfl) (by kernel_rfl) (by kernel_rfl) (by exact fun _ _ _ h => h) (Or.inl ⟨by rfl, ?hx11⟩) hS0 ?rx11
            case hx11 => intro V hSw; clear hSw; go_simp; try with_reducible rfl
            try simp only [Act.put, List.setIfInBounds_toArray, List.set_cons_zero, List.set_cons_succ]
            refine' wpAnyH_take (i := 11) (v := _) (by simp only [List.getElem?_toArray, List.getElem?_cons_succ, List.getElem?_cons_zero]; rfl) (by kernel_rfl) (by kernel_rfl) (by kernel_rfl) (by exact fun _ _ _ h => h) (Or.inl ⟨by rfl, ?hx12⟩) hS0 ?rx12
            case hx12 => intro V hSw; clear hSw; go_simp; try with_reducible rfl
            try simp only [Act.put, List.setIfInBounds_toArray, List.set_cons_zero, List.set_cons_succ]
            refine' wpAnyH_take (i := 12) (v := _) (by simp only [List.getElem?_toArray, List.getElem?_cons_succ, List.getElem?_cons_zero]; rfl) (by kernel_rfl) (by kernel_rfl) (by kernel_rfl) (by exact fun _ _ _ h => h) (Or.inl ⟨by rfl, ?hx13⟩) hS0 ?rx13
            case hx13 => intro V hSw; obtain ⟨f0, f1, f2, f3⟩ := SF.out V hSw; clear hSw; go_simp; try with_reducible rfl
            try simp only [Act.put, List.setIfInBounds_toArray, List.set_cons_zero, List.set_cons_succ]
            refine' wpAnyH_take (i := 13) (v := _) (by simp only [List.getElem?_toArray, List.getElem?_cons_succ, List.getElem?_cons_zero]; rfl) (by kernel_rfl) (by kernel_rfl) (by kernel_rfl) (by exact fun _ _ _ h => h) (Or.inl ⟨by rfl, ?hx14⟩) hS0 ?rx14
            case hx14 => intro V hSw; clear hSw; go_simp; try with_reducible rfl
            try simp only [Act.put, List.setIfInBounds_toArray, List.set_cons_zero, List.set_cons_succ]
            refine' wpAnyH_take (i := 14) (v := _) (by simp only [List.getElem?_toArray, List.getElem?_cons_succ, List.getElem?_cons_zero]; rfl) (by kernel_rfl) (by kernel_rfl) (by kernel_rfl) (by exact fun _ _ _ h => h) (Or.inl ⟨by rfl, ?hx15⟩) hS0 ?rx15
            case hx15 => intro V hSw; clear hSw; go_simp; try with_reducible rfl
            try simp only [Act.put, List.setIfInBounds_toArray, List.set_cons_zero, List.set_cons_succ]
            refine' wpAnyH_take (i := 15) (v := _) (by simp only [List.getElem?_toArray, List.getElem?_cons_succ, List.getElem?_cons_zero]; rfl) (by kernel_rfl) (by kernel_rfl) (by kernel_rfl) (by exact fun _ _ _ h => h) (Or.inl ⟨by rfl, ?hx16⟩) hS0 ?rx16
            case hx16 => intro V hSw; clear hSw; go_simp; try with_reducible rfl
            try simp only [Act.put, List.setIfInBounds_toArray, List.set_cons_zero, List.set_cons_succ]
            refine' wpAnyH_take (i := 16) (v := _) (by simp only [List.getElem?_toArray, List.getElem?_cons_succ, List.getElem?_cons_zero]; rfl) (by kernel_rfl) (by kernel_rfl) (by kernel_rfl) (by exact fun _ _ _ h => h) (Or.inl ⟨by rfl, ?hx17⟩) hS0 ?rx17
            case hx17 => intro V hSw; clear hSw; go_simp; try with_reducible rfl
            try simp only [Act.put, List.setIfInBounds_toArray, List.set_cons_zero, List.set_cons_succ]
            refine' wpAnyH_take (i := 17) (v := _) (by simp only [List.getElem?_toArray, List.getElem?_cons_succ, List.getElem?_cons_zero]; rfl) (by kernel_rfl) (by kernel_rfl) (by kernel_rfl) (by exact fun _ _ _ h => h) (Or.inl ⟨by rfl, ?hx18⟩) hS0 ?rx18
            case hx18 => intro V hSw; obtain ⟨f0, f1, f2, f3⟩ := SF.out V hSw; clear hSw; go_simp; try with_reducible rfl
            try simp only [Act.put, List.setIfInBounds_toArray, List.set_cons_zero, List.set_cons_succ]
            refine' wpAnyH_take (i := 18) (v := _) (by simp only [List.getElem?_toArray, List.getElem?_cons_succ, List.getElem?_cons_zero]; rfl) (by kernel_rfl) (by kernel_rfl) (by kernel_rfl) (by exact fun _ _ _ h => h) (Or.inl ⟨by rfl, ?hx19⟩) hS0 ?rx19
            case hx19 => intro V hSw; clear hSw; go_simp; try with_reducible rfl
            try simp only [Act.put, List.setIfInBounds_toArray, List.set_cons_zero, List.set_cons_succ]
            refine' wpAnyH_take (i := 19) (v := _) (by simp only [List.getElem?_toArray, List.getElem?_cons_succ, List.getElem?_cons_zero]; rfl) (by kernel_rfl) (by kernel_rfl) (by kernel_rfl) (by exact fun _ _ _ h => h) (Or.inl ⟨by rfl, ?hx20⟩) hS0 ?rx20
            case hx20 => intro V hSw; clear hSw; go_simp; try with_reducible rfl
            try simp only [Act.put, List.setIfInBounds_toArray, List.set_cons_zero, List.set_cons_succ]
            refine' wpAnyH_take (i := 20) (v := _) (by simp only [List.getElem?_toArray, List.getElem?_cons_succ, List.getElem?_cons_zero]; rfl) (by kernel_rfl) (by kernel_rfl) (by kernel_rfl) (by exact fun _ _ _ h => h) (Or.inl ⟨by rfl, ?hx21⟩) hS0 ?rx21
            case hx21 => intro V hSw; clear hSw; go_simp; try with_reducible rfl
            try simp only [Act.put, List.setIfInBounds_toArray, List.set_cons_zero, List.set_cons_succ]
            refine' wpAnyH_take (i := 21) (v := _) (by simp only [List.getElem?_toArray, List.getElem?_cons_succ, List.getElem?_cons_zero]; rfl) (by kernel_rfl) (by kernel_rfl) (by kernel_rfl) (by exact fun _ _ _ h => h) (Or.inl ⟨by rfl, ?hx22⟩) hS0 ?rx22
            case hx22 => intro V hSw; obtain ⟨f0, f1, f2, f3⟩ := SF.out V hSw; clear hSw; go_simp; try with_reducible rfl
            try simp only [Act.put, List.setIfInBounds_toArray, List.set_cons_zero, List.set_cons_succ]
            refine' wpAnyH_take (i := 22) (v := _) (by simp only [List.getElem?_toArray, List.getElem?_cons_succ, List.getElem?_cons_zero]; rfl) (by kernel_rfl) (by kernel_rfl) (by kernel_rfl) (by exact fun _ _ _ h => h) (Or.inl ⟨by rfl, ?hx23⟩) hS0 ?rx23
            case hx23 => intro V hSw; clear hSw; go_simp; try with_reducible rfl
            try simp only [Act.put, List.setIfInBounds_toArray, List.set_cons_zero, List.set_cons_succ]
            refine' wpAnyH_take (i := 23) (v := _) (by simp only [List.getElem?_toArray, List.getElem?_cons_succ, List.getElem?_cons_zero]; rfl) (by kernel_rfl) (by kernel_rfl) (by kernel_rfl) (by exact fun _ _ _ h => h) (Or.inl ⟨by rfl, ?hx24⟩) hS0 ?rx24
            case hx24 => intro V hSw; clear hSw; go_simp; try with_reducible rfl
            try simp only [Act.put, List.setIfInBounds_toArray, List.set_cons_zero, List.set_cons_succ]
            refine' wpAnyH_take (i := 24) (v := _) (by simp only [List.getElem?_toArray, List.getElem?_cons_succ, List.getElem?_cons_zero]; rfl) (by kernel_rfl) (by kernel_rfl) (by kernel_rfl) (by exact fun _ _ _ h => h) (Or.inl ⟨by rfl, ?hx25⟩) hS0 ?rx25
            case hx25 => intro V hSw; obtain ⟨f0, f1, f2, f3⟩ := SF.out V hSw; clear hSw; go_simp; try with_reducible rfl
            try simp only [Act.put, List.setIfInBounds_toArray, List.set_cons_zero, List.set_cons_succ]
            refine' wpAnyH_take (i := 25) (v := _) (by simp only [List.getElem?_toArray, List.getElem?_cons_succ, List.getElem?_cons_zero]; rfl) (by kernel_rfl) (by kernel_rfl) (by kernel_rfl) (by exact fun _ _ _ h => h) (Or.inl ⟨by rfl, ?hx26⟩) hS0 ?rx26
            case hx26 => intro V hSw; clear hSw; go_simp; try with_reducible rfl
            try simp only [Act.put, List.setIfInBounds_toArray, List.set_cons_zero, List.set_cons_succ]
            refine' wpAnyH_take (i := 26) (v := _) (by simp only [List.getElem?_toArray, List.getElem?_cons_succ, List.getElem?_cons_zero]; rfl) (by kernel_rfl) (by kernel_rfl) (by kernel_rfl) (by exact fun _ _ _ h => h) (Or.inl ⟨by rfl, ?hx27⟩) hS0 ?rx27
            case hx27 => intro V hSw; clear hSw; go_simp; try with_reducible rfl
            try simp only [Act.put, List.setIfInBounds_toArray, List.set_cons_zero, List.set_cons_succ]
            refine' wpAnyH_take (i := 27) (v := _) (by simp only [List.getElem?_toArray, List.getElem?_cons_succ, List.getElem?_cons_zero]; rfl) (by kernel_rfl) (by kernel_rfl) (by kernel_rfl) (by exact fun _ _ _ h => h) (Or.inl ⟨by rfl, ?hx28⟩) hS0 ?rx28
            case hx28 => intro V hSw; clear hSw; go_simp; try with_reducible rfl
            try simp only [Act.put, List.setIfInBounds_toArray, List.set_cons_zero, List.set_cons_succ]
            refine' wpAnyH_take (i := 28) (v := _) (by simp only [List.getElem?_toArray, List.getElem?_cons_succ, List.getElem?_cons_zero]; rfl) (by kernel_rfl) (by kernel_rfl) (by kernel_rfl) (by exact fun _ _ _ h => h) (Or.inl ⟨by rfl, ?hx29⟩) hS0 ?rx29
            case hx29 => intro V hSw; clear hSw; go_simp; try with_reducible rfl
            try simp only [Act.put, List.setIfInBounds_toArray, List.set_cons_zero, List.set_cons_succ]
            refine' wpAnyH_take (i := 29) (v := _) (by simp only [List.getElem?_toArray, List.getElem?_cons_succ, List.getElem?_cons_zero]; rfl) (by kernel_rfl) (by kernel_rfl) (by kernel_rfl) (by exact fun _ _ _ h => h) (Or.inl ⟨by rfl, ?hx30⟩) hS0 ?rx30
            case hx30 => intro V hSw; clear hSw; go_simp; try with_reducible rfl
            try simp only [Act.put, List.setIfInBounds_toArray, List.set_cons_zero, List.set_cons_succ]
            refine' wpAnyH_take (i := 30) (v := _) (by simp only [List.getElem?_toArray, List.getElem?_cons_succ, List.getElem?_cons_zero]; rfl) (by kernel_rfl) (by kernel_rfl) (by kernel_rfl) (by exact fun _ _ _ h => h) (Or.inl ⟨by rfl, ?hx31⟩) hS0 ?rx31
            case hx31 => intro V hSw; obtain ⟨f0, f1, f2, f3⟩ := SF.out V hSw; clear hSw; go_simp; try with_reducible rfl
            try simp only [Act.put, List.setIfInBounds_toArray, List.set_cons_zero, List.set_cons_succ]
            refine' wpAnyH_take (i := 31) (v := _) (by simp only [List.getElem?_toArray, List.getElem?_cons_succ, List.getElem?_cons_zero]; rfl) (by kernel_rfl) (by kernel_rfl) (by kernel_rfl) (by exact fun _ _ _ h => h) (Or.inl ⟨by rfl, ?hx32⟩) hS0 ?rx32
            case hx32 => intro V hSw; clear hSw; go_simp; try with_reducible rfl
            try simp only [Act.put, List.setIfInBounds_toArray, List.set_cons_zero, List.set_cons_succ]
            refine' wpAnyH_take (i := 32) (v := _) (by simp only [List.getElem?_toArray, List.getElem?_cons_succ, List.getElem?_cons_zero]; rfl) (by kernel_rfl) (by kernel_rfl) (by kernel_rfl) (by exact fun _ _ _ h => h) (Or.inl ⟨by rfl, ?hx33⟩) hS0 ?rx33
            case hx33 => intro V hSw; clear hSw; go_simp; try with_reducible rfl
            try simp only [Act.put, List.setIfInBounds_toArray, List.set_cons_zero, List.set_cons_succ]
            refine wpAnyH_ready (rs := [33]) (by kernel_rfl) (by simp) ?_
            refine' AllReadyH.cons (by simp only [List.getElem?_toArray, List.getElem?_cons_succ, List.getElem?_cons_zero]; rfl) (fun K hK => ?_) AllReadyH.nil
            go_simp
            refine hK.out _ _ ⟨hS0.1.alloc _, hS0.2.alloc _⟩ (fun hS1 => ?_)
            try simp only [Act.put, List.setIfInBounds_toArray, List.set_cons_zero, List.set_cons_succ]
            have hoW := HO5.out
            clear hy1 hy2 hy3
            refine wpAnyH_ready (rs := [34]) (by kernel_rfl) (by simp) ?_
            refine' AllReadyH.cons (by simp only [List.getElem?_toArray, List.getElem?_cons_succ, List.getElem?_cons_zero]; rfl) (fun K hK => ?_) AllReadyH.nil
            refine step_append_tok (by rfl) _ _ (by rfl) w1.heap.size ao4 cp4 (T j) W (by rfl) hoW ⟨tx.extract (P j) (P (j + 1)), ((T j).length : Int), (fr : Int) + (P j : Int), (fr : Int) + (P (j + 1) : Int)⟩ (by rfl) htj HB5.out.below.size ?_
            intro gg cap3 w4 ho4 hg4 hgb
            have hp4 := HB5.out.more (O := (.cells #[.string (tx.extract (P j) (P (j + 1))), .int .i64 ((T j).length : Int), .int .i64 ((fr : Int) + (P j : Int)), .int .i64 ((fr : Int) + (P (j + 1) : Int))] 117)) hg4 (fun r e => (hoW.lt r e).1) (v' := .slice (some ⟨gg, 0, none⟩) ((T j).length + 1) cap3) rfl hgb
            have HO6 : Hid (w4.ownsRow w1.heap.size 117 4 (.slice (some ⟨gg, 0, none⟩) ((T j).length + 1) cap3) (T (j + 1)).length (tokCells (T (j + 1)))) := Lib.hid (by rw [HTS.out, List.length_append]; exact ho4)
            have HB6 := Lib.hid hp4
            refine hK.out _ _ ⟨hp4.tb, hp4.pr⟩ (fun hS2 => ?_)
            try simp only [Act.put, List.setIfInBounds_toArray, List.set_cons_zero, List.set_cons_succ]
            refine' wpAnyH_take (i := 35) (v := _) (by simp only [List.getElem?_toArray, List.getElem?_cons_succ, List.getElem?_cons_zero]; rfl) (by kernel_rfl) (by kernel_rfl) (by kernel_rfl) (by exact fun _ _ _ h => h) (Or.inl ⟨by rfl, ?hx34⟩) hS2 ?rx34
            case hx34 => intro V hSw; clear hSw; go_simp; try with_reducible rfl
            try simp only [Act.put, List.setIfInBounds_toArray, List.set_cons_zero, List.set_cons_succ]
            refine wpAnyH_done (by kernel_rfl) ?_ _
            clear hoW ho4 hg4 hgb hp4 hz1 hz2 hS0 hS1 hS2
            go_wp2_with fail
            go_roundw
            case rel => exact ⟨j + 1, by omega, by go_num, HO6, HB6⟩
            case measure => simp [RowKit.intOf]; omega
          · obtain rfl : j = 1 := by omega
            have HOF : Hid (wr.ownsRow w1.heap.size 117 4 u6 (tokOf s ((L.take (k + 1)).flatMap pieces2)).length (tokCells (tokOf s ((L.take (k + 1)).flatMap pieces2)))) := Lib.hid (by have := HO.out; rw [HTM.out] at this; exact this)
            have HWF := Lib.hid HW.out.below
            go_wp2_with fail
            go_roundw
            case rel => exact ⟨k + 1, by omega, by go_num, HOF, HWF⟩
            case measure => simp [RowKit.intOf]; omega
      · have HPW1 : Hid (pw c = 2) := Lib.hid (by rw [HPW.out, if_neg hN])
        clear HPW
        have HPW := HPW1
        clear HPW1
        have hQ1 : N - 1 = Q := by have := HPC2.out; rw [HPW.out] at this; omega
        subst hQ1
        have HTL := HTL0; have HTM := HTM0
        rw [HPW.out] at HTN
        have hNN : 2 ≤ N := by omega
        have hmin : min (2 : Int) (N : Int) = 2 := by omega
        go_wp2_with fail
        go_loopw [6, 11] (fun o i wq => ∃ j : Nat, j ≤ (N - 1) ∧ i = .int .i64 j ∧ Hid (wq.ownsRow w1.heap.size 117 4 o (T j).length (tokCells (T j))) ∧ Hid (PieceW w1 wo.heap.size g #[.string tx, .int .i64 (k : Int), .int .i64 (fr : Int), .int .i64 (tl : Int)] cur o wq)) (fun _ i _ => (N - 1) - (RowKit.intOf i).toNat)
        case atStart => exact ⟨0, by omega, rfl, HO3, HW3⟩
        case round =>
          obtain ⟨j, hj, rfl, HO, HW⟩ := hrel
          by_cases hlt : j < (N - 1)
          · obtain ⟨hp1, hp2⟩ := HRP.out.le j (by rw [HPW.out]; omega)
            rw [HPW.out] at hp1 hp2
            have htj : (T j).length ≤ 1099511627776 := by have := HTL.out j (by omega); omega
            have HTS : Hid (T (j + 1) = T j ++ [⟨tx.extract (P j) (P (j + 2)), ((T j).length : Int), (fr : Int) + (P j : Int), (fr : Int) + (P (j + 2) : Int)⟩]) := Lib.hid (by
              have h9 := HRP.out.tok j (by rw [HPW.out]; omega)
              rw [HPW.out] at h9
              rw [HTN.out j (by omega), ← h9, HTL.out j (by omega)])
            have SF : Hid (∀ W, (Blk W wo.heap.size 117 #[.string tx, .int .i64 (k : Int), .int .i64 (fr : Int), .int .i64 (tl : Int)] ∧ Blk W g 3 cur) → W.cell? ⟨wo.heap.size, 0, none⟩ = some (.string tx) ∧ W.cell? ⟨wo.heap.size, 2, none⟩ = some (.int .i64 (fr : Int)) ∧ W.cell? ⟨g, j, none⟩ = some (.int .i64 (P j : Int)) ∧ W.cell? ⟨g, j + 2, none⟩ = some (.int .i64 (P (j + 2) : Int))) := Lib.hid (fun W h =>
              ⟨h.1.cell 0, h.1.cell 2, (h.2.cell j).trans (HCE.out j _ (HPG.out j (by omega))), (h.2.cell (j + 2)).trans (HCE.out (j + 2) _ (HPG.out (j + 2) (by omega)))⟩)
            obtain ⟨ao4, cp4, rfl⟩ := own_slice2 HO.out
            have hx1 : (j : Int) < (N : Int) + 1 := by omega
            have hx2 : (j : Int) + 2 < (N : Int) + 1 := by omega
            have hx3 : (P j : Int) ≤ (P (j + 2) : Int) := by omega
            have hx4 : (P (j + 2) : Int) ≤ (tx.size : Int) := by omega
            have hfb : fr ≤ 1073741824 := hfrb
            have hpb := HTXS.out
            go_upto_region 18 with fail
            have hy3 : ((j : Int) + 2).toNat = j + 2 := by omega
            have hy2 : 0 ≤ (j : Int) + 2 := by omega
            have hy1 : IntKind.i64.wrap ((j : Int) + 2) = (j : Int) + 2 := IntWalk.i64_in _ (by omega)
            have hz1 : IntKind.i64.wrap ((fr : Int) + (P j : Int)) = (fr : Int) + (P j : Int) := IntWalk.i64_in _ (by omega)
            have hz2 : IntKind.i64.wrap ((fr : Int) + (P (j + 2) : Int)) = (fr : Int) + (P (j + 2) : Int) := IntWalk.i64_in _ (by omega)
            have HB5 : Hid (PieceW w1 wo.heap.size g #[.string tx, .int .i64 (k : Int), .int .i64 (fr : Int), .int .i64 (tl : Int)] cur (.slice ao4 (T j).length cp4) wr.drew) := Lib.hid ⟨HW.out.below.drew, HW.out.tb, HW.out.pr, HW.out.far⟩
            have HO5 : Hid (wr.drew.ownsRow w1.heap.size 117 4 (.slice ao4 (T j).length cp4) (T j).length (tokCells (T j))) := HO
            refine wp_region_held_drew (S := fun W => Blk W wo.heap.size 117 #[.string tx, .int .i64 (k : Int), .int .i64 (fr : Int), .int .i64 (tl : Int)] ∧ Blk W g 3 cur) (by kernel_rfl) ⟨HB5.out.tb, HB5.out.pr⟩ (fun hS0 => ?_)
            generalize wr.drew = W at *
            refine' wpAnyH_take (i := 0) (v := _) (by simp only [List.getElem?_toArray, List.getElem?_cons_zero]; rfl) (by kernel_rfl) (by kernel_rfl) (by kernel_rfl) (by exact fun _ _ _ h => h) (Or.inl ⟨by rfl, ?hx35⟩) hS0 ?rx35
            case hx35 => intro V hSw; clear hSw; go_simp; try with_reducible rfl
            try simp only [Act.put, List.setIfInBounds_toArray, List.set_cons_zero, List.set_cons_succ]
            refine' wpAnyH_take (i := 1) (v := _) (by simp only [List.getElem?_toArray, List.getElem?_cons_succ, List.getElem?_cons_zero]; rfl) (by kernel_rfl) (by kernel_rfl) (by kernel_rfl) (by exact fun _ _ _ h => h) (Or.inl ⟨by rfl, ?hx36⟩) hS0 ?rx36
            case hx36 => intro V hSw; clear hSw; go_simp; try with_reducible rfl
            try simp only [Act.put, List.setIfInBounds_toArray, List.set_cons_zero, List.set_cons_succ]
            refine' wpAnyH_take (i := 2) (v := _) (by simp only [List.getElem?_toArray, List.getElem?_cons_succ, List.getElem?_cons_zero]; rfl) (by kernel_rfl) (by kernel_rfl) (by kernel_rfl) (by exact fun _ _ _ h => h) (Or.inl ⟨by rfl, ?hx37⟩) hS0 ?rx37
            case hx37 => intro V hSw; obtain ⟨f0, f1, f2, f3⟩ := SF.out V hSw; clear hSw; go_simp; try with_reducible rfl
            try simp only [Act.put, List.setIfInBounds_toArray, List.set_cons_zero, List.set_cons_succ]
            refine' wpAnyH_take (i := 3) (v := _) (by simp only [List.getElem?_toArray, List.getElem?_cons_succ, List.getElem?_cons_zero]; rfl) (by kernel_rfl) (by kernel_rfl) (by kernel_rfl) (by exact fun _ _ _ h => h) (Or.inl ⟨by rfl, ?hx38⟩) hS0 ?rx38
            case hx38 => intro V hSw; clear hSw; go_simp; try with_reducible rfl
            try simp only [Act.put, List.setIfInBounds_toArray, List.set_cons_zero, List.set_cons_succ]
            refine' wpAnyH_take (i := 4) (v := _) (by simp only [List.getElem?_toArray, List.getElem?_cons_succ, List.getElem?_cons_zero]; rfl) (by kernel_rfl) (by kernel_rfl) (by kernel_rfl) (by exact fun _ _ _ h => h) (Or.inl ⟨by rfl, ?hx39⟩) hS0 ?rx39
            case hx39 => intro V hSw; clear hSw; go_simp; try with_reducible rfl
            try simp only [Act.put, List.setIfInBounds_toArray, List.set_cons_zero, List.set_cons_succ]
            refine' wpAnyH_take (i := 5) (v := _) (by simp only [List.getElem?_toArray, List.getElem?_cons_succ, List.getElem?_cons_zero]; rfl) (by kernel_rfl) (by kernel_rfl) (by kernel_rfl) (by exact fun _ _ _ h => h) (Or.inl ⟨by rfl, ?hx40⟩) hS0 ?rx40
            case hx40 => intro V hSw; clear hSw; go_simp; try with_reducible rfl
            try simp only [Act.put, List.setIfInBounds_toArray, List.set_cons_zero, List.set_cons_succ]
            refine' wpAnyH_take (i := 6) (v := _) (by simp only [List.getElem?_toArray, List.getElem?_cons_succ, List.getElem?_cons_zero]; rfl) (by kernel_rfl) (by kernel_rfl) (by kernel_rfl) (by exact fun _ _ _ h => h) (Or.inl ⟨by rfl, ?hx41⟩) hS0 ?rx41
            case hx41 => intro V hSw; obtain ⟨f0, f1, f2, f3⟩ := SF.out V hSw; clear hSw; go_simp; try with_reducible rfl
            try simp only [Act.put, List.setIfInBounds_toArray, List.set_cons_zero, List.set_cons_succ]
            refine' wpAnyH_take (i := 7) (v := _) (by simp only [List.getElem?_toArray, List.getElem?_cons_succ, List.getElem?_cons_zero]; rfl) (by kernel_rfl) (by kernel_rfl) (by kernel_rfl) (by exact fun _ _ _ h => h) (Or.inl ⟨by rfl, ?hx42⟩) hS0 ?rx42
            case hx42 => intro V hSw; clear hSw; go_simp; try with_reducible rfl
            try simp only [Act.put, List.setIfInBounds_toArray, List.set_cons_zero, List.set_cons_succ]
            refine' wpAnyH_take (i := 8) (v := _) (by simp only [List.getElem?_toArray, List.getElem?_cons_succ, List.getElem?_cons_zero]; rfl) (by kernel_rfl) (by kernel_rfl) (by kernel_rfl) (by exact fun _ _ _ h => h) (Or.inl ⟨by rfl, ?hx43⟩) hS0 ?rx43
            case hx43 => intro V hSw; clear hSw; go_simp; try with_reducible rfl
            try simp only [Act.put, List.setIfInBounds_toArray, List.set_cons_zero, List.set_cons_succ]
            refine' wpAnyH_take (i := 9) (v := _) (by simp only [List.getElem?_toArray, List.getElem?_cons_succ, List.getElem?_cons_zero]; rfl) (by kernel_rfl) (by kernel_rfl) (by kernel_rfl) (by exact fun _ _ _ h => h) (Or.inl ⟨by rfl, ?hx44⟩) hS0 ?rx44
            case hx44 => intro V hSw; clear hSw; go_simp; try with_reducible rfl
            try simp only [Act.put, List.setIfInBounds_toArray, List.set_cons_zero, List.set_cons_succ]
            refine' wpAnyH_take (i := 10) (v := _) (by simp only [List.getElem?_toArray, List.getElem?_cons_succ, List.getElem?_cons_zero]; rfl) (by kernel_rfl) (by kernel_rfl) (by kernel_rfl) (by exact fun _ _ _ h => h) (Or.inl ⟨by rfl, ?hx45⟩) hS0 ?rx45
            case hx45 => intro V hSw; clear hSw; go_simp; try with_reducible rfl
            try simp only [Act.put, List.setIfInBounds_toArray, List.set_cons_zero, List.set_cons_succ]
            refine' wpAnyH_take (i := 11) (v := _) (by simp only [List.getElem?_toArray, List.getElem?_cons_succ, List.getElem?_cons_zero]; rfl) (by kernel_rfl) (by kernel_rfl) (by kernel_rfl) (by exact fun _ _ _ h => h) (Or.inl ⟨by rfl, ?hx46⟩) hS0 ?rx46
            case hx46 => intro V hSw; clear hSw; go_simp; try with_reducible rfl
            try simp only [Act.put, List.setIfInBounds_toArray, List.set_cons_zero, List.set_cons_succ]
            refine' wpAnyH_take (i := 12) (v := _) (by simp only [List.getElem?_toArray, List.getElem?_cons_succ, List.getElem?_cons_zero]; rfl) (by kernel_rfl) (by kernel_rfl) (by kernel_rfl) (by exact fun _ _ _ h => h) (Or.inl ⟨by rfl, ?hx47⟩) hS0 ?rx47
            case hx47 => intro V hSw; obtain ⟨f0, f1, f2, f3⟩ := SF.out V hSw; clear hSw; go_simp; try with_reducible rfl
            try simp only [Act.put, List.setIfInBounds_toArray, List.set_cons_zero, List.set_cons_succ]
            refine' wpAnyH_take (i := 13) (v := _) (by simp only [List.getElem?_toArray, List.getElem?_cons_succ, List.getElem?_cons_zero]; rfl) (by kernel_rfl) (by kernel_rfl) (by kernel_rfl) (by exact fun _ _ _ h => h) (Or.inl ⟨by rfl, ?hx48⟩) hS0 ?rx48
            case hx48 => intro V hSw; clear hSw; go_simp; try with_reducible rfl
            try simp only [Act.put, List.setIfInBounds_toArray, List.set_cons_zero, List.set_cons_succ]
            refine' wpAnyH_take (i := 14) (v := _) (by simp only [List.getElem?_toArray, List.getElem?_cons_succ, List.getElem?_cons_zero]; rfl) (by kernel_rfl) (by kernel_rfl) (by kernel_rfl) (by exact fun _ _ _ h => h) (Or.inl ⟨by rfl, ?hx49⟩) hS0 ?rx49
            case hx49 => intro V hSw; clear hSw; go_simp; try with_reducible rfl
            try simp only [Act.put, List.setIfInBounds_toArray, List.set_cons_zero, List.set_cons_succ]
            refine' wpAnyH_take (i := 15) (v := _) (by simp only [List.getElem?_toArray, List.getElem?_cons_succ, List.getElem?_cons_zero]; rfl) (by kernel_rfl) (by kernel_rfl) (by kernel_rfl) (by exact fun _ _ _ h => h) (Or.inl ⟨by rfl, ?hx50⟩) hS0 ?rx50
            case hx50 => intro V hSw; clear hSw; go_simp; try with_reducible rfl
            try simp only [Act.put, List.setIfInBounds_toArray, List.set_cons_zero, List.set_cons_succ]
            refine' wpAnyH_take (i := 16) (v := _) (by simp only [List.getElem?_toArray, List.getElem?_cons_succ, List.getElem?_cons_zero]; rfl) (by kernel_rfl) (by kernel_rfl) (by kernel_rfl) (by exact fun _ _ _ h => h) (Or.inl ⟨by rfl, ?hx51⟩) hS0 ?rx51
            case hx51 => intro V hSw; clear hSw; go_simp; try with_reducible rfl
            try simp only [Act.put, List.setIfInBounds_toArray, List.set_cons_zero, List.set_cons_succ]
            refine' wpAnyH_take (i := 17) (v := _) (by simp only [List.getElem?_toArray, List.getElem?_cons_succ, List.getElem?_cons_zero]; rfl) (by kernel_rfl) (by kernel_rfl) (by kernel_rfl) (by exact fun _ _ _ h => h) (Or.inl ⟨by rfl, ?hx52⟩) hS0 ?rx52
            case hx52 => intro V hSw; obtain ⟨f0, f1, f2, f3⟩ := SF.out V hSw; clear hSw; go_simp; try with_reducible rfl
            try simp only [Act.put, List.setIfInBounds_toArray, List.set_cons_zero, List.set_cons_succ]
            refine' wpAnyH_take (i := 18) (v := _) (by simp only [List.getElem?_toArray, List.getElem?_cons_succ, List.getElem?_cons_zero]; rfl) (by kernel_rfl) (by kernel_rfl) (by kernel_rfl) (by exact fun _ _ _ h => h) (Or.inl ⟨by rfl, ?hx53⟩) hS0 ?rx53
            case hx53 => intro V hSw; clear hSw; go_simp; try with_reducible rfl
            try simp only [Act.put, List.setIfInBounds_toArray, List.set_cons_zero, List.set_cons_succ]
            refine' wpAnyH_take (i := 19) (v := _) (by simp only [List.getElem?_toArray, List.getElem?_cons_succ, List.getElem?_cons_zero]; rfl) (by kernel_rfl) (by kernel_rfl) (by kernel_rfl) (by exact fun _ _ _ h => h) (Or.inl ⟨by rfl, ?hx54⟩) hS0 ?rx54
            case hx54 => intro V hSw; clear hSw; go_simp; try with_reducible rfl
            try simp only [Act.put, List.setIfInBounds_toArray, List.set_cons_zero, List.set_cons_succ]
            refine' wpAnyH_take (i := 20) (v := _) (by simp only [List.getElem?_toArray, List.getElem?_cons_succ, List.getElem?_cons_zero]; rfl) (by kernel_rfl) (by kernel_rfl) (by kernel_rfl) (by exact fun _ _ _ h => h) (Or.inl ⟨by rfl, ?hx55⟩) hS0 ?rx55
            case hx55 => intro V hSw; clear hSw; go_simp; try with_reducible rfl
            try simp only [Act.put, List.setIfInBounds_toArray, List.set_cons_zero, List.set_cons_succ]
            refine' wpAnyH_take (i := 21) (v := _) (by simp only [List.getElem?_toArray, List.getElem?_cons_succ, List.getElem?_cons_zero]; rfl) (by kernel_rfl) (by kernel_rfl) (by kernel_rfl) (by exact fun _ _ _ h => h) (Or.inl ⟨by rfl, ?hx56⟩) hS0 ?rx56
            case hx56 => intro V hSw; obtain ⟨f0, f1, f2, f3⟩ := SF.out V hSw; clear hSw; go_simp; try with_reducible rfl
            try simp only [Act.put, List.setIfInBounds_toArray, List.set_cons_zero, List.set_cons_succ]
            refine' wpAnyH_take (i := 22) (v := _) (by simp only [List.getElem?_toArray, List.getElem?_cons_succ, List.getElem?_cons_zero]; rfl) (by kernel_rfl) (by kernel_rfl) (by kernel_rfl) (by exact fun _ _ _ h => h) (Or.inl ⟨by rfl, ?hx57⟩) hS0 ?rx57
            case hx57 => intro V hSw; clear hSw; go_simp; try with_reducible rfl
            try simp only [Act.put, List.setIfInBounds_toArray, List.set_cons_zero, List.set_cons_succ]
            refine' wpAnyH_take (i := 23) (v := _) (by simp only [List.getElem?_toArray, List.getElem?_cons_succ, List.getElem?_cons_zero]; rfl) (by kernel_rfl) (by kernel_rfl) (by kernel_rfl) (by exact fun _ _ _ h => h) (Or.inl ⟨by rfl, ?hx58⟩) hS0 ?rx58
            case hx58 => intro V hSw; clear hSw; go_simp; try with_reducible rfl
            try simp only [Act.put, List.setIfInBounds_toArray, List.set_cons_zero, List.set_cons_succ]
            refine' wpAnyH_take (i := 24) (v := _) (by simp only [List.getElem?_toArray, List.getElem?_cons_succ, List.getElem?_cons_zero]; rfl) (by kernel_rfl) (by kernel_rfl) (by kernel_rfl) (by exact fun _ _ _ h => h) (Or.inl ⟨by rfl, ?hx59⟩) hS0 ?rx59
            case hx59 => intro V hSw; obtain ⟨f0, f1, f2, f3⟩ := SF.out V hSw; clear hSw; go_simp; try with_reducible rfl
            try simp only [Act.put, List.setIfInBounds_toArray, List.set_cons_zero, List.set_cons_succ]
            refine' wpAnyH_take (i := 25) (v := _) (by simp only [List.getElem?_toArray, List.getElem?_cons_succ, List.getElem?_cons_zero]; rfl) (by kernel_rfl) (by kernel_rfl) (by kernel_rfl) (by exact fun _ _ _ h => h) (Or.inl ⟨by rfl, ?hx60⟩) hS0 ?rx60
            case hx60 => intro V hSw; clear hSw; go_simp; try with_reducible rfl
            try simp only [Act.put, List.setIfInBounds_toArray, List.set_cons_zero, List.set_cons_succ]
            refine' wpAnyH_take (i := 26) (v := _) (by simp only [List.getElem?_toArray, List.getElem?_cons_succ, List.getElem?_cons_zero]; rfl) (by kernel_rfl) (by kernel_rfl) (by kernel_rfl) (by exact fun _ _ _ h => h) (Or.inl ⟨by rfl, ?hx61⟩) hS0 ?rx61
            case hx61 => intro V hSw; clear hSw; go_simp; try with_reducible rfl
            try simp only [Act.put, List.setIfInBounds_toArray, List.set_cons_zero, List.set_cons_succ]
            refine' wpAnyH_take (i := 27) (v := _) (by simp only [List.getElem?_toArray, List.getElem?_cons_succ, List.getElem?_cons_zero]; rfl) (by kernel_rfl) (by kernel_rfl) (by kernel_rfl) (by exact fun _ _ _ h => h) (Or.inl ⟨by rfl, ?hx62⟩) hS0 ?rx62
            case hx62 => intro V hSw; clear hSw; go_simp; try with_reducible rfl
            try simp only [Act.put, List.setIfInBounds_toArray, List.set_cons_zero, List.set_cons_succ]
            refine' wpAnyH_take (i := 28) (v := _) (by simp only [List.getElem?_toArray, List.getElem?_cons_succ, List.getElem?_cons_zero]; rfl) (by kernel_rfl) (by kernel_rfl) (by kernel_rfl) (by exact fun _ _ _ h => h) (Or.inl ⟨by rfl, ?hx63⟩) hS0 ?rx63
            case hx63 => intro V hSw; clear hSw; go_simp; try with_reducible rfl
            try simp only [Act.put, List.setIfInBounds_toArray, List.set_cons_zero, List.set_cons_succ]
            refine' wpAnyH_take (i := 29) (v := _) (by simp only [List.getElem?_toArray, List.getElem?_cons_succ, List.getElem?_cons_zero]; rfl) (by kernel_rfl) (by kernel_rfl) (by kernel_rfl) (by exact fun _ _ _ h => h) (Or.inl ⟨by rfl, ?hx64⟩) hS0 ?rx64
            case hx64 => intro V hSw; clear hSw; go_simp; try with_reducible rfl
            try simp only [Act.put, List.setIfInBounds_toArray, List.set_cons_zero, List.set_cons_succ]
            refine' wpAnyH_take (i := 30) (v := _) (by simp only [List.getElem?_toArray, List.getElem?_cons_succ, List.getElem?_cons_zero]; rfl) (by kernel_rfl) (by kernel_rfl) (by kernel_rfl) (by exact fun _ _ _ h => h) (Or.inl ⟨by rfl, ?hx65⟩) hS0 ?rx65
            case hx65 => intro V hSw; obtain ⟨f0, f1, f2, f3⟩ := SF.out V hSw; clear hSw; go_simp; try with_reducible rfl
            try simp only [Act.put, List.setIfInBounds_toArray, List.set_cons_zero, List.set_cons_succ]
            refine' wpAnyH_take (i := 31) (v := _) (by simp only [List.getElem?_toArray, List.getElem?_cons_succ, List.getElem?_cons_zero]; rfl) (by kernel_rfl) (by kernel_rfl) (by kernel_rfl) (by exact fun _ _ _ h => h) (Or.inl ⟨by rfl, ?hx66⟩) hS0 ?rx66
            case hx66 => intro V hSw; clear hSw; go_simp; try with_reducible rfl
            try simp only [Act.put, List.setIfInBounds_toArray, List.set_cons_zero, List.set_cons_succ]
            refine' wpAnyH_take (i := 32) (v := _) (by simp only [List.getElem?_toArray, List.getElem?_cons_succ, List.getElem?_cons_zero]; rfl) (by kernel_rfl) (by kernel_rfl) (by kernel_rfl) (by exact fun _ _ _ h => h) (Or.inl ⟨by rfl, ?hx67⟩) hS0 ?rx67
            case hx67 => intro V hSw; clear hSw; go_simp; try with_reducible rfl
            try simp only [Act.put, List.setIfInBounds_toArray, List.set_cons_zero, List.set_cons_succ]
            refine wpAnyH_ready (rs := [33]) (by kernel_rfl) (by simp) ?_
            refine' AllReadyH.cons (by simp only [List.getElem?_toArray, List.getElem?_cons_succ, List.getElem?_cons_zero]; rfl) (fun K hK => ?_) AllReadyH.nil
            go_simp
            refine hK.out _ _ ⟨hS0.1.alloc _, hS0.2.alloc _⟩ (fun hS1 => ?_)
            try simp only [Act.put, List.setIfInBounds_toArray, List.set_cons_zero, List.set_cons_succ]
            have hoW := HO5.out
            clear hy1 hy2 hy3
            refine wpAnyH_ready (rs := [34]) (by kernel_rfl) (by simp) ?_
            refine' AllReadyH.cons (by simp only [List.getElem?_toArray, List.getElem?_cons_succ, List.getElem?_cons_zero]; rfl) (fun K hK => ?_) AllReadyH.nil
            refine step_append_tok (by rfl) _ _ (by rfl) w1.heap.size ao4 cp4 (T j) W (by rfl) hoW ⟨tx.extract (P j) (P (j + 2)), ((T j).length : Int), (fr : Int) + (P j : Int), (fr : Int) + (P (j + 2) : Int)⟩ (by rfl) htj HB5.out.below.size ?_
            intro gg cap3 w4 ho4 hg4 hgb
            have hp4 := HB5.out.more (O := (.cells #[.string (tx.extract (P j) (P (j + 2))), .int .i64 ((T j).length : Int), .int .i64 ((fr : Int) + (P j : Int)), .int .i64 ((fr : Int) + (P (j + 2) : Int))] 117)) hg4 (fun r e => (hoW.lt r e).1) (v' := .slice (some ⟨gg, 0, none⟩) ((T j).length + 1) cap3) rfl hgb
            have HO6 : Hid (w4.ownsRow w1.heap.size 117 4 (.slice (some ⟨gg, 0, none⟩) ((T j).length + 1) cap3) (T (j + 1)).length (tokCells (T (j + 1)))) := Lib.hid (by rw [HTS.out, List.length_append]; exact ho4)
            have HB6 := Lib.hid hp4
            refine hK.out _ _ ⟨hp4.tb, hp4.pr⟩ (fun hS2 => ?_)
            try simp only [Act.put, List.setIfInBounds_toArray, List.set_cons_zero, List.set_cons_succ]
            refine' wpAnyH_take (i := 35) (v := _) (by simp only [List.getElem?_toArray, List.getElem?_cons_succ, List.getElem?_cons_zero]; rfl) (by kernel_rfl) (by kernel_rfl) (by kernel_rfl) (by exact fun _ _ _ h => h) (Or.inl ⟨by rfl, ?hx68⟩) hS2 ?rx68
            case hx68 => intro V hSw; clear hSw; go_simp; try with_reducible rfl
            try simp only [Act.put, List.setIfInBounds_toArray, List.set_cons_zero, List.set_cons_succ]
            refine wpAnyH_done (by kernel_rfl) ?_ _
            clear hoW ho4 hg4 hgb hp4 hz1 hz2 hS0 hS1 hS2
            go_wp2_with fail
            go_roundw
            case rel => exact ⟨j + 1, by omega, by go_num, HO6, HB6⟩
            case measure => simp [RowKit.intOf]; omega
          · obtain rfl : j = (N - 1) := by omega
            have HOF : Hid (wr.ownsRow w1.heap.size 117 4 u6 (tokOf s ((L.take (k + 1)).flatMap pieces2)).length (tokCells (tokOf s ((L.take (k + 1)).flatMap pieces2)))) := Lib.hid (by have := HO.out; rw [HTM.out] at this; exact this)
            have HWF := Lib.hid HW.out.below
            go_wp2_with fail
            go_roundw
            case rel => exact ⟨k + 1, by omega, by go_num, HOF, HWF⟩
            case measure => simp [RowKit.intOf]; omega
    · obtain rfl : k = L.length := by omega
      have HO2 : Hid (wo.ownsRow w1.heap.size 117 4 u6 (tokOf s (L.flatMap pieces2)).length (tokCells (tokOf s (L.flatMap pieces2)))) := Lib.hid (by have := HO.out; rwa [List.take_of_length_le (Nat.le_refl _)] at this)
      go_wp2_with fail
      go_ret
      exact ⟨_, rfl, own_base HO2.out HB1.out.size, HB1.out.trans (HW.out.mono HB1.out.size)⟩

end Go.Proofs.YtinmiekbhoemjaaGreatDoor.Ana
