/- Contract: tokens through a filter: the document's Link. Contract: a whole run: analysis.Run. -/
import Derived.Test.YtinmiekbhoemjaaGreatDoorAnaOne15
import Derived.Test.YtinmiekbhoemjaaGreatDoorAnaToks4
import Derived.Test.YtinmiekbhoemjaaGreatDoorPack32
section
set_option linter.unusedVariables false
namespace Go.Proofs.YtinmiekbhoemjaaGreatDoor.Ana
open Go.RowKit Go.Lib FoldP FoldNext AnaP Words Tree Kit Owned

theorem one_any (n : Int) (h : filterB n = true) (s : ByteArray) (w : World) (hs : s.size ≤ 1048576) : Calls Tryz.prog 68 #[.int .i64 n, .string s] w (StrRow (oneF n s) w) := by
  have h0 : 10 ≤ n ∧ n ≤ 15 := by unfold filterB at h; simpa using h
  have h1 : n = 10 ∨ n = 11 ∨ n = 12 ∨ n = 13 ∨ n = 14 ∨ n = 15 := by omega
  rcases h1 with rfl | rfl | rfl | rfl | rfl | rfl
  · exact one_10 s w hs
  · exact one_11 s w hs
  · exact one_12 s w hs
  · exact one_13 s w hs
  · exact one_14 s w hs
  · exact one_15 s w hs
/-- Text q of a row of texts. -/
theorem reads_str {w : World} {B n : Nat} {ao : Option Addr} {xs : List ByteArray} (h : Reads w B 1 ao n (xs.map Value.string)) (hn : n = xs.length) {k : Nat} (hk : k < xs.length) : ∃ ad, ao = some ad ∧ ad.block < B ∧ w.cell? (ad.add k) = some (.string xs[k]) := by
  obtain ⟨ad, e, hb, hc⟩ := h.2 (by omega)
  exact ⟨ad, e, hb, hc k _ (by simp [hk])⟩
theorem take_tok {O : List ByteArray} {q : Nat} (h : q < O.length) (acc : List TokD) (ps fr tl : Int) : acc ++ (O.take (q + 1)).map (fun x => (⟨x, ps, fr, tl⟩ : TokD)) = (acc ++ (O.take q).map (fun x => (⟨x, ps, fr, tl⟩ : TokD))) ++ [⟨O[q], ps, fr, tl⟩] := by
  rw [List.take_succ_eq_append_getElem h, List.map_append, List.append_assoc]; rfl

/-- The row of texts that one has answered, while tokens are appended. -/
def TxtRow (w : World) (B : Nat) (bo : Option Addr) (O : List ByteArray) (o : Value) (wq : World) : Prop :=
  Reads wq B 1 bo O.length (O.map Value.string) ∧ (∀ g bd, o.ownBlock = some g → bo = some bd → g ≠ bd.block) ∧ B ≤ wq.heap.size ∧ Below w.heap.size w wq
theorem TxtRow.alloc {w : World} {B : Nat} {bo : Option Addr} {O : List ByteArray} {o : Value} {wq : World} (h : TxtRow w B bo O o wq) (x : Obj) : TxtRow w B bo O o (wq.alloc x) :=
  ⟨h.1.alloc h.2.2.1 _, h.2.1, by have := h.2.2.1; simp; omega, h.2.2.2.alloc h.2.2.2.size _⟩
theorem TxtRow.set_ {w : World} {B : Nat} {bo : Option Addr} {O : List ByteArray} {o : Value} {wq : World} (h : TxtRow w B bo O o wq) (hw : w.heap.size ≤ B) {g : Nat} (hg : B ≤ g) (u : Value) : TxtRow w B bo O o (wq.setCell ⟨g, 0, none⟩ u) :=
  ⟨h.1.setCell hg u, h.2.1, by have := h.2.2.1; simpa using this, h.2.2.2.setCell (p := ⟨g, 0, none⟩) (Nat.le_trans hw hg) u⟩
theorem TxtRow.grown {w : World} {B : Nat} {bd : Addr} {O : List ByteArray} {o o' : Value} {wq w' : World} (h : TxtRow w B (some bd) O o wq) (hw : w.heap.size ≤ B) (hb : bd.block < B) (hg : wq.grownBy w' o.ownBlock) (hr : ∀ r, o.ownBlock = some r → w.heap.size ≤ r) (ho : o'.ownBlock = o.ownBlock ∨ o'.ownBlock = some wq.heap.size) : TxtRow w B (some bd) O o' w' := by
  obtain ⟨h1, h2, h3, h4⟩ := h
  refine ⟨⟨h1.1, fun hn => ?_⟩, fun g b e1 e2 => ?_, Nat.le_trans h3 hg.size, h4.grown hg (Nat.le_trans hw h3) hr⟩
  · obtain ⟨ad, e, hb1, hc⟩ := h1.2 hn
    refine ⟨ad, e, hb1, fun j u hu => (hg.cell_far _ (by rw [block_of_add]; omega) (fun e2 => ?_)).trans (hc j u hu)⟩
    rw [block_of_add] at e2
    exact h2 _ _ e2.symm e rfl
  · cases e2
    rcases ho with e | e
    · exact h2 g bd (e ▸ e1) rfl
    · rw [e] at e1; cases e1; omega

set_option maxRecDepth 100000 in
set_option maxHeartbeats 4000000 in
theorem refLink_any (n : Int) (h : filterB n = true) (ao : Option Addr) (c : Nat) (toks : List TokD) (w : World) (hk : Reads w w.heap.size 4 ao toks.length (tokCells toks)) (hl : toks.length ≤ 1048576) (ht : ∀ t ∈ toks, t.text.size ≤ 1048576) :
    Calls Tryz.prog 57 #[.int .i64 n, .slice ao toks.length c] w (LinkRet (linkF n toks) w) := by
  obtain ⟨i0, hi, hz0, hz1, hz2⟩ := info_parts infoTok
  have HF := Lib.hid (filter_any n)
  rw [h] at HF
  have HN1 := Lib.hid (one_any n h)
  have HK := Lib.hid hk; have HT2 := Lib.hid ht
  have HI1 := Lib.hid hi; have HI2 := Lib.hid hz0; have HI3 := Lib.hid hz1; have HI4 := Lib.hid hz2
  obtain ⟨R, hR⟩ : ∃ R, linkF n toks = R := ⟨_, rfl⟩
  have HR : Hid (linkGo n (toks.drop 0) [] = R) := Lib.hid hR
  rw [hR]
  clear hk ht hi hz0 hz1 hz2 hR h
  go_enter Tryz.func57, Tryz.ntmps57
  go_wp2_with fail
  refine (HF.out _).mono ?_
  rintro e w' ⟨rfl, rfl⟩
  go_wp2_with fail
  go_loopw [6, 7, 8, 9, 10] (fun o i _ _ _ wr => ∃ (k : Nat) (acc : List TokD), k ≤ toks.length ∧ acc.length ≤ 4096 ∧ i = .int .i64 k ∧ Hid (wr.ownsRow w.heap.size 117 4 o acc.length (tokCells acc)) ∧ Hid (linkGo n (toks.drop k) acc = R) ∧ Hid (Below w.heap.size w wr)) (fun _ i _ _ _ _ => toks.length - (RowKit.intOf i).toNat)
  case atStart => exact ⟨0, [], by omega, by simp, rfl, Lib.hid (World.ownsRow_nil _ _ _ _), HR, Lib.hid (Below.refl _ _)⟩
  case round =>
    obtain ⟨k, acc, hkk, hacc, rfl, HO, HE, HW⟩ := hrel
    have hzr := HW.out.size
    obtain ⟨wo, hwo⟩ : ∃ wo : World, wo = wr := ⟨_, rfl⟩
    by_cases hlt : k < toks.length
    · obtain ⟨ad, rfl, hba, c0, c1, c2, c3⟩ := reads_tok HK.out rfl hlt
      have SF : Hid (∀ W, Below w.heap.size w W → W.cell? (ad.add (k * 4)) = some (.string toks[k].text) ∧ W.cell? ⟨(ad.add (k * 4)).block, (ad.add (k * 4)).off + 1, none⟩ = some (.int .i64 toks[k].pos) ∧ W.cell? ⟨(ad.add (k * 4)).block, (ad.add (k * 4)).off + 2, none⟩ = some (.int .i64 toks[k].frm) ∧ W.cell? ⟨(ad.add (k * 4)).block, (ad.add (k * 4)).off + 3, none⟩ = some (.int .i64 toks[k].til)) := Lib.hid (fun W h => by
        have e : (ad.add (k * 4)).block < w.heap.size := by rw [block_of_add]; exact hba
        exact ⟨(h.cell e).trans c0, (h.cell (p := ⟨(ad.add (k * 4)).block, (ad.add (k * 4)).off + 1, none⟩) e).trans c1, (h.cell (p := ⟨(ad.add (k * 4)).block, (ad.add (k * 4)).off + 2, none⟩) e).trans c2, (h.cell (p := ⟨(ad.add (k * 4)).block, (ad.add (k * 4)).off + 3, none⟩) e).trans c3⟩)
      have hab : (ad.add (k * 4)).block < w.heap.size := by rw [block_of_add]; exact hba
      have htx := HT2.out _ (List.getElem_mem hlt)
      have hol := oneF_len n toks[k].text
      have HS := Lib.hid (linkGo_step (n := n) (acc := acc) hlt)
      clear c0 c1 c2 c3 hwo
      generalize toks[k] = t at *
      obtain ⟨tx, ps, fr, tl⟩ := t
      dsimp only at *
      have HC : Hid (∀ W, Calls Tryz.prog 68 #[.int .i64 n, .string tx] W (StrRow (oneF n tx) W)) := Lib.hid (fun W => HN1.out tx W htx)
      have HS2 : Hid (linkGo n (toks.drop k) acc = if 4096 < (acc ++ (oneF n tx).map (fun x => (⟨x, ps, fr, tl⟩ : TokD))).length then none else linkGo n (toks.drop (k + 1)) (acc ++ (oneF n tx).map (fun x => (⟨x, ps, fr, tl⟩ : TokD)))) := HS
      clear HS
      generalize oneF n tx = O at *
      obtain ⟨c0, _, _, _⟩ := SF.out wr HW.out
      have habr : (ad.add (k * 4)).block < wr.heap.size := by omega
      go_wp2_with fail
      refine (HC.out _).mono ?_
      rintro e w3 ⟨bo, bc, rfl, hrd, b3, hfr⟩
      have HTX : Hid (TxtRow w w3.heap.size bo O u6 w3) := Lib.hid ⟨hrd, fun g bd e1 e2 => by have h1 := (HO.out.lt g e1).2; have h2 := hfr bd e2; omega, Nat.le_refl _, HW.out.trans (b3.mono hzr)⟩
      have HO3 := Lib.hid (own_below HO.out b3)
      have HB3 := Lib.hid (HW.out.trans (b3.mono hzr))
      have hz3 := HB3.out.size
      clear b3 c0 hrd hfr
      go_wp2_with fail
      go_loopw [6, 9, 10] (fun o q _ wq => ∃ qn : Nat, qn ≤ O.length ∧ q = .int .i64 qn ∧ Hid (wq.ownsRow w.heap.size 117 4 o (acc.length + qn) (tokCells (acc ++ (O.take qn).map (fun x => (⟨x, ps, fr, tl⟩ : TokD))))) ∧ Hid (TxtRow w w3.heap.size bo O o wq)) (fun _ q _ _ => O.length - (RowKit.intOf q).toNat)
      case atStart => exact ⟨0, by omega, rfl, Lib.hid (by simpa using HO3.out), HTX⟩
      case round =>
        obtain ⟨qn, hq, rfl, HQ, HV⟩ := hrel
        have hzq := HV.out.2.2.1
        by_cases hlq : qn < O.length
        · obtain ⟨bd, rfl, hbd, hcs⟩ := reads_str HV.out.1 rfl hlq
          obtain ⟨c0, c1, c2, c3⟩ := SF.out wr HV.out.2.2.2
          have habr : (ad.add (k * 4)).block < wr.heap.size := by omega
          go_upto_region 12 with fail
          clear c0 c1 c2 c3 habr
          have hbA : (bd.add qn).block < wr.heap.size := by rw [block_of_add]; omega
          have hnl : w.heap.size ≤ wr.heap.size := by omega
          have HLO : Hid ((acc ++ (O.take qn).map (fun x => (⟨x, ps, fr, tl⟩ : TokD))).length = acc.length + qn) := Lib.hid (by simp; omega)
          have HTK := Lib.hid (take_tok hlq acc ps fr tl)
          have hcr : wr.cell? (bd.add qn) = some (.string O[qn]) := hcs
          clear hcs
          generalize O[qn] = ox at *
          have hcA : (wr.alloc (.cells #[.string tx, .int .i64 ps, .int .i64 fr, .int .i64 tl] 117)).cell? (bd.add qn) = some (.string ox) := (((Below.refl _ wr).alloc (Nat.le_refl _) _).cell hbA).trans hcr
          have BN := Lib.hid (Blk.new wr 117 #[.string tx, .int .i64 ps, .int .i64 fr, .int .i64 tl])
          have HOA := Lib.hid (HQ.out.alloc (.cells #[.string tx, .int .i64 ps, .int .i64 fr, .int .i64 tl] 117))
          have HWA := Lib.hid (HV.out.alloc (.cells #[.string tx, .int .i64 ps, .int .i64 fr, .int .i64 tl] 117))
          have HLT : Hid (∀ g, u6.ownBlock = some g → g < wr.heap.size) := Lib.hid (fun g e => (HQ.out.lt g e).2)
          clear hcr
          generalize wr.alloc (.cells #[.string tx, .int .i64 ps, .int .i64 fr, .int .i64 tl] 117) = WA at *
          have e0 : WA.cell? ⟨wr.heap.size, 0, none⟩ = some (.string tx) := BN.out.cell 0
          have f0 : WA.frozen? ⟨wr.heap.size, 0, none⟩ = false := BN.out.frozen 0
          go_upto_region 13 with fail
          have BN3 : Hid (Blk (WA.setCell ⟨wr.heap.size, 0, none⟩ (.string ox)) wr.heap.size 117 #[.string ox, .int .i64 ps, .int .i64 fr, .int .i64 tl]) := Lib.hid (BN.out.set_ 0 _)
          have HO4 : Hid ((WA.setCell ⟨wr.heap.size, 0, none⟩ (.string ox)).ownsRow w.heap.size 117 4 u6 (acc.length + qn) (tokCells (acc ++ (O.take qn).map (fun x => (⟨x, ps, fr, tl⟩ : TokD))))) :=
            Lib.hid (own_setCell_ne HOA.out (a := ⟨wr.heap.size, 0, none⟩) (fun e => absurd (HLT.out _ e) (Nat.lt_irrefl _)) _)
          have HW4 : Hid (TxtRow w w3.heap.size (some bd) O u6 (WA.setCell ⟨wr.heap.size, 0, none⟩ (.string ox))) := Lib.hid (HWA.out.set_ hz3 hzq _)
          clear e0 f0 BN HOA HWA hcA
          generalize WA.setCell ⟨wr.heap.size, 0, none⟩ (.string ox) = W3 at *
          obtain ⟨c0, c1, c2, c3⟩ := blk4 BN3.out
          have ho := HO4.out
          have hi := HI1.out; have hz0 := HI2.out; have hz1 := HI3.out; have hz2 := HI4.out
          have hz4 := HW4.out.2.2.1
          go_wp2_with (at_builtin; refine wpList_append_own_at _ rfl (.tmp 42) (.tmp 44) 83 rfl w.heap.size 117 i0 (.agg #[.string ⟨#[]⟩, .int .i64 0, .int .i64 0, .int .i64 0]) 4 40 Tryz.underlying83 hi hz0 hz1 hz2 rfl (by decide) _ (acc.length + qn) (tokCells (acc ++ (O.take qn).map (fun x => (⟨x, ps, fr, tl⟩ : TokD)))) rfl (ho.alloc _) ⟨W3.heap.size, 0, none⟩ 1 1 [.string ox, .int .i64 ps, .int .i64 fr, .int .i64 tl] rfl rfl ?d1 ?d2 ?d3 ?d4 ?d5 ?_)
          case d1 => intro q u hu; exact cells_new W3 [.string ox, .int .i64 ps, .int .i64 fr, .int .i64 tl] _ q u hu
          case d2 => intro u hu; exact tok_one (ts := [⟨ox, ps, fr, tl⟩]) hu
          case d3 => unfold maxLen; omega
          case d4 => omega
          case d5 => simp; omega
          intro v' w4 ho4 hg4 _ hv4
          have hb4 : TxtRow w w3.heap.size (some bd) O v' w4 := (HW4.out.alloc _).grown hz3 hbd hg4 (fun r e => (ho.lt r e).1) (by simpa using hv4)
          have HO5 : Hid (w4.ownsRow w.heap.size 117 4 v' (acc.length + (qn + 1)) (tokCells (acc ++ (O.take (qn + 1)).map (fun x => (⟨x, ps, fr, tl⟩ : TokD))))) := Lib.hid (by rw [HTK.out, tokCells_append, List.map_take]; exact ho4)
          have HB5 := Lib.hid hb4
          clear ho ho4 hg4 hb4 hv4 c0 c1 c2 c3 hi hz0 hz1 hz2
          go_wp2_with fail
          go_roundw
          case rel => exact ⟨qn + 1, by omega, by go_num, HO5, HB5⟩
          case measure => simp [RowKit.intOf]; omega
        · obtain rfl : qn = O.length := by omega
          have HQ2 : Hid (wr.ownsRow w.heap.size 117 4 u6 (acc ++ O.map (fun x => (⟨x, ps, fr, tl⟩ : TokD))).length (tokCells (acc ++ O.map (fun x => (⟨x, ps, fr, tl⟩ : TokD))))) := Lib.hid (by
            have h9 := HQ.out
            rw [List.take_of_length_le (Nat.le_refl _)] at h9
            rw [List.length_append, List.length_map]
            exact h9)
          have HLN : Hid ((acc ++ O.map (fun x => (⟨x, ps, fr, tl⟩ : TokD))).length = acc.length + O.length) := Lib.hid (by simp)
          have hll := HLN.out
          have HB9 := Lib.hid HV.out.2.2.2
          obtain ⟨ao4, c4, rfl, _⟩ := reads_slice HQ2.out
          clear HQ HV HTX HO3
          generalize hA : acc ++ O.map (fun x => (⟨x, ps, fr, tl⟩ : TokD)) = A2 at *
          clear hA HLN
          by_cases hbig : 4096 < A2.length
          · have HN : Hid (R = none) := Lib.hid (by rw [← HE.out, HS2.out, if_pos hbig])
            clear hll
            go_wp2_with fail
            go_ret2
            exact .inl ⟨HN.out, rfl, HB9.out⟩
          · have HN : Hid (linkGo n (toks.drop (k + 1)) A2 = R) := Lib.hid (by rw [← HE.out, HS2.out, if_neg hbig])
            clear hll
            go_wp2_with fail
            go_roundw
            case rel => exact ⟨k + 1, A2, by omega, by omega, by go_num, HQ2, HN, HB9⟩
            case measure => simp [RowKit.intOf]; omega
    · obtain rfl : k = toks.length := by omega
      have HN : Hid (R = some acc) := Lib.hid (by rw [← HE.out, linkGo_end])
      obtain ⟨ao4, c4, rfl, _⟩ := reads_slice HO.out
      clear hwo
      go_wp2_with fail
      go_ret2
      exact .inr ⟨acc, ao4, c4, HN.out, rfl, HO.out, HW.out⟩
end Go.Proofs.YtinmiekbhoemjaaGreatDoor.Ana
end
section
set_option linter.unusedVariables false
namespace Go.Proofs.YtinmiekbhoemjaaGreatDoor.Ana
open Go.RowKit Go.Lib FoldP FoldInts Kit FoldForms FoldNext AnaP Words Owned Tree

/-- Tokens of the call's own and a number are answered. -/
def RunRet (r : List TokD × Int) (w : World) (e : Ending) (w' : World) : Prop :=
  ∃ ao c, e = .returned (.tuple #[.slice ao r.1.length c, .int .i64 r.2]) ∧ w'.ownsRow w.heap.size 117 4 (.slice ao r.1.length c) r.1.length (tokCells r.1) ∧ Below w.heap.size w w'
theorem runRet_none {k : Int} {w w' : World} {e : Ending} (h : e = .returned (.tuple #[.slice none 0 0, .int .i64 k])) (hb : Below w.heap.size w w') : RunRet ([], k) w e w' := ⟨none, 0, h, World.ownsRow_nil _ _ _ _, hb⟩
theorem toks_any (n : Int) (h1 : 1 ≤ n) (h4 : n ≤ 4) (s : ByteArray) (w : World) (hs : s.size ≤ 4096) (hT : Tabs w) : Calls Tryz.prog 75 #[.int .i64 n, .string s] w (OwnToks (tokensF n s) w) := by
  rcases (show n = 1 ∨ n = 2 ∨ n = 3 ∨ n = 4 by omega) with rfl | rfl | rfl | rfl
  · exact toks_1 s w (by omega) hT
  · exact toks_2 s w (by omega) hT
  · exact toks_3 s w (by omega) hT
  · exact toks_4 s w (by omega) hT
theorem check_filters {l : List Int} (h : checkB l = true) : 1 ≤ l.length ∧ l.length ≤ 8 ∧ 1 ≤ l.getD 0 0 ∧ l.getD 0 0 ≤ 4 ∧ ∀ n ∈ l.tail, filterB n = true := by
  cases l with
  | nil => cases h
  | cons a t =>
    simp only [checkB, Bool.and_eq_true, decide_eq_true_eq] at h
    obtain ⟨⟨⟨h1, h2⟩, h3⟩, h4⟩ := h
    refine ⟨by simp, by simp only [List.length_cons]; omega, h2, h3, fun n hn => ?_⟩
    obtain ⟨i, hi, rfl⟩ := List.mem_iff_getElem.1 hn
    have h5 := (checkGo_iff t []).1 h4 i hi
    have hi' : i < t.length := hi
    have e : t.getD i 0 = t[i] := by rw [List.getD_eq_getElem?_getD, List.getElem?_eq_getElem hi']; rfl
    rw [e] at h5
    exact h5.1
theorem linkAll_step {T : List Int} {k : Nat} (h : k < T.length) (t : List TokD) : linkAll (T.drop k) t = (match linkF T[k] t with
    | none => ([], 84)
    | some t' => linkAll (T.drop (k + 1)) t') := by
  rw [List.drop_eq_getElem_cons h]; rfl

set_option maxRecDepth 100000 in
set_option maxHeartbeats 1000000 in
theorem run_bad (ao : Option Addr) (n c : Nat) (l : List Int) (s : ByteArray) (w : World) (hn : n = l.length) (hk : Reads w w.heap.size 1 ao n (intCells l)) (hc : n ≤ c) (hm : c ≤ maxLen) (h : checkB l = false) :
    Calls Tryz.prog 63 #[.slice ao n c, .string s] w (RunRet (runF l s) w) := by
  have HC := Lib.hid (check_any ao n c l w hn hk hc hm)
  rw [h] at HC
  have HR : Hid (runF l s = ([], 60)) := Lib.hid (by unfold runF; rw [if_pos h])
  rw [HR.out]
  clear hk hn h
  go_enter Tryz.func63, Tryz.ntmps63
  go_wp2_with fail
  refine HC.out.mono ?_
  rintro e w1 ⟨rfl, b1⟩
  have HB := Lib.hid b1; clear b1
  go_wp2_with fail
  go_ret2
  exact runRet_none rfl HB.out
set_option maxRecDepth 100000 in
set_option maxHeartbeats 1000000 in
theorem run_long (ao : Option Addr) (n c : Nat) (l : List Int) (s : ByteArray) (w : World) (hn : n = l.length) (hk : Reads w w.heap.size 1 ao n (intCells l)) (hc : n ≤ c) (hm : c ≤ maxLen) (h : checkB l = true) (hs : 4096 < s.size) (hs2 : s.size ≤ 9223372036854775807) :
    Calls Tryz.prog 63 #[.slice ao n c, .string s] w (RunRet (runF l s) w) := by
  have HC := Lib.hid (check_any ao n c l w hn hk hc hm)
  rw [h] at HC
  have HR : Hid (runF l s = ([], 3)) := Lib.hid (by unfold runF; rw [h, if_neg (by decide), if_pos hs])
  have h1 : decide ((4096 : Int) < s.size) = true := by rw [decide_eq_true_iff]; omega
  rw [HR.out]
  clear hk hn h
  go_enter Tryz.func63, Tryz.ntmps63
  go_wp2_with fail
  refine HC.out.mono ?_
  rintro e w1 ⟨rfl, b1⟩
  have HB := Lib.hid b1; clear b1
  go_wp2_with fail
  go_ret2
  exact runRet_none rfl HB.out
set_option maxRecDepth 100000 in
set_option maxHeartbeats 2000000 in
theorem run_go (ad : Addr) (c : Nat) (a : Int) (T : List Int) (s : ByteArray) (w : World) (hk : Reads w w.heap.size 1 (some ad) (T.length + 1) (intCells (a :: T))) (hc : T.length + 1 ≤ c) (hm : c ≤ maxLen) (h : checkB (a :: T) = true) (hs : s.size ≤ 4096) (hT : Tabs w) :
    Calls Tryz.prog 63 #[.slice (some ad) (T.length + 1) c, .string s] w (RunRet (runF (a :: T) s) w) := by
  have HC := Lib.hid (check_any (some ad) (T.length + 1) c (a :: T) w rfl hk hc hm)
  obtain ⟨_, h8, ha1, ha4, hf⟩ := check_filters h
  simp only [List.getD_cons_zero, List.length_cons, List.tail_cons] at ha1 ha4 hf h8
  rw [h] at HC
  have HF := Lib.hid hf
  have hl := tokensF_len a s
  obtain ⟨R, hR⟩ : ∃ R, runF (a :: T) s = R := ⟨_, rfl⟩
  have HR : Hid (linkAll (T.drop 0) (tokensF a s) = R) := Lib.hid (by rw [← hR]; unfold runF; rw [h, if_neg (by decide), if_neg (by omega), if_neg (by simp only [List.getD_cons_zero]; omega)]; rfl)
  rw [hR]
  have HTS : Hid (∀ t ∈ tokensF a s, t.text.size ≤ 4096) := Lib.hid (fun t ht => by have := tokensF_size a s t ht; omega)
  have HTK := Lib.hid (fun W hW => toks_any a ha1 ha4 s W hs (hT.next hW))
  have HT := Lib.hid hT
  obtain ⟨ad', e, hba, hcell⟩ := hk.2 (by omega)
  cases e
  have h0 : w.cell? ad = some (.int .i64 a) := hcell 0 _ rfl
  have HCE : Hid (∀ (j : Nat) (v : Int), T[j]? = some v → w.cell? (ad.add (1 + j)) = some (.int .i64 v)) := Lib.hid (fun j v hj => hcell (1 + j) _ (by rw [Nat.add_comm]; simp [intCells, hj]))
  have H0 := Lib.hid h0
  have h40 : decide ((4096 : Int) < s.size) = false := by rw [decide_eq_false_iff_not]; omega
  have h41 : ¬ 4096 < s.size := by omega
  unfold maxLen at hm
  clear hk h hT hR hf hcell h0
  generalize tokensF a s = ts0 at *
  have h50 : ¬ 4096 < ts0.length := by omega
  have h51 : decide ((4096 : Int) < ts0.length) = false := by rw [decide_eq_false_iff_not]; omega
  obtain ⟨n, hn⟩ : ∃ n, n = T.length + 1 := ⟨_, rfl⟩
  rw [← hn] at HC hc ⊢
  have hn1 : n ≤ T.length + 1 := by omega
  have hn2 : T.length + 1 ≤ n := by omega
  clear hn
  by_cases hc1 : c = 1
  · subst hc1
    have hT0 : T.length = 0 := by omega
    obtain rfl := List.eq_nil_of_length_eq_zero hT0
    obtain rfl : n = 1 := by simp at hn2; omega
    have HRE : Hid (R = (ts0, 0)) := Lib.hid (by rw [← HR.out]; rfl)
    clear hT0 HR
    go_enter Tryz.func63, Tryz.ntmps63
    go_wp2_with fail
    refine HC.out.mono ?_
    rintro e w1 ⟨rfl, b1⟩
    have hc0 : w1.cell? ad = some (.int .i64 a) := (b1.cell hba).trans H0.out
    have HB1 := Lib.hid b1; clear b1
    go_wp2_with fail
    refine (HTK.out _ HB1.out).mono ?_
    rintro e w2 ⟨v, rfl, o2, b2⟩
    obtain ⟨aot, ct, rfl⟩ := own_slice2 o2
    have HO2 := Lib.hid (own_base o2 HB1.out.size)
    have HB2 := Lib.hid (HB1.out.trans (b2.mono HB1.out.size))
    clear o2 b2 hc0
    go_wp2_with fail
    go_loopw [7, 9, 10, 11, 31] (fun o _ _ _ i wq => o = .slice aot ts0.length ct ∧ i = .int .i64 0 ∧ wq = w2) (fun _ _ _ _ _ _ => 0)
    case atStart => exact ⟨rfl, rfl, rfl⟩
    case round =>
      obtain ⟨rfl, rfl, rfl⟩ := hrel
      go_wp2_with fail
      go_ret2
      rw [HRE.out]
      exact ⟨aot, ct, rfl, HO2.out, HB2.out⟩
  · have a5 : (c == 1) = false := by rw [beq_eq_false_iff_ne]; exact hc1
    go_enter Tryz.func63, Tryz.ntmps63
    go_wp2_with fail
    refine HC.out.mono ?_
    rintro e w1 ⟨rfl, b1⟩
    have hc0 : w1.cell? ad = some (.int .i64 a) := (b1.cell hba).trans H0.out
    have HB1 := Lib.hid b1; clear b1
    go_wp2_with fail
    refine (HTK.out _ HB1.out).mono ?_
    rintro e w2 ⟨v, rfl, o2, b2⟩
    obtain ⟨aot, ct, rfl⟩ := own_slice2 o2
    have HO2 := Lib.hid (own_base o2 HB1.out.size)
    have HB2 := Lib.hid (HB1.out.trans (b2.mono HB1.out.size))
    clear o2 b2 hc0
    go_wp2_with fail
    go_loopw [7, 9, 10, 11, 31] (fun o _ _ _ i wq => ∃ (k : Nat) (ts : List TokD) (ao : Option Addr) (co : Nat), k ≤ T.length ∧ ts.length ≤ 4096 ∧ i = .int .i64 k ∧ o = .slice ao ts.length co ∧ Hid (wq.ownsRow w.heap.size 117 4 (.slice ao ts.length co) ts.length (tokCells ts)) ∧ Hid (linkAll (T.drop k) ts = R) ∧ Hid (∀ t ∈ ts, t.text.size ≤ 4096) ∧ Hid (Below w.heap.size w wq)) (fun _ _ _ _ i _ => T.length - (RowKit.intOf i).toNat)
    case atStart => exact ⟨0, ts0, aot, ct, by omega, by omega, rfl, rfl, HO2, HR, HTS, HB2⟩
    case round =>
      obtain ⟨k, ts, ao, co, hk, htl, rfl, rfl, HO, HE, HX, HW⟩ := hrel
      have hzr := HW.out.size
      by_cases hlt : k < T.length
      · have hcw : wr.cell? (ad.add (1 + k)) = some (.int .i64 T[k]) := (HW.out.cell (by rw [block_of_add]; exact hba)).trans (HCE.out k T[k] (List.getElem?_eq_getElem hlt))
        have hcw2 : wr.cell? ⟨ad.block, ad.off + 1 + k, none⟩ = some (.int .i64 T[k]) := by rw [add_pos _ (by omega), ← Nat.add_assoc] at hcw; exact hcw
        have HST := Lib.hid (linkAll_step hlt ts)
        have hfk := HF.out T[k] (List.getElem_mem hlt)
        clear hcw
        generalize T[k] = x at *
        have HL := Lib.hid (fun W (hW : Below w.heap.size w W) hr => link_any x hfk ao co ts W hr (by omega) (fun t ht => by have := HX.out t ht; omega) (HT.out.next hW))
        have HRD := Lib.hid (Reads.of_own HO.out)
        have HX2 : Hid (∀ ts', linkF x ts = some ts' → ∀ t ∈ ts', t.text.size ≤ 4096) := Lib.hid (fun ts' e => link_all (p := fun t => t.text.size ≤ 4096) (fun t y h1 h2 => by have := one_size x t.text y h2; exact Nat.le_trans this h1) HX.out e)
        have HX3 : Hid (∀ ts', linkF x ts = some ts' → ts'.length ≤ 4096) := Lib.hid (fun ts' e => linkF_len4 e)
        clear hfk
        generalize linkF x ts = LR at *
        go_wp2_with fail
        refine (HL.out wr HW.out HRD.out).mono ?_
        rintro e w3 (⟨rfl, rfl, b3⟩ | ⟨ts', ao', co', rfl, rfl, o3, b3⟩)
        · have HN : Hid (R = ([], 84)) := Lib.hid (by rw [← HE.out, HST.out])
          have HB3 := Lib.hid (HW.out.trans (b3.mono hzr))
          clear b3 hcw2
          go_wp2_with fail
          go_ret2
          rw [HN.out]
          exact runRet_none rfl HB3.out
        · have HN : Hid (linkAll (T.drop (k + 1)) ts' = R) := Lib.hid (by rw [← HE.out, HST.out])
          have HB3 := Lib.hid (HW.out.trans (b3.mono hzr))
          have HO3 := Lib.hid (own_base o3 hzr)
          have htl2 := HX3.out ts' rfl
          have HX4 := Lib.hid (HX2.out ts' rfl)
          clear b3 hcw2 o3
          go_wp2_with fail
          go_roundw
          case rel => exact ⟨k + 1, ts', ao', co', by omega, htl2, by go_num, rfl, HO3, HN, HX4, HB3⟩
          case measure => simp [RowKit.intOf]; omega
      · obtain rfl : k = T.length := by omega
        have HN : Hid (R = (ts, 0)) := Lib.hid (by rw [← HE.out, List.drop_length]; rfl)
        have hlt2 : ¬ (T.length < n - 1) := by omega
        go_wp2_with fail
        go_ret2
        rw [HN.out]
        exact ⟨ao, co, rfl, HO.out, HW.out⟩
/-- A WHOLE RUN. -/
theorem run_any (ao : Option Addr) (n c : Nat) (l : List Int) (s : ByteArray) (w : World) (hn : n = l.length) (hk : Reads w w.heap.size 1 ao n (intCells l)) (hc : n ≤ c) (hm : c ≤ maxLen) (hs : s.size ≤ 9223372036854775807) (hT : Tabs w) :
    Calls Tryz.prog 63 #[.slice ao n c, .string s] w (RunRet (runF l s) w) := by
  cases h : checkB l with
  | false => exact run_bad ao n c l s w hn hk hc hm h
  | true =>
    by_cases h4 : s.size ≤ 4096
    · have h1 := (check_filters h).1
      subst hn
      match l, h1 with
      | a :: T, _ =>
        obtain ⟨ad, rfl, _, _⟩ := hk.2 (by simp)
        exact run_go ad c a T s w hk hc hm h h4 hT
    · exact run_long ao n c l s w hn hk hc hm h (by omega) hs
end Go.Proofs.YtinmiekbhoemjaaGreatDoor.Ana
end
