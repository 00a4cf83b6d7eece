/- Contracts: a filter found, tokens through a filter: analysis.find, analysis.Link. -/
import Derived.Test.YtinmiekbhoemjaaGreatDoorPack24
set_option linter.unusedVariables false
namespace Go.Proofs.YtinmiekbhoemjaaGreatDoor.Ana
open Go.RowKit Go.Lib FoldP FoldNext AnaP Words Tree Kit Owned

/-- What Link answers. -/
def LinkRet (R : Option (List TokD)) (w : World) (e : Ending) (w' : World) : Prop :=
  (R = none ∧ e = .returned (.tuple #[.slice none 0 0, .int .i64 84]) ∧ Below w.heap.size w w') ∨ (∃ ts ao c, R = some ts ∧ e = .returned (.tuple #[.slice ao ts.length c, .int .i64 0]) ∧ w'.ownsRow w.heap.size 117 4 (.slice ao ts.length c) ts.length (tokCells ts) ∧ Below w.heap.size w w')
theorem linkGo_step {n : Int} {l acc : List TokD} {k : Nat} (h : k < l.length) : linkGo n (l.drop k) acc = if 4096 < (acc ++ oneT n l[k]).length then none else linkGo n (l.drop (k + 1)) (acc ++ oneT n l[k]) := by
  rw [List.drop_eq_getElem_cons h]; rfl
theorem linkGo_end {n : Int} {l acc : List TokD} : linkGo n (l.drop l.length) acc = some acc := by rw [List.drop_length]; rfl
theorem oneT_len (n : Int) (t : TokD) : (oneT n t).length ≤ t.text.size + 1 := by
  unfold oneT; rw [List.length_map]; exact oneF_len n t.text
theorem own_base {w : World} {B B' : Nat} {e : TypeId} {m : Nat} {v : Value} {n : Nat} {xs : List Value} (h : w.ownsRow B e m v n xs) (hB : B' ≤ B) : w.ownsRow B' e m v n xs := by
  refine ⟨h.1, h.2.elim .inl fun ⟨g, cap, cur, hv, hb, hr⟩ => .inr ⟨g, cap, cur, hv, Nat.le_trans hB hb, hr⟩⟩
theorem reads_slice {w : World} {B : Nat} {v : Value} {ts : List TokD} (h : w.ownsRow B 117 4 v ts.length (tokCells ts)) : ∃ ao c, v = .slice ao ts.length c ∧ Reads w w.heap.size 4 ao ts.length (tokCells ts) := by
  obtain ⟨ao, c, rfl⟩ : ∃ ao c, v = .slice ao ts.length c := by
    rcases h.2 with ⟨rfl, h0⟩ | ⟨g', cap', cur, rfl, _⟩
    · exact ⟨none, 0, by rw [h0]⟩
    · exact ⟨_, _, rfl⟩
  exact ⟨ao, c, rfl, Reads.of_own h⟩
set_option maxRecDepth 100000 in
set_option maxHeartbeats 1000000 in
theorem link_10 (ao : Option Addr) (c : Nat) (toks : List TokD) (w : World) (hk : Reads w w.heap.size 4 ao toks.length (tokCells toks)) (hl : toks.length ≤ 1048576) (ht : ∀ t ∈ toks, t.text.size ≤ 1048576) (hT : Tabs w) :
    Calls Tryz.prog 76 #[.int .i64 10, .slice ao toks.length c] w (LinkRet (linkF 10 toks) w) := by
  obtain ⟨i0, hi, hz0, hz1, hz2⟩ := info_parts infoTok
  have HF : Hid (∀ (t : TokD) (W : World), t.text.size ≤ 1048576 → Below w.heap.size w W → Calls Tryz.prog 69 #[.agg #[.string t.text, .int .i64 t.pos, .int .i64 t.frm, .int .i64 t.til]] W (TokRow (oneT 10 t) W)) := Lib.hid (fun t W ht hW => lowerT_any t W (by omega) (hT.next hW))
  have HK := Lib.hid hk; have HT2 := Lib.hid ht
  have HI1 := Lib.hid hi; have HI2 := Lib.hid hz0; have HI3 := Lib.hid hz1; have HI4 := Lib.hid hz2
  obtain ⟨R, hR⟩ : ∃ R, linkF 10 toks = R := ⟨_, rfl⟩
  have HR : Hid (linkGo 10 (toks.drop 0) [] = R) := Lib.hid hR
  rw [hR]
  clear hk ht hT hi hz0 hz1 hz2 hR
  have hq := eql_fnF
  go_enter Tryz.func76, Tryz.ntmps76
  go_wp2_with fail
  refine (find_10 _).mono ?_
  rintro e w' ⟨rfl, rfl⟩
  go_wp2_with fail
  have HW0 : Hid (Below w.heap.size w w) := Lib.hid (Below.refl _ _)
  have HK0 := Lib.hid ((HK.out.below HW0.out).more HW0.out.size)
  clear hq
  go_loopw [7, 9, 16] (fun o _ i wr => ∃ (k : Nat) (acc : List TokD), k ≤ toks.length ∧ acc.length ≤ 4096 ∧ i = .int .i64 k ∧ Hid (wr.ownsRow w.heap.size 117 4 o acc.length (tokCells acc)) ∧ Hid (linkGo 10 (toks.drop k) acc = R) ∧ Hid (Below w.heap.size w wr)) (fun _ _ i _ => toks.length - (RowKit.intOf i).toNat)
  case atStart => exact ⟨0, [], by omega, by simp, rfl, Lib.hid (World.ownsRow_nil _ _ _ _), HR, Lib.hid (Below.refl _ _)⟩
  case round =>
    obtain ⟨k, acc, hkk, hacc, rfl, HO, HE, HW⟩ := hrel
    have hzr := HW.out.size
    by_cases hlt : k < toks.length
    · obtain ⟨ad, rfl, hba, c0, c1, c2, c3⟩ := reads_tok HK0.out rfl hlt
      rw [← HW.out.cell (by rw [block_of_add]; exact hba)] at c0
      rw [← HW.out.cell (by show (ad.add (k * 4)).block < _; rw [block_of_add]; exact hba)] at c1 c2 c3
      have hab : (ad.add (k * 4)).block < wr.heap.size := by rw [block_of_add]; omega
      have htx := HT2.out _ (List.getElem_mem hlt)
      have hol := oneT_len 10 toks[k]
      have HS := Lib.hid (linkGo_step (n := 10) (acc := acc) hlt)
      have HC := Lib.hid (fun W hW => HF.out toks[k] W htx hW)
      generalize toks[k] = t at *
      obtain ⟨tx, ps, fr, tl⟩ := t
      dsimp only at *
      obtain ⟨O, hO⟩ : ∃ O, oneT 10 ⟨tx, ps, fr, tl⟩ = O := ⟨_, rfl⟩
      rw [hO] at HS HC hol
      clear hO
      go_wp2_with fail
      refine (HC.out _ (HW.out.alloc hzr _)).mono ?_
      rintro e w3 ⟨bo, bc, rfl, hrd, b3⟩
      have ho3 := own_below (HO.out.alloc (.cells #[.string tx, .int .i64 ps, .int .i64 fr, .int .i64 tl] 117)) b3
      have HB3 := Lib.hid ((HW.out.alloc hzr (.cells #[.string tx, .int .i64 ps, .int .i64 fr, .int .i64 tl] 117)).trans (b3.mono (by simp; omega)))
      have hz3 := HB3.out.size
      have hi := HI1.out; have hz0 := HI2.out; have hz1 := HI3.out; have hz2 := HI4.out
      clear b3 c0 c1 c2 c3
      go_wp2_with (at_builtin; refine wpList_append_any _ rfl (.tmp 20) (.tmp 23) 83 rfl w.heap.size 117 i0 (.agg #[.string ⟨#[]⟩, .int .i64 0, .int .i64 0, .int .i64 0]) 4 40 Tryz.underlying83 hi hz0 hz1 hz2 rfl (by decide) _ acc.length (tokCells acc) rfl ho3 w3.heap.size bo O.length bc (tokCells O) rfl hrd ?d1 ?d2 ?d3 ?d4 ?_)
      case d1 => intro u hu; exact tok_one hu
      case d2 => unfold maxLen; omega
      case d3 => omega
      case d4 => exact hz3
      intro v' w4 ho4 hg4 _
      have hb4 : Below w.heap.size w w4 := HB3.out.grown hg4 hz3 (fun r e => (ho3.lt r e).1)
      have HO4 : Hid (w4.ownsRow w.heap.size 117 4 v' (acc ++ O).length (tokCells (acc ++ O))) := Lib.hid (by rw [tokCells_append, List.length_append]; exact ho4)
      have HB4 := Lib.hid hb4
      have HLN : Hid ((acc ++ O).length = acc.length + O.length) := Lib.hid List.length_append
      obtain ⟨ao4, c4, rfl, _⟩ := reads_slice HO4.out
      have hll := HLN.out
      clear ho3 ho4 hg4 hb4 hrd hi hz0 hz1 hz2 hol
      generalize hA : acc ++ O = A2 at *
      clear hA hll HLN
      by_cases hbig : 4096 < A2.length
      · have HN : Hid (R = none) := Lib.hid (by rw [← HE.out, HS.out, if_pos hbig])
        go_wp2_with fail
        go_ret2
        exact .inl ⟨HN.out, rfl, HW0.out.trans (HB4.out.mono HW0.out.size)⟩
      · have HN : Hid (linkGo 10 (toks.drop (k + 1)) A2 = R) := Lib.hid (by rw [← HE.out, HS.out, if_neg hbig])
        go_wp2_with fail
        go_roundw
        case rel => exact ⟨k + 1, A2, by omega, by omega, by go_num, HO4, HN, HB4⟩
        case measure => simp [RowKit.intOf]; omega
    · obtain rfl : k = toks.length := by omega
      have HN : Hid (R = some acc) := Lib.hid (by rw [← HE.out, linkGo_end])
      obtain ⟨ao4, c4, rfl, _⟩ := reads_slice HO.out
      go_wp2_with fail
      go_ret2
      exact .inr ⟨acc, ao4, c4, HN.out, rfl, own_base HO.out HW0.out.size, HW0.out.trans (HW.out.mono HW0.out.size)⟩

set_option maxRecDepth 100000 in
set_option maxHeartbeats 1000000 in
theorem link_11 (ao : Option Addr) (c : Nat) (toks : List TokD) (w : World) (hk : Reads w w.heap.size 4 ao toks.length (tokCells toks)) (hl : toks.length ≤ 1048576) (ht : ∀ t ∈ toks, t.text.size ≤ 1048576) (hT : Tabs w) :
    Calls Tryz.prog 76 #[.int .i64 11, .slice ao toks.length c] w (LinkRet (linkF 11 toks) w) := by
  obtain ⟨i0, hi, hz0, hz1, hz2⟩ := info_parts infoTok
  have HF : Hid (∀ (t : TokD) (W : World), t.text.size ≤ 1048576 → Below w.heap.size w W → Calls Tryz.prog 70 #[.agg #[.string t.text, .int .i64 t.pos, .int .i64 t.frm, .int .i64 t.til]] W (TokRow (oneT 11 t) W)) := Lib.hid (fun t W ht hW => stopT_any t W)
  have HK := Lib.hid hk; have HT2 := Lib.hid ht
  have HI1 := Lib.hid hi; have HI2 := Lib.hid hz0; have HI3 := Lib.hid hz1; have HI4 := Lib.hid hz2
  obtain ⟨R, hR⟩ : ∃ R, linkF 11 toks = R := ⟨_, rfl⟩
  have HR : Hid (linkGo 11 (toks.drop 0) [] = R) := Lib.hid hR
  rw [hR]
  clear hk ht hT hi hz0 hz1 hz2 hR
  have hq := eql_fnF
  go_enter Tryz.func76, Tryz.ntmps76
  go_wp2_with fail
  refine (find_11 _).mono ?_
  rintro e w' ⟨rfl, rfl⟩
  go_wp2_with fail
  have HW0 : Hid (Below w.heap.size w w) := Lib.hid (Below.refl _ _)
  have HK0 := Lib.hid ((HK.out.below HW0.out).more HW0.out.size)
  clear hq
  go_loopw [7, 9, 16] (fun o _ i wr => ∃ (k : Nat) (acc : List TokD), k ≤ toks.length ∧ acc.length ≤ 4096 ∧ i = .int .i64 k ∧ Hid (wr.ownsRow w.heap.size 117 4 o acc.length (tokCells acc)) ∧ Hid (linkGo 11 (toks.drop k) acc = R) ∧ Hid (Below w.heap.size w wr)) (fun _ _ i _ => toks.length - (RowKit.intOf i).toNat)
  case atStart => exact ⟨0, [], by omega, by simp, rfl, Lib.hid (World.ownsRow_nil _ _ _ _), HR, Lib.hid (Below.refl _ _)⟩
  case round =>
    obtain ⟨k, acc, hkk, hacc, rfl, HO, HE, HW⟩ := hrel
    have hzr := HW.out.size
    by_cases hlt : k < toks.length
    · obtain ⟨ad, rfl, hba, c0, c1, c2, c3⟩ := reads_tok HK0.out rfl hlt
      rw [← HW.out.cell (by rw [block_of_add]; exact hba)] at c0
      rw [← HW.out.cell (by show (ad.add (k * 4)).block < _; rw [block_of_add]; exact hba)] at c1 c2 c3
      have hab : (ad.add (k * 4)).block < wr.heap.size := by rw [block_of_add]; omega
      have htx := HT2.out _ (List.getElem_mem hlt)
      have hol := oneT_len 11 toks[k]
      have HS := Lib.hid (linkGo_step (n := 11) (acc := acc) hlt)
      have HC := Lib.hid (fun W hW => HF.out toks[k] W htx hW)
      generalize toks[k] = t at *
      obtain ⟨tx, ps, fr, tl⟩ := t
      dsimp only at *
      obtain ⟨O, hO⟩ : ∃ O, oneT 11 ⟨tx, ps, fr, tl⟩ = O := ⟨_, rfl⟩
      rw [hO] at HS HC hol
      clear hO
      go_wp2_with fail
      refine (HC.out _ (HW.out.alloc hzr _)).mono ?_
      rintro e w3 ⟨bo, bc, rfl, hrd, b3⟩
      have ho3 := own_below (HO.out.alloc (.cells #[.string tx, .int .i64 ps, .int .i64 fr, .int .i64 tl] 117)) b3
      have HB3 := Lib.hid ((HW.out.alloc hzr (.cells #[.string tx, .int .i64 ps, .int .i64 fr, .int .i64 tl] 117)).trans (b3.mono (by simp; omega)))
      have hz3 := HB3.out.size
      have hi := HI1.out; have hz0 := HI2.out; have hz1 := HI3.out; have hz2 := HI4.out
      clear b3 c0 c1 c2 c3
      go_wp2_with (at_builtin; refine wpList_append_any _ rfl (.tmp 20) (.tmp 23) 83 rfl w.heap.size 117 i0 (.agg #[.string ⟨#[]⟩, .int .i64 0, .int .i64 0, .int .i64 0]) 4 40 Tryz.underlying83 hi hz0 hz1 hz2 rfl (by decide) _ acc.length (tokCells acc) rfl ho3 w3.heap.size bo O.length bc (tokCells O) rfl hrd ?d1 ?d2 ?d3 ?d4 ?_)
      case d1 => intro u hu; exact tok_one hu
      case d2 => unfold maxLen; omega
      case d3 => omega
      case d4 => exact hz3
      intro v' w4 ho4 hg4 _
      have hb4 : Below w.heap.size w w4 := HB3.out.grown hg4 hz3 (fun r e => (ho3.lt r e).1)
      have HO4 : Hid (w4.ownsRow w.heap.size 117 4 v' (acc ++ O).length (tokCells (acc ++ O))) := Lib.hid (by rw [tokCells_append, List.length_append]; exact ho4)
      have HB4 := Lib.hid hb4
      have HLN : Hid ((acc ++ O).length = acc.length + O.length) := Lib.hid List.length_append
      obtain ⟨ao4, c4, rfl, _⟩ := reads_slice HO4.out
      have hll := HLN.out
      clear ho3 ho4 hg4 hb4 hrd hi hz0 hz1 hz2 hol
      generalize hA : acc ++ O = A2 at *
      clear hA hll HLN
      by_cases hbig : 4096 < A2.length
      · have HN : Hid (R = none) := Lib.hid (by rw [← HE.out, HS.out, if_pos hbig])
        go_wp2_with fail
        go_ret2
        exact .inl ⟨HN.out, rfl, HW0.out.trans (HB4.out.mono HW0.out.size)⟩
      · have HN : Hid (linkGo 11 (toks.drop (k + 1)) A2 = R) := Lib.hid (by rw [← HE.out, HS.out, if_neg hbig])
        go_wp2_with fail
        go_roundw
        case rel => exact ⟨k + 1, A2, by omega, by omega, by go_num, HO4, HN, HB4⟩
        case measure => simp [RowKit.intOf]; omega
    · obtain rfl : k = toks.length := by omega
      have HN : Hid (R = some acc) := Lib.hid (by rw [← HE.out, linkGo_end])
      obtain ⟨ao4, c4, rfl, _⟩ := reads_slice HO.out
      go_wp2_with fail
      go_ret2
      exact .inr ⟨acc, ao4, c4, HN.out, rfl, own_base HO.out HW0.out.size, HW0.out.trans (HW.out.mono HW0.out.size)⟩

set_option maxRecDepth 100000 in
set_option maxHeartbeats 1000000 in
theorem link_12 (ao : Option Addr) (c : Nat) (toks : List TokD) (w : World) (hk : Reads w w.heap.size 4 ao toks.length (tokCells toks)) (hl : toks.length ≤ 1048576) (ht : ∀ t ∈ toks, t.text.size ≤ 1048576) (hT : Tabs w) :
    Calls Tryz.prog 76 #[.int .i64 12, .slice ao toks.length c] w (LinkRet (linkF 12 toks) w) := by
  obtain ⟨i0, hi, hz0, hz1, hz2⟩ := info_parts infoTok
  have HF : Hid (∀ (t : TokD) (W : World), t.text.size ≤ 1048576 → Below (w.alloc (.cells #[.int .i64 2] 3)).heap.size (w.alloc (.cells #[.int .i64 2] 3)) W → Calls Tryz.prog 86 #[.agg #[.string t.text, .int .i64 t.pos, .int .i64 t.frm, .int .i64 t.til], .pointer (some ⟨w.heap.size, 0, none⟩)] W (TokRow (oneT 12 t) W)) := Lib.hid (fun t W ht hW => by
    have e : oneT 12 t = (gramsF 2 t.text).map (fun x => ({ t with text := x } : TokD)) := rfl
    rw [e]
    have hb0 : Below w.heap.size w (w.alloc (.cells #[.int .i64 2] 3)) := (Below.refl _ _).alloc (Nat.le_refl _) _
    have hc : W.cell? ⟨w.heap.size, 0, none⟩ = some (.int .i64 ((2 : Nat) : Int)) := ((Blk.new w 3 #[.int .i64 2]).below hW (by simp)).cell 0
    exact gramsT_any 2 (by omega) t W w.heap.size (by omega) hc (by have := hW.size; simp at this; omega) (hT.next (hb0.trans (hW.mono (by simp)))))
  have HK := Lib.hid hk; have HT2 := Lib.hid ht
  have HI1 := Lib.hid hi; have HI2 := Lib.hid hz0; have HI3 := Lib.hid hz1; have HI4 := Lib.hid hz2
  obtain ⟨R, hR⟩ : ∃ R, linkF 12 toks = R := ⟨_, rfl⟩
  have HR : Hid (linkGo 12 (toks.drop 0) [] = R) := Lib.hid hR
  rw [hR]
  clear hk ht hT hi hz0 hz1 hz2 hR
  have hq := eql_fnF
  go_enter Tryz.func76, Tryz.ntmps76
  go_wp2_with fail
  refine (find_12 _).mono ?_
  rintro e w' ⟨rfl, rfl⟩
  go_wp2_with fail
  have HW0 : Hid (Below w.heap.size w (w.alloc (.cells #[.int .i64 2] 3))) := Lib.hid ((Below.refl _ _).alloc (Nat.le_refl _) _)
  have HK0 := Lib.hid ((HK.out.below HW0.out).more HW0.out.size)
  clear hq
  generalize (w.alloc (.cells #[.int .i64 2] 3)) = W0 at *
  go_loopw [7, 9, 16] (fun o _ i wr => ∃ (k : Nat) (acc : List TokD), k ≤ toks.length ∧ acc.length ≤ 4096 ∧ i = .int .i64 k ∧ Hid (wr.ownsRow W0.heap.size 117 4 o acc.length (tokCells acc)) ∧ Hid (linkGo 12 (toks.drop k) acc = R) ∧ Hid (Below W0.heap.size W0 wr)) (fun _ _ i _ => toks.length - (RowKit.intOf i).toNat)
  case atStart => exact ⟨0, [], by omega, by simp, rfl, Lib.hid (World.ownsRow_nil _ _ _ _), HR, Lib.hid (Below.refl _ _)⟩
  case round =>
    obtain ⟨k, acc, hkk, hacc, rfl, HO, HE, HW⟩ := hrel
    have hzr := HW.out.size
    by_cases hlt : k < toks.length
    · obtain ⟨ad, rfl, hba, c0, c1, c2, c3⟩ := reads_tok HK0.out rfl hlt
      rw [← HW.out.cell (by rw [block_of_add]; exact hba)] at c0
      rw [← HW.out.cell (by show (ad.add (k * 4)).block < _; rw [block_of_add]; exact hba)] at c1 c2 c3
      have hab : (ad.add (k * 4)).block < wr.heap.size := by rw [block_of_add]; omega
      have htx := HT2.out _ (List.getElem_mem hlt)
      have hol := oneT_len 12 toks[k]
      have HS := Lib.hid (linkGo_step (n := 12) (acc := acc) hlt)
      have HC := Lib.hid (fun W hW => HF.out toks[k] W htx hW)
      generalize toks[k] = t at *
      obtain ⟨tx, ps, fr, tl⟩ := t
      dsimp only at *
      obtain ⟨O, hO⟩ : ∃ O, oneT 12 ⟨tx, ps, fr, tl⟩ = O := ⟨_, rfl⟩
      rw [hO] at HS HC hol
      clear hO
      go_wp2_with fail
      refine (HC.out _ (HW.out.alloc hzr _)).mono ?_
      rintro e w3 ⟨bo, bc, rfl, hrd, b3⟩
      have ho3 := own_below (HO.out.alloc (.cells #[.string tx, .int .i64 ps, .int .i64 fr, .int .i64 tl] 117)) b3
      have HB3 := Lib.hid ((HW.out.alloc hzr (.cells #[.string tx, .int .i64 ps, .int .i64 fr, .int .i64 tl] 117)).trans (b3.mono (by simp; omega)))
      have hz3 := HB3.out.size
      have hi := HI1.out; have hz0 := HI2.out; have hz1 := HI3.out; have hz2 := HI4.out
      clear b3 c0 c1 c2 c3
      go_wp2_with (at_builtin; refine wpList_append_any _ rfl (.tmp 20) (.tmp 23) 83 rfl W0.heap.size 117 i0 (.agg #[.string ⟨#[]⟩, .int .i64 0, .int .i64 0, .int .i64 0]) 4 40 Tryz.underlying83 hi hz0 hz1 hz2 rfl (by decide) _ acc.length (tokCells acc) rfl ho3 w3.heap.size bo O.length bc (tokCells O) rfl hrd ?d1 ?d2 ?d3 ?d4 ?_)
      case d1 => intro u hu; exact tok_one hu
      case d2 => unfold maxLen; omega
      case d3 => omega
      case d4 => exact hz3
      intro v' w4 ho4 hg4 _
      have hb4 : Below W0.heap.size W0 w4 := HB3.out.grown hg4 hz3 (fun r e => (ho3.lt r e).1)
      have HO4 : Hid (w4.ownsRow W0.heap.size 117 4 v' (acc ++ O).length (tokCells (acc ++ O))) := Lib.hid (by rw [tokCells_append, List.length_append]; exact ho4)
      have HB4 := Lib.hid hb4
      have HLN : Hid ((acc ++ O).length = acc.length + O.length) := Lib.hid List.length_append
      obtain ⟨ao4, c4, rfl, _⟩ := reads_slice HO4.out
      have hll := HLN.out
      clear ho3 ho4 hg4 hb4 hrd hi hz0 hz1 hz2 hol
      generalize hA : acc ++ O = A2 at *
      clear hA hll HLN
      by_cases hbig : 4096 < A2.length
      · have HN : Hid (R = none) := Lib.hid (by rw [← HE.out, HS.out, if_pos hbig])
        go_wp2_with fail
        go_ret2
        exact .inl ⟨HN.out, rfl, HW0.out.trans (HB4.out.mono HW0.out.size)⟩
      · have HN : Hid (linkGo 12 (toks.drop (k + 1)) A2 = R) := Lib.hid (by rw [← HE.out, HS.out, if_neg hbig])
        go_wp2_with fail
        go_roundw
        case rel => exact ⟨k + 1, A2, by omega, by omega, by go_num, HO4, HN, HB4⟩
        case measure => simp [RowKit.intOf]; omega
    · obtain rfl : k = toks.length := by omega
      have HN : Hid (R = some acc) := Lib.hid (by rw [← HE.out, linkGo_end])
      obtain ⟨ao4, c4, rfl, _⟩ := reads_slice HO.out
      go_wp2_with fail
      go_ret2
      exact .inr ⟨acc, ao4, c4, HN.out, rfl, own_base HO.out HW0.out.size, HW0.out.trans (HW.out.mono HW0.out.size)⟩

set_option maxRecDepth 100000 in
set_option maxHeartbeats 1000000 in
theorem link_13 (ao : Option Addr) (c : Nat) (toks : List TokD) (w : World) (hk : Reads w w.heap.size 4 ao toks.length (tokCells toks)) (hl : toks.length ≤ 1048576) (ht : ∀ t ∈ toks, t.text.size ≤ 1048576) (hT : Tabs w) :
    Calls Tryz.prog 76 #[.int .i64 13, .slice ao toks.length c] w (LinkRet (linkF 13 toks) w) := by
  obtain ⟨i0, hi, hz0, hz1, hz2⟩ := info_parts infoTok
  have HF : Hid (∀ (t : TokD) (W : World), t.text.size ≤ 1048576 → Below (w.alloc (.cells #[.int .i64 3] 3)).heap.size (w.alloc (.cells #[.int .i64 3] 3)) W → Calls Tryz.prog 86 #[.agg #[.string t.text, .int .i64 t.pos, .int .i64 t.frm, .int .i64 t.til], .pointer (some ⟨w.heap.size, 0, none⟩)] W (TokRow (oneT 13 t) W)) := Lib.hid (fun t W ht hW => by
    have e : oneT 13 t = (gramsF 3 t.text).map (fun x => ({ t with text := x } : TokD)) := rfl
    rw [e]
    have hb0 : Below w.heap.size w (w.alloc (.cells #[.int .i64 3] 3)) := (Below.refl _ _).alloc (Nat.le_refl _) _
    have hc : W.cell? ⟨w.heap.size, 0, none⟩ = some (.int .i64 ((3 : Nat) : Int)) := ((Blk.new w 3 #[.int .i64 3]).below hW (by simp)).cell 0
    exact gramsT_any 3 (by omega) t W w.heap.size (by omega) hc (by have := hW.size; simp at this; omega) (hT.next (hb0.trans (hW.mono (by simp)))))
  have HK := Lib.hid hk; have HT2 := Lib.hid ht
  have HI1 := Lib.hid hi; have HI2 := Lib.hid hz0; have HI3 := Lib.hid hz1; have HI4 := Lib.hid hz2
  obtain ⟨R, hR⟩ : ∃ R, linkF 13 toks = R := ⟨_, rfl⟩
  have HR : Hid (linkGo 13 (toks.drop 0) [] = R) := Lib.hid hR
  rw [hR]
  clear hk ht hT hi hz0 hz1 hz2 hR
  have hq := eql_fnF
  go_enter Tryz.func76, Tryz.ntmps76
  go_wp2_with fail
  refine (find_13 _).mono ?_
  rintro e w' ⟨rfl, rfl⟩
  go_wp2_with fail
  have HW0 : Hid (Below w.heap.size w (w.alloc (.cells #[.int .i64 3] 3))) := Lib.hid ((Below.refl _ _).alloc (Nat.le_refl _) _)
  have HK0 := Lib.hid ((HK.out.below HW0.out).more HW0.out.size)
  clear hq
  generalize (w.alloc (.cells #[.int .i64 3] 3)) = W0 at *
  go_loopw [7, 9, 16] (fun o _ i wr => ∃ (k : Nat) (acc : List TokD), k ≤ toks.length ∧ acc.length ≤ 4096 ∧ i = .int .i64 k ∧ Hid (wr.ownsRow W0.heap.size 117 4 o acc.length (tokCells acc)) ∧ Hid (linkGo 13 (toks.drop k) acc = R) ∧ Hid (Below W0.heap.size W0 wr)) (fun _ _ i _ => toks.length - (RowKit.intOf i).toNat)
  case atStart => exact ⟨0, [], by omega, by simp, rfl, Lib.hid (World.ownsRow_nil _ _ _ _), HR, Lib.hid (Below.refl _ _)⟩
  case round =>
    obtain ⟨k, acc, hkk, hacc, rfl, HO, HE, HW⟩ := hrel
    have hzr := HW.out.size
    by_cases hlt : k < toks.length
    · obtain ⟨ad, rfl, hba, c0, c1, c2, c3⟩ := reads_tok HK0.out rfl hlt
      rw [← HW.out.cell (by rw [block_of_add]; exact hba)] at c0
      rw [← HW.out.cell (by show (ad.add (k * 4)).block < _; rw [block_of_add]; exact hba)] at c1 c2 c3
      have hab : (ad.add (k * 4)).block < wr.heap.size := by rw [block_of_add]; omega
      have htx := HT2.out _ (List.getElem_mem hlt)
      have hol := oneT_len 13 toks[k]
      have HS := Lib.hid (linkGo_step (n := 13) (acc := acc) hlt)
      have HC := Lib.hid (fun W hW => HF.out toks[k] W htx hW)
      generalize toks[k] = t at *
      obtain ⟨tx, ps, fr, tl⟩ := t
      dsimp only at *
      obtain ⟨O, hO⟩ : ∃ O, oneT 13 ⟨tx, ps, fr, tl⟩ = O := ⟨_, rfl⟩
      rw [hO] at HS HC hol
      clear hO
      go_wp2_with fail
      refine (HC.out _ (HW.out.alloc hzr _)).mono ?_
      rintro e w3 ⟨bo, bc, rfl, hrd, b3⟩
      have ho3 := own_below (HO.out.alloc (.cells #[.string tx, .int .i64 ps, .int .i64 fr, .int .i64 tl] 117)) b3
      have HB3 := Lib.hid ((HW.out.alloc hzr (.cells #[.string tx, .int .i64 ps, .int .i64 fr, .int .i64 tl] 117)).trans (b3.mono (by simp; omega)))
      have hz3 := HB3.out.size
      have hi := HI1.out; have hz0 := HI2.out; have hz1 := HI3.out; have hz2 := HI4.out
      clear b3 c0 c1 c2 c3
      go_wp2_with (at_builtin; refine wpList_append_any _ rfl (.tmp 20) (.tmp 23) 83 rfl W0.heap.size 117 i0 (.agg #[.string ⟨#[]⟩, .int .i64 0, .int .i64 0, .int .i64 0]) 4 40 Tryz.underlying83 hi hz0 hz1 hz2 rfl (by decide) _ acc.length (tokCells acc) rfl ho3 w3.heap.size bo O.length bc (tokCells O) rfl hrd ?d1 ?d2 ?d3 ?d4 ?_)
      case d1 => intro u hu; exact tok_one hu
      case d2 => unfold maxLen; omega
      case d3 => omega
      case d4 => exact hz3
      intro v' w4 ho4 hg4 _
      have hb4 : Below W0.heap.size W0 w4 := HB3.out.grown hg4 hz3 (fun r e => (ho3.lt r e).1)
      have HO4 : Hid (w4.ownsRow W0.heap.size 117 4 v' (acc ++ O).length (tokCells (acc ++ O))) := Lib.hid (by rw [tokCells_append, List.length_append]; exact ho4)
      have HB4 := Lib.hid hb4
      have HLN : Hid ((acc ++ O).length = acc.length + O.length) := Lib.hid List.length_append
      obtain ⟨ao4, c4, rfl, _⟩ := reads_slice HO4.out
      have hll := HLN.out
      clear ho3 ho4 hg4 hb4 hrd hi hz0 hz1 hz2 hol
      generalize hA : acc ++ O = A2 at *
      clear hA hll HLN
      by_cases hbig : 4096 < A2.length
      · have HN : Hid (R = none) := Lib.hid (by rw [← HE.out, HS.out, if_pos hbig])
        go_wp2_with fail
        go_ret2
        exact .inl ⟨HN.out, rfl, HW0.out.trans (HB4.out.mono HW0.out.size)⟩
      · have HN : Hid (linkGo 13 (toks.drop (k + 1)) A2 = R) := Lib.hid (by rw [← HE.out, HS.out, if_neg hbig])
        go_wp2_with fail
        go_roundw
        case rel => exact ⟨k + 1, A2, by omega, by omega, by go_num, HO4, HN, HB4⟩
        case measure => simp [RowKit.intOf]; omega
    · obtain rfl : k = toks.length := by omega
      have HN : Hid (R = some acc) := Lib.hid (by rw [← HE.out, linkGo_end])
      obtain ⟨ao4, c4, rfl, _⟩ := reads_slice HO.out
      go_wp2_with fail
      go_ret2
      exact .inr ⟨acc, ao4, c4, HN.out, rfl, own_base HO.out HW0.out.size, HW0.out.trans (HW.out.mono HW0.out.size)⟩

set_option maxRecDepth 100000 in
set_option maxHeartbeats 1000000 in
theorem link_14 (ao : Option Addr) (c : Nat) (toks : List TokD) (w : World) (hk : Reads w w.heap.size 4 ao toks.length (tokCells toks)) (hl : toks.length ≤ 1048576) (ht : ∀ t ∈ toks, t.text.size ≤ 1048576) (hT : Tabs w) :
    Calls Tryz.prog 76 #[.int .i64 14, .slice ao toks.length c] w (LinkRet (linkF 14 toks) w) := by
  obtain ⟨i0, hi, hz0, hz1, hz2⟩ := info_parts infoTok
  have HF : Hid (∀ (t : TokD) (W : World), t.text.size ≤ 1048576 → Below w.heap.size w W → Calls Tryz.prog 72 #[.agg #[.string t.text, .int .i64 t.pos, .int .i64 t.frm, .int .i64 t.til]] W (TokRow (oneT 14 t) W)) := Lib.hid (fun t W ht hW => shortT_any t W (by omega) (hT.next hW))
  have HK := Lib.hid hk; have HT2 := Lib.hid ht
  have HI1 := Lib.hid hi; have HI2 := Lib.hid hz0; have HI3 := Lib.hid hz1; have HI4 := Lib.hid hz2
  obtain ⟨R, hR⟩ : ∃ R, linkF 14 toks = R := ⟨_, rfl⟩
  have HR : Hid (linkGo 14 (toks.drop 0) [] = R) := Lib.hid hR
  rw [hR]
  clear hk ht hT hi hz0 hz1 hz2 hR
  have hq := eql_fnF
  go_enter Tryz.func76, Tryz.ntmps76
  go_wp2_with fail
  refine (find_14 _).mono ?_
  rintro e w' ⟨rfl, rfl⟩
  go_wp2_with fail
  have HW0 : Hid (Below w.heap.size w w) := Lib.hid (Below.refl _ _)
  have HK0 := Lib.hid ((HK.out.below HW0.out).more HW0.out.size)
  clear hq
  go_loopw [7, 9, 16] (fun o _ i wr => ∃ (k : Nat) (acc : List TokD), k ≤ toks.length ∧ acc.length ≤ 4096 ∧ i = .int .i64 k ∧ Hid (wr.ownsRow w.heap.size 117 4 o acc.length (tokCells acc)) ∧ Hid (linkGo 14 (toks.drop k) acc = R) ∧ Hid (Below w.heap.size w wr)) (fun _ _ i _ => toks.length - (RowKit.intOf i).toNat)
  case atStart => exact ⟨0, [], by omega, by simp, rfl, Lib.hid (World.ownsRow_nil _ _ _ _), HR, Lib.hid (Below.refl _ _)⟩
  case round =>
    obtain ⟨k, acc, hkk, hacc, rfl, HO, HE, HW⟩ := hrel
    have hzr := HW.out.size
    by_cases hlt : k < toks.length
    · obtain ⟨ad, rfl, hba, c0, c1, c2, c3⟩ := reads_tok HK0.out rfl hlt
      rw [← HW.out.cell (by rw [block_of_add]; exact hba)] at c0
      rw [← HW.out.cell (by show (ad.add (k * 4)).block < _; rw [block_of_add]; exact hba)] at c1 c2 c3
      have hab : (ad.add (k * 4)).block < wr.heap.size := by rw [block_of_add]; omega
      have htx := HT2.out _ (List.getElem_mem hlt)
      have hol := oneT_len 14 toks[k]
      have HS := Lib.hid (linkGo_step (n := 14) (acc := acc) hlt)
      have HC := Lib.hid (fun W hW => HF.out toks[k] W htx hW)
      generalize toks[k] = t at *
      obtain ⟨tx, ps, fr, tl⟩ := t
      dsimp only at *
      obtain ⟨O, hO⟩ : ∃ O, oneT 14 ⟨tx, ps, fr, tl⟩ = O := ⟨_, rfl⟩
      rw [hO] at HS HC hol
      clear hO
      go_wp2_with fail
      refine (HC.out _ (HW.out.alloc hzr _)).mono ?_
      rintro e w3 ⟨bo, bc, rfl, hrd, b3⟩
      have ho3 := own_below (HO.out.alloc (.cells #[.string tx, .int .i64 ps, .int .i64 fr, .int .i64 tl] 117)) b3
      have HB3 := Lib.hid ((HW.out.alloc hzr (.cells #[.string tx, .int .i64 ps, .int .i64 fr, .int .i64 tl] 117)).trans (b3.mono (by simp; omega)))
      have hz3 := HB3.out.size
      have hi := HI1.out; have hz0 := HI2.out; have hz1 := HI3.out; have hz2 := HI4.out
      clear b3 c0 c1 c2 c3
      go_wp2_with (at_builtin; refine wpList_append_any _ rfl (.tmp 20) (.tmp 23) 83 rfl w.heap.size 117 i0 (.agg #[.string ⟨#[]⟩, .int .i64 0, .int .i64 0, .int .i64 0]) 4 40 Tryz.underlying83 hi hz0 hz1 hz2 rfl (by decide) _ acc.length (tokCells acc) rfl ho3 w3.heap.size bo O.length bc (tokCells O) rfl hrd ?d1 ?d2 ?d3 ?d4 ?_)
      case d1 => intro u hu; exact tok_one hu
      case d2 => unfold maxLen; omega
      case d3 => omega
      case d4 => exact hz3
      intro v' w4 ho4 hg4 _
      have hb4 : Below w.heap.size w w4 := HB3.out.grown hg4 hz3 (fun r e => (ho3.lt r e).1)
      have HO4 : Hid (w4.ownsRow w.heap.size 117 4 v' (acc ++ O).length (tokCells (acc ++ O))) := Lib.hid (by rw [tokCells_append, List.length_append]; exact ho4)
      have HB4 := Lib.hid hb4
      have HLN : Hid ((acc ++ O).length = acc.length + O.length) := Lib.hid List.length_append
      obtain ⟨ao4, c4, rfl, _⟩ := reads_slice HO4.out
      have hll := HLN.out
      clear ho3 ho4 hg4 hb4 hrd hi hz0 hz1 hz2 hol
      generalize hA : acc ++ O = A2 at *
      clear hA hll HLN
      by_cases hbig : 4096 < A2.length
      · have HN : Hid (R = none) := Lib.hid (by rw [← HE.out, HS.out, if_pos hbig])
        go_wp2_with fail
        go_ret2
        exact .inl ⟨HN.out, rfl, HW0.out.trans (HB4.out.mono HW0.out.size)⟩
      · have HN : Hid (linkGo 14 (toks.drop (k + 1)) A2 = R) := Lib.hid (by rw [← HE.out, HS.out, if_neg hbig])
        go_wp2_with fail
        go_roundw
        case rel => exact ⟨k + 1, A2, by omega, by omega, by go_num, HO4, HN, HB4⟩
        case measure => simp [RowKit.intOf]; omega
    · obtain rfl : k = toks.length := by omega
      have HN : Hid (R = some acc) := Lib.hid (by rw [← HE.out, linkGo_end])
      obtain ⟨ao4, c4, rfl, _⟩ := reads_slice HO.out
      go_wp2_with fail
      go_ret2
      exact .inr ⟨acc, ao4, c4, HN.out, rfl, own_base HO.out HW0.out.size, HW0.out.trans (HW.out.mono HW0.out.size)⟩

set_option maxRecDepth 100000 in
set_option maxHeartbeats 1000000 in
theorem link_15 (ao : Option Addr) (c : Nat) (toks : List TokD) (w : World) (hk : Reads w w.heap.size 4 ao toks.length (tokCells toks)) (hl : toks.length ≤ 1048576) (ht : ∀ t ∈ toks, t.text.size ≤ 1048576) (hT : Tabs w) :
    Calls Tryz.prog 76 #[.int .i64 15, .slice ao toks.length c] w (LinkRet (linkF 15 toks) w) := by
  obtain ⟨i0, hi, hz0, hz1, hz2⟩ := info_parts infoTok
  have HF : Hid (∀ (t : TokD) (W : World), t.text.size ≤ 1048576 → Below w.heap.size w W → Calls Tryz.prog 73 #[.agg #[.string t.text, .int .i64 t.pos, .int .i64 t.frm, .int .i64 t.til]] W (TokRow (oneT 15 t) W)) := Lib.hid (fun t W ht hW => by
    have e : oneT 15 t = (marksF t.text).map (fun x => ({ t with text := x } : TokD)) := rfl
    rw [e]
    exact marksT_any t W (by omega) (hT.next hW))
  have HK := Lib.hid hk; have HT2 := Lib.hid ht
  have HI1 := Lib.hid hi; have HI2 := Lib.hid hz0; have HI3 := Lib.hid hz1; have HI4 := Lib.hid hz2
  obtain ⟨R, hR⟩ : ∃ R, linkF 15 toks = R := ⟨_, rfl⟩
  have HR : Hid (linkGo 15 (toks.drop 0) [] = R) := Lib.hid hR
  rw [hR]
  clear hk ht hT hi hz0 hz1 hz2 hR
  have hq := eql_fnF
  go_enter Tryz.func76, Tryz.ntmps76
  go_wp2_with fail
  refine (find_15 _).mono ?_
  rintro e w' ⟨rfl, rfl⟩
  go_wp2_with fail
  have HW0 : Hid (Below w.heap.size w w) := Lib.hid (Below.refl _ _)
  have HK0 := Lib.hid ((HK.out.below HW0.out).more HW0.out.size)
  clear hq
  go_loopw [7, 9, 16] (fun o _ i wr => ∃ (k : Nat) (acc : List TokD), k ≤ toks.length ∧ acc.length ≤ 4096 ∧ i = .int .i64 k ∧ Hid (wr.ownsRow w.heap.size 117 4 o acc.length (tokCells acc)) ∧ Hid (linkGo 15 (toks.drop k) acc = R) ∧ Hid (Below w.heap.size w wr)) (fun _ _ i _ => toks.length - (RowKit.intOf i).toNat)
  case atStart => exact ⟨0, [], by omega, by simp, rfl, Lib.hid (World.ownsRow_nil _ _ _ _), HR, Lib.hid (Below.refl _ _)⟩
  case round =>
    obtain ⟨k, acc, hkk, hacc, rfl, HO, HE, HW⟩ := hrel
    have hzr := HW.out.size
    by_cases hlt : k < toks.length
    · obtain ⟨ad, rfl, hba, c0, c1, c2, c3⟩ := reads_tok HK0.out rfl hlt
      rw [← HW.out.cell (by rw [block_of_add]; exact hba)] at c0
      rw [← HW.out.cell (by show (ad.add (k * 4)).block < _; rw [block_of_add]; exact hba)] at c1 c2 c3
      have hab : (ad.add (k * 4)).block < wr.heap.size := by rw [block_of_add]; omega
      have htx := HT2.out _ (List.getElem_mem hlt)
      have hol := oneT_len 15 toks[k]
      have HS := Lib.hid (linkGo_step (n := 15) (acc := acc) hlt)
      have HC := Lib.hid (fun W hW => HF.out toks[k] W htx hW)
      generalize toks[k] = t at *
      obtain ⟨tx, ps, fr, tl⟩ := t
      dsimp only at *
      obtain ⟨O, hO⟩ : ∃ O, oneT 15 ⟨tx, ps, fr, tl⟩ = O := ⟨_, rfl⟩
      rw [hO] at HS HC hol
      clear hO
      go_wp2_with fail
      refine (HC.out _ (HW.out.alloc hzr _)).mono ?_
      rintro e w3 ⟨bo, bc, rfl, hrd, b3⟩
      have ho3 := own_below (HO.out.alloc (.cells #[.string tx, .int .i64 ps, .int .i64 fr, .int .i64 tl] 117)) b3
      have HB3 := Lib.hid ((HW.out.alloc hzr (.cells #[.string tx, .int .i64 ps, .int .i64 fr, .int .i64 tl] 117)).trans (b3.mono (by simp; omega)))
      have hz3 := HB3.out.size
      have hi := HI1.out; have hz0 := HI2.out; have hz1 := HI3.out; have hz2 := HI4.out
      clear b3 c0 c1 c2 c3
      go_wp2_with (at_builtin; refine wpList_append_any _ rfl (.tmp 20) (.tmp 23) 83 rfl w.heap.size 117 i0 (.agg #[.string ⟨#[]⟩, .int .i64 0, .int .i64 0, .int .i64 0]) 4 40 Tryz.underlying83 hi hz0 hz1 hz2 rfl (by decide) _ acc.length (tokCells acc) rfl ho3 w3.heap.size bo O.length bc (tokCells O) rfl hrd ?d1 ?d2 ?d3 ?d4 ?_)
      case d1 => intro u hu; exact tok_one hu
      case d2 => unfold maxLen; omega
      case d3 => omega
      case d4 => exact hz3
      intro v' w4 ho4 hg4 _
      have hb4 : Below w.heap.size w w4 := HB3.out.grown hg4 hz3 (fun r e => (ho3.lt r e).1)
      have HO4 : Hid (w4.ownsRow w.heap.size 117 4 v' (acc ++ O).length (tokCells (acc ++ O))) := Lib.hid (by rw [tokCells_append, List.length_append]; exact ho4)
      have HB4 := Lib.hid hb4
      have HLN : Hid ((acc ++ O).length = acc.length + O.length) := Lib.hid List.length_append
      obtain ⟨ao4, c4, rfl, _⟩ := reads_slice HO4.out
      have hll := HLN.out
      clear ho3 ho4 hg4 hb4 hrd hi hz0 hz1 hz2 hol
      generalize hA : acc ++ O = A2 at *
      clear hA hll HLN
      by_cases hbig : 4096 < A2.length
      · have HN : Hid (R = none) := Lib.hid (by rw [← HE.out, HS.out, if_pos hbig])
        go_wp2_with fail
        go_ret2
        exact .inl ⟨HN.out, rfl, HW0.out.trans (HB4.out.mono HW0.out.size)⟩
      · have HN : Hid (linkGo 15 (toks.drop (k + 1)) A2 = R) := Lib.hid (by rw [← HE.out, HS.out, if_neg hbig])
        go_wp2_with fail
        go_roundw
        case rel => exact ⟨k + 1, A2, by omega, by omega, by go_num, HO4, HN, HB4⟩
        case measure => simp [RowKit.intOf]; omega
    · obtain rfl : k = toks.length := by omega
      have HN : Hid (R = some acc) := Lib.hid (by rw [← HE.out, linkGo_end])
      obtain ⟨ao4, c4, rfl, _⟩ := reads_slice HO.out
      go_wp2_with fail
      go_ret2
      exact .inr ⟨acc, ao4, c4, HN.out, rfl, own_base HO.out HW0.out.size, HW0.out.trans (HW.out.mono HW0.out.size)⟩

theorem link_any (n : Int) (h : filterB n = true) (ao : Option Addr) (c : Nat) (toks : List TokD) (w : World) (hk : Reads w w.heap.size 4 ao toks.length (tokCells toks)) (hl : toks.length ≤ 1048576) (ht : ∀ t ∈ toks, t.text.size ≤ 1048576) (hT : Tabs w) :
    Calls Tryz.prog 76 #[.int .i64 n, .slice ao toks.length c] w (LinkRet (linkF n toks) w) := by
  have h0 : 10 ≤ n ∧ n ≤ 15 := by unfold filterB at h; simpa using h
  have h1 : n = 10 ∨ n = 11 ∨ n = 12 ∨ n = 13 ∨ n = 14 ∨ n = 15 := by omega
  rcases h1 with rfl | rfl | rfl | rfl | rfl | rfl
  · exact link_10 ao c toks w hk hl ht hT
  · exact link_11 ao c toks w hk hl ht hT
  · exact link_12 ao c toks w hk hl ht hT
  · exact link_13 ao c toks w hk hl ht hT
  · exact link_14 ao c toks w hk hl ht hT
  · exact link_15 ao c toks w hk hl ht hT
end Go.Proofs.YtinmiekbhoemjaaGreatDoor.Ana
