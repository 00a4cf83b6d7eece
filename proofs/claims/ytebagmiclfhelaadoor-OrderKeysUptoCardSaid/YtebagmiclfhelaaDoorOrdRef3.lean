/- Contracts: the document's bytes of a row of keys; keys lent and kept. -/
import Derived.Test.YtebagmiclfhelaaDoorOrdRef2
import Derived.Test.YtebagmiclfhelaaDoorOrdKeys
set_option linter.unusedVariables false
namespace Go.Proofs.YtebagmiclfhelaaDoor.OrdLib
open Go.RowKit Go.Lib OrdP Kit OrdRef Words Owned

theorem keyB_length (k : KeyD) : (keyB k).length ≤ 9 + 2 * k.text.size ∧ 0 < (keyB k).length := by
  unfold keyB
  refine ⟨?_, by simp⟩
  by_cases h1 : k.kind = 1
  · rw [if_pos h1, List.length_cons, be8_len]; omega
  · rw [if_neg h1]
    by_cases h2 : k.kind = 2
    · rw [if_pos h2, List.length_cons]
      have := escL_len k.text.data.toList
      have e : k.text.data.toList.length = k.text.size := by simp
      omega
    · rw [if_neg h2]; simp; omega
theorem own_reads {w : World} {B n : Nat} {v : Value} {l : List UInt8} (h : w.ownsRow B 5 1 v n (byteCells l)) : ∃ ao cap, v = .slice ao n cap ∧ Reads w w.heap.size 1 ao n (byteCells l) := by
  obtain ⟨ao, cap, rfl⟩ := own_slice h
  exact ⟨ao, cap, rfl, Reads.of_own h⟩

set_option maxRecDepth 100000 in
set_option maxHeartbeats 1000000 in
theorem refBytes_any (ao : Option Addr) (c : Nat) (ks : List KeyD) (w : World) (hk : Reads w w.heap.size 3 ao ks.length (keyCells ks)) (hs : sumT ks ≤ 4194304) (hl : ks.length ≤ 4194304) (hta : ∀ k ∈ ks, k.text.size ≤ 4194304) :
    Calls Tryd.prog 24 #[.slice ao ks.length c] w (BytesRet ks w) := by
  obtain ⟨i0, hi, hz0, hz1, hz2⟩ := info_parts infoU8
  have HK := Lib.hid hk; have HTA := Lib.hid hta; clear hk hta
  go_enter Tryd.func24, Tryd.ntmps24
  go_wp2_with fail
  go_loopw [4, 5] (fun o i wr => ∃ (k : Nat) (q : List UInt8), k ≤ ks.length ∧ q.length ≤ 9 * k + 2 * sumT (ks.take k) ∧ i = .int .i64 k ∧ Hid (q ++ rowB (ks.drop k) = rowB ks) ∧
      Hid (wr.ownsRow w.heap.size 5 1 o q.length (byteCells q)) ∧ Hid (Below w.heap.size w wr) ∧ Hid ((ks.take k).all rightF = true)) (fun _ i _ => ks.length - (RowKit.intOf i).toNat)
  case atStart => exact ⟨0, [], Nat.zero_le _, by simp, rfl, Lib.hid rfl, Lib.hid (World.ownsRow_nil _ _ _ _), Lib.hid (Below.refl _ _), Lib.hid (by simp)⟩
  case round =>
    obtain ⟨k, q, hk, hq, rfl, HQ, HO, HBW, HR⟩ := hrel
    by_cases hlt : k < ks.length
    · obtain ⟨ad, rfl, hbl, c0, c1, c2⟩ := reads_key HK.out hlt
      rw [← HBW.out.cell (by rw [block_of_add]; exact hbl)] at c0
      rw [← HBW.out.cell (by show (ad.add (k * 3)).block < _; rw [block_of_add]; exact hbl)] at c1 c2
      have hblk : (ad.add (k * 3)).block < wr.heap.size := by rw [block_of_add]; have := HBW.out.size; omega
      have htkr : (ks.take (k + 1)).all rightF = rightF ks[k] := by rw [List.take_succ_eq_append_getElem hlt, List.all_append, HR.out]; simp
      have hnor : rightF ks[k] = false → ks.all rightF = false := fun h => by
        rw [List.all_eq_false]; exact ⟨_, List.getElem_mem hlt, by rw [h]; decide⟩
      have hdr : rowB (ks.drop k) = keyB ks[k] ++ rowB (ks.drop (k + 1)) := by rw [List.drop_eq_getElem_cons hlt, rowB]
      have htk : sumT (ks.take (k + 1)) = sumT (ks.take k) + ks[k].text.size := by rw [List.take_succ_eq_append_getElem hlt]; exact sumT_snoc _ _
      have htl : sumT (ks.take (k + 1)) ≤ sumT ks := sumT_take _ _
      have hts := HTA.out _ (List.getElem_mem hlt)
      generalize hx : ks[k] = x at *
      clear hx
      have hkl := keyB_length x
      have HQ2 := HQ.out
      rw [hdr] at HQ2
      have HQ2 := Lib.hid HQ2
      have HTK := Lib.hid htk; have HTL := Lib.hid htl; have HTR := Lib.hid htkr; have HNR := Lib.hid hnor; have HKL := Lib.hid hkl
      clear hdr htk htl htkr hnor hkl
      obtain ⟨rb, hrb⟩ : ∃ r, rightF x = r := ⟨_, rfl⟩
      have HW : Hid (∀ w2, Calls Tryd.prog 30 #[x.v] w2 (BoolB rb w2)) := Lib.hid (fun w2 => by rw [← hrb]; exact refRight_any x w2)
      have HO1 : Hid (rb = true → ∀ w2, Calls Tryd.prog 49 #[x.v] w2 (RowAt w2.heap.size (keyB x) w2)) := Lib.hid (fun h w2 => one_any x (hrb.trans h) hts w2)
      have HRB := Lib.hid hrb
      clear hrb hts
      obtain ⟨kd, nm, tx⟩ := x
      unfold KeyD.v at HW HO1
      dsimp only at c0 c1 c2 HW HO1
      cases rb with
      | false =>
        clear HO1
        go_wp2_with fail
        refine (HW.out _).mono ?_
        rintro e w2 ⟨rfl, hb2⟩
        have HB2 : Hid (Below w.heap.size w w2) := Lib.hid (HBW.out.trans (hb2.mono HBW.out.size))
        clear hb2
        go_wp2_with fail
        go_ret2
        exact ⟨by rw [HNR.out HRB.out]; rfl, HB2.out⟩
      | true =>
        go_wp2_with fail
        refine (HW.out _).mono ?_
        rintro e w2 ⟨rfl, hb2⟩
        have HB2 : Hid (Below w.heap.size w w2) := Lib.hid (HBW.out.trans (hb2.mono HBW.out.size))
        have ho2 := own_below HO.out hb2
        have d0 : w2.cell? (ad.add (k * 3)) = some (.int .i64 kd) := (hb2.cell hblk).trans c0
        have d1 : w2.cell? ⟨(ad.add (k * 3)).block, (ad.add (k * 3)).off + 1, none⟩ = some (.int .i64 nm) := (hb2.cell (p := ⟨(ad.add (k * 3)).block, (ad.add (k * 3)).off + 1, none⟩) hblk).trans c1
        have d2 : w2.cell? ⟨(ad.add (k * 3)).block, (ad.add (k * 3)).off + 2, none⟩ = some (.string tx) := (hb2.cell (p := ⟨(ad.add (k * 3)).block, (ad.add (k * 3)).off + 2, none⟩) hblk).trans c2
        clear hb2 c0 c1 c2
        go_wp2_with fail
        refine (HO1.out (by trivial) _).mono ?_
        rintro e w3 ⟨xv, rfl, hxo, hb3⟩
        have HB3 : Hid (Below w.heap.size w w3) := Lib.hid (HB2.out.trans (hb3.mono HB2.out.size))
        have ho3 := own_below ho2 hb3
        obtain ⟨xa, xc, rfl, hxr⟩ := own_reads hxo
        clear hb3 ho2 d0 d1 d2 hxo
        go_wp2_with (at_builtin; refine wpList_append_any _ rfl (.tmp 24) (.tmp 25) 66 rfl w.heap.size 5 i0 (.int .u8 0) 1 1 Tryd.underlying66 hi hz0 hz1 hz2 rfl (by decide) _ q.length (byteCells q) rfl ho3 w3.heap.size xa (keyB ⟨kd, nm, tx⟩).length xc (byteCells (keyB ⟨kd, nm, tx⟩)) rfl hxr ?c2 ?c3 ?c4 ?c5 ?_)
        case c2 => intro u hu; unfold byteCells at hu; rw [List.mem_map] at hu; obtain ⟨b, _, rfl⟩ := hu; rfl
        case c3 => have := HKL.out; have := HTK.out; have := HTL.out; unfold maxLen; (try dsimp only at *); omega
        case c4 => have := HKL.out; have := HTK.out; have := HTL.out; (try dsimp only at *); omega
        case c5 => exact HB3.out.size
        intro v1 w4 ho4 hg _
        have hb4 : Below w.heap.size w w4 := HB3.out.grown hg HB3.out.size (fun r e => (ho3.lt r e).1)
        have G1 : Hid (w4.ownsRow w.heap.size 5 1 v1 (q ++ keyB ⟨kd, nm, tx⟩).length (byteCells (q ++ keyB ⟨kd, nm, tx⟩))) := Lib.hid (by rw [byteCells_append, List.length_append]; exact ho4)
        have G2 := Lib.hid hb4
        clear ho4 hg hb4 ho3 hxr
        go_wp2_with fail
        go_roundw
        case rel =>
          refine ⟨k + 1, q ++ keyB ⟨kd, nm, tx⟩, hlt, ?_, by go_num, Lib.hid (by rw [← HQ2.out]; simp), G1, G2, Lib.hid (HTR.out.trans HRB.out)⟩
          have := HKL.out; have := HTK.out; rw [List.length_append]; (try dsimp only at *); omega
        case measure => simp [RowKit.intOf]; omega
    · obtain rfl : k = ks.length := by omega
      have hq2 := HQ.out
      rw [List.drop_eq_nil_of_le (by omega), rowB, List.append_nil] at hq2
      have hcv := run_convert_own (P := Tryd.prog) wr 66 9 5 Tryd.underlying66 Tryd.underlying5 Tryd.underlying9 rfl HO.out
      go_wp2_with fail
      go_ret2
      subst hq2
      have hall : ks.all rightF = true := by have := HR.out; rwa [List.take_of_length_le (Nat.le_refl _)] at this
      exact ⟨by rw [if_pos hall]; exact rfl, HBW.out⟩

/-- A row of keys in memory of the call's own, with the mark behind it. -/
def LentRow (w : World) (B : Nat) (v : Value) (ks : List KeyD) : Prop :=
  ∃ g cap, v = .slice (some ⟨g, 0, none⟩) ks.length cap ∧ ks.length < cap ∧ cap ≤ maxLen ∧ B ≤ g ∧ Reads w w.heap.size 3 (some ⟨g, 0, none⟩) (ks.length + 1) (keyCells (ks ++ [⟨71, 0, ⟨#[]⟩⟩]))
def LentRet (ks : List KeyD) (w : World) (e : Ending) (w' : World) : Prop := ∃ v, e = .returned v ∧ LentRow w' w.heap.size v ks ∧ Below w.heap.size w w'

set_option maxRecDepth 100000 in
set_option maxHeartbeats 1000000 in
theorem lent_any (ao : Option Addr) (c : Nat) (ks : List KeyD) (w : World) (hk : Reads w w.heap.size 3 ao ks.length (keyCells ks)) (hl : ks.length ≤ 4194304) :
    Calls Tryd.prog 23 #[.slice ao ks.length c] w (LentRet ks w) := by
  obtain ⟨i0, hi, hz0, hz1, hz2⟩ := info_parts infoKey
  go_enter Tryd.func23, Tryd.ntmps23
  go_wp2_with (at_builtin; refine wpList_append_any _ rfl (.tmp 4) (.tmp 5) 42 rfl w.heap.size 35 i0 (.agg #[.int .i64 0, .int .i64 0, .string ⟨#[]⟩]) 3 32 Tryd.underlying42 hi hz0 hz1 hz2 rfl (by decide) (.slice none 0 0) 0 [] rfl (World.ownsRow_nil _ _ _ _) w.heap.size ao ks.length c (keyCells ks) rfl hk ?c2 ?c3 ?c4 ?c5 ?_)
  case c2 =>
    intro u hu
    unfold keyCells at hu
    rw [List.mem_flatMap] at hu
    obtain ⟨k, _, hu⟩ := hu
    unfold KeyD.cells at hu
    simp at hu
    rcases hu with rfl | rfl | rfl <;> rfl
  case c3 => unfold maxLen; omega
  case c4 => omega
  case c5 => exact Nat.le_refl _
  intro v1 w1 ho1 hg1 _
  have hb1 : Below w.heap.size w w1 := (Below.refl _ w).grown hg1 (Nat.le_refl _) (fun r e => by cases e)
  replace ho1 : w1.ownsRow w.heap.size 35 3 v1 ks.length (keyCells ks) := by simpa using ho1
  have HB1 := Lib.hid hb1
  have hsz1 := hb1.size
  clear hg1 hb1
  go_wp2_with (at_builtin; refine wpList_append_own _ rfl (.tmp 7) (.tmp 9) 42 rfl w.heap.size 35 i0 (.agg #[.int .i64 0, .int .i64 0, .string ⟨#[]⟩]) 3 32 Tryd.underlying42 hi hz0 hz1 hz2 rfl (by decide) _ ks.length (keyCells ks) rfl (ho1.alloc _) ⟨w1.heap.size, 0, none⟩ 1 1 [.int .i64 71, .int .i64 0, .string ⟨#[]⟩] rfl rfl ?d1 ?d2 ?d3 ?d4 ?d5 ?_)
  case d1 => intro j u hu; exact cells_new _ _ _ j u hu
  case d2 => intro u hu; simp at hu; rcases hu with rfl | rfl | rfl <;> rfl
  case d3 => unfold maxLen; omega
  case d4 => omega
  case d5 => simp; omega
  intro v2 w2 ho2 hg2 _
  have hb2 : Below w.heap.size w w2 := (HB1.out.alloc HB1.out.size _).grown hg2 (by simp; omega) (fun r e => (ho1.lt r e).1)
  have HB2 := Lib.hid hb2
  have e1 : keyCells ks ++ [.int .i64 71, .int .i64 0, .string ⟨#[]⟩] = keyCells (ks ++ [⟨71, 0, ⟨#[]⟩⟩]) := by rw [keyCells_append]; rfl
  rw [e1] at ho2
  rcases ho2.2 with ⟨_, h0⟩ | ⟨g, cap, cur, rfl, hB, hgg, hn, hm, hcs, ht⟩
  · omega
  · have HOW := Lib.hid (Reads.of_own ho2)
    have hm' := hm
    unfold maxLen at hm'
    clear hg2 hb2 e1 ho1 hk hgg hcs ht ho2
    go_wp2_with fail
    go_ret
    exact ⟨_, rfl, ⟨g, cap, rfl, hn, hm, hB, HOW.out⟩, HB2.out⟩
end Go.Proofs.YtebagmiclfhelaaDoor.OrdLib
