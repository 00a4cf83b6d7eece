/- The walk of the law FoldBack. -/
import Derived.Test.YtdgmgedecnbmdaaDoorFoldEarlyWalk
import Derived.Test.YtdgmgedecnbmdaaDoorFoldBackP
import Derived.Deep.RegionHeld3
import Derived.Deep.AppendLies
import Derived.StillTactics
import Derived.WalkSpells
set_option linter.unusedVariables false
namespace Go.Proofs.YtdgmgedecnbmdaaDoor.FoldLaws
open Go.RowKit Go.Lib FoldP FoldInts Kit FoldForms FoldNext FoldIter FoldValid FoldPut FoldRefRunes Words Owned

attribute [local go_sem] Oper.semAt_some

theorem infoI32 : (Tryd.prog.info? 21).map (fun i => (i.zero, i.size, i.bytes)) = some (some (.int .i32 0), 1, 4) := by kernel_rfl

/-- The numbers that are runes. -/
def goodR (zs : List Int) : List Int := zs.filter fun z => Lib.validRune z
theorem goodR_snoc (zs : List Int) (z : Int) : goodR (zs ++ [z]) = goodR zs ++ (if Lib.validRune z then [z] else []) := by
  unfold goodR; rw [List.filter_append]; cases h : Lib.validRune z <;> simp [h]
theorem goodR_len (zs : List Int) : (goodR zs).length ≤ zs.length := List.length_filter_le _ _
theorem goodR_ok (zs : List Int) : ∀ r ∈ goodR zs, Lib.validRune r = true := fun r hr => by
  have := List.mem_filter.1 hr; exact this.2
theorem formsL_snoc (zs : List Int) (z : Int) : formsL (zs ++ [z]) = formsL zs ++ encodeRune z := by simp [formsL]
theorem formsL_le : ∀ zs : List Int, (formsL zs).length ≤ 4 * zs.length
  | [] => by simp [formsL]
  | z :: zs => by
    have h1 := formsL_le zs
    have h2 : (encodeRune z).length ≤ 4 := by have := encodeRuneZ_length z; simp [encodeRune]; omega
    have e : formsL (z :: zs) = encodeRune z ++ formsL zs := rfl
    rw [e, List.length_append, List.length_cons]; omega

def i32s (zs : List Int) : List Value := zs.map (Value.int .i32)
theorem i32s_snoc (zs : List Int) (z : Int) : i32s (zs ++ [z]) = i32s zs ++ [.int .i32 z] := by simp [i32s]

theorem str_app' (a b : List UInt8) : str (a ++ b) = str a ++ str b := by
  apply ByteArray.ext; apply Array.ext'; simp [str, ByteArray.data_append]
/-- 'Put', behind a name for the text. -/
theorem put_name (r : Int) (h0 : -2147483648 ≤ r) (h1 : r ≤ 2147483647) (p : ByteArray) (n : Int) (hp : p = str (putS r)) (hn : n = putE r) (w : World) :
    Calls Tryd.prog 18 #[.int .i32 r] w (fun e w' => e = .returned (.tuple #[.string p, .int .i64 n]) ∧ Below w.heap.size w w') := by
  subst hp hn; exact put_any r h0 h1 w

theorem boxed_below {W W' : World} {B b : Nat} {t : TypeId} {v : Value} (h : Below B W W') (hB : b < B) (hx : Boxed W b t v) : Boxed W' b t v := (h.block b hB).trans hx
/-- What stands while the numbers are gone through. -/
def BackI (zs : List Int) (w : World) (n1 k : Nat) (s : Value) (W : World) : Prop :=
  s = .string (str (formsL (goodR (zs.take k)))) ∧ Boxed W w.heap.size 4 (.bool false) ∧
    (∃ ao cap, Boxed W n1 26 (.slice ao (goodR (zs.take k)).length cap) ∧ W.ownsRow (n1 + 1) 21 1 (.slice ao (goodR (zs.take k)).length cap) (goodR (zs.take k)).length (i32s (goodR (zs.take k)))) ∧ Below w.heap.size w W

theorem back_no {zs : List Int} {w wr w2 : World} {n1 k : Nat} {z : Int} {f : ByteArray} {g : List Int} {ao : Option Addr} {c : Nat} (hsn : zs.take (k + 1) = zs.take k ++ [z]) (hv : Lib.validRune z = false)
    (hf : str (formsL (goodR (zs.take k))) = f) (hg : goodR (zs.take k) = g) (hx0 : Boxed wr w.heap.size 4 (.bool false)) (hx1 : Boxed wr n1 26 (.slice ao g.length c))
    (ho : wr.ownsRow (n1 + 1) 21 1 (.slice ao g.length c) g.length (i32s g)) (hB : Below w.heap.size w wr) (hb2 : Below wr.heap.size wr w2) : BackI zs w n1 (k + 1) (.string f) w2 := by
  have hg' : goodR (zs.take (k + 1)) = g := by rw [hsn, goodR_snoc, hv, hg]; simp
  unfold BackI
  rw [hg', ← hf, hg]
  exact ⟨rfl, (hb2.block _ hx0.lt).trans hx0, ⟨ao, c, (hb2.block _ hx1.lt).trans hx1, own_below ho hb2⟩, hB.trans (hb2.mono hB.size)⟩

theorem back_yes {zs : List Int} {w w2 w3 : World} {n1 k : Nat} {z : Int} {f p : ByteArray} {g : List Int} {ao : Option Addr} {c gg cap3 : Nat} (hsn : zs.take (k + 1) = zs.take k ++ [z]) (hv : Lib.validRune z = true)
    (hf : str (formsL (goodR (zs.take k))) = f) (hg : goodR (zs.take k) = g) (hp : p = str (putS z)) (hx0 : Boxed w2 w.heap.size 4 (.bool false)) (hx1 : Boxed w2 n1 26 (.slice ao g.length c))
    (ho : w2.ownsRow (n1 + 1) 21 1 (.slice ao g.length c) g.length (i32s g)) (hB : Below w.heap.size w w2) (hs : w.heap.size + 1 ≤ n1)
    (hown : w3.ownsRow (n1 + 1) 21 1 (.slice (some ⟨gg, 0, none⟩) (g.length + 1) cap3) (g.length + 1) (i32s g ++ [.int .i32 z]))
    (hgrow : (w2.alloc (.cells #[.int .i32 z] 21)).drew.grownBy w3 (Value.slice ao g.length c).ownBlock) :
    BackI zs w n1 (k + 1) (.string (f ++ p)) (w3.setCell ⟨n1, 0, none⟩ (.slice (some ⟨gg, 0, none⟩) (g.length + 1) cap3)) := by
  have hg' : goodR (zs.take (k + 1)) = g ++ [z] := by rw [hsn, goodR_snoc, hv, hg]; simp
  have hrow : ∀ r, (Value.slice ao g.length c).ownBlock = some r → n1 + 1 ≤ r := fun r e => (ho.lt r e).1
  have hlt := hx1.lt
  have hx0' : Boxed w3 w.heap.size 4 (.bool false) := (hx0.alloc (.cells #[.int .i32 z] 21)).kept (W := (w2.alloc (.cells #[.int .i32 z] 21)).drew) hgrow (fun e => by have := hrow _ e.symm; omega)
  have hx1' : Boxed w3 n1 26 (.slice ao g.length c) := (hx1.alloc (.cells #[.int .i32 z] 21)).kept (W := (w2.alloc (.cells #[.int .i32 z] 21)).drew) hgrow (fun e => by have := hrow _ e.symm; omega)
  unfold BackI
  rw [hg']
  refine ⟨?_, boxed_far hx0' (by show w.heap.size ≠ n1; omega) _, ⟨some ⟨gg, 0, none⟩, cap3, ?_, ?_⟩, ?_⟩
  · rw [formsL_snoc, str_app', ← hf, hg, hp, putS_yes hv]
  · rw [List.length_append]; exact boxed_set hx1' _
  · rw [List.length_append, i32s_snoc]; exact own_setCell hown (by show n1 < n1 + 1; omega) _
  · exact (((hB.alloc hB.size _).drew).grown hgrow (by have := hB.size; simp; omega) (fun r e => by have := hrow r e; omega)).setCell (by show w.heap.size ≤ n1; omega) _

set_option maxRecDepth 100000 in
set_option maxHeartbeats 2000000 in
theorem foldBack_in (A : Option Addr) (n cap : Nat) (zs : List Int) (w : World) (hz : ∀ z ∈ zs, -2147483648 ≤ z ∧ z ≤ 2147483647) (hn : n * 4 ≤ 140737488351232) (hl : zs.length = n) (hr : Reads w w.heap.size 1 A n (i32s zs)) (hT : Tabs w) :
    CallsIn Fence.wide 6 Tryd.prog 8 #[.slice A n cap] w (TrueBelow w) := by
  have HT := Lib.hid hT; clear hT
  have HZ := Lib.hid hz; clear hz
  have HR := Lib.hid hr; clear hr
  have HL := Lib.hid hl; clear hl
  obtain ⟨i0, hi, hz0, hz1, hz2⟩ := info_parts infoI32
  refine callsIn_of_wp_marks Tryd.func8 rfl trivial ?_ rfl
  simp only [Tryd.ntmps8, List.size_toArray, List.length_cons, List.length_nil, Nat.reduceAdd, Nat.reduceSub, Array.replicate_succ, Array.replicate_zero, List.push_toArray, List.append_toArray, List.nil_append, List.cons_append]
  rw [wpIn_wide]
  go_wp2_with fail
  have hbA : Below w.heap.size w (w.alloc (.cells #[.bool false] 4)) := (Below.refl _ _).alloc (Nat.le_refl _) _
  have hxA := Boxed.new w 4 (.bool false)
  refine (known_any _ (HT.out.next hbA)).mono ?_
  rintro e w1 ⟨rfl, hb⟩
  have HB1 : Hid (Below w.heap.size w w1) := Lib.hid (hbA.trans (hb.mono (by simp)))
  have hs1 : w.heap.size + 1 ≤ w1.heap.size := by have := hb.size; simp at this; omega
  have hx0 : Boxed w1 w.heap.size 4 (.bool false) := (hb.block _ (by simp)).trans hxA
  clear hb hxA hbA
  go_wp2_with fail
  have hi0 : BackI zs w w1.heap.size 0 (.string ⟨#[]⟩) (w1.alloc (.cells #[.slice none 0 0] 26)) :=
    ⟨rfl, hx0.alloc _, ⟨none, 0, Boxed.new w1 26 (.slice none 0 0), World.ownsRow_nil _ _ _ _⟩, HB1.out.alloc (by omega) _⟩
  obtain ⟨n1, hn1⟩ : ∃ n1, w1.heap.size = n1 := ⟨_, rfl⟩
  obtain ⟨W0, hW0⟩ : ∃ W0, w1.alloc (.cells #[.slice none 0 0] 26) = W0 := ⟨_, rfl⟩
  simp only [hW0, hn1] at hi0 hs1 ⊢
  clear hW0 hx0 HB1 hn1
  clear w1
  have HI0 := Lib.hid hi0; clear hi0
  go_loopw [3, 5] (fun s i wr => ∃ k : Nat, k ≤ n ∧ i = .int .i64 k ∧ Hid (BackI zs w n1 k s wr)) (fun _ i _ => n - (RowKit.intOf i).toNat)
  case atStart => exact ⟨0, Nat.zero_le _, rfl, HI0⟩
  case round =>
    obtain ⟨k, hk, rfl, HI⟩ := hrel
    have hI := HI.out
    clear HI
    unfold BackI at hI
    obtain ⟨rfl, hx0, ⟨ao, c', hx1, ho⟩, hB⟩ := hI
    have hgl := goodR_len (zs.take k)
    have hfl := formsL_le (goodR (zs.take k))
    have htl : (zs.take k).length ≤ k := List.length_take_le _ _
    have hfs : (str (formsL (goodR (zs.take k)))).size ≤ 4 * k := by simp only [str, ByteArray.size, List.size_toArray]; omega
    obtain ⟨f, hf⟩ : ∃ f, str (formsL (goodR (zs.take k))) = f := ⟨_, rfl⟩
    obtain ⟨g, hg⟩ : ∃ g, goodR (zs.take k) = g := ⟨_, rfl⟩
    rw [hf] at hfs ⊢
    rw [hg] at hgl hx1 ho
    have HF := Lib.hid hf
    have HG := Lib.hid hg
    clear hf hfl hg
    have hgl : g.length ≤ k := by omega
    clear htl
    by_cases hlt : k < n
    · obtain ⟨z, hzk⟩ : ∃ z, zs[k]? = some z := ⟨zs[k]'(by have := HL.out; omega), List.getElem?_eq_getElem _⟩
      have hz := HZ.out z (List.mem_of_getElem? hzk)
      obtain ⟨hz1', hz2'⟩ := hz
      obtain ⟨ad, u, rfl, hab, hu, hc⟩ := HR.out.at_ hlt
      have hcell : wr.cell? (ad.add k) = some (.int .i32 z) := by
        rw [hB.cell (by rw [block_of_add]; exact hab), hc]
        simp only [i32s, List.getElem?_map, hzk, Option.map_some, Option.some.injEq] at hu
        rw [← hu]
      have hsn : zs.take (k + 1) = zs.take k ++ [z] := by rw [List.take_add_one, hzk]; rfl
      have HSN := Lib.hid hsn
      clear hsn hc hu hzk
      cases hv : Lib.validRune z with
      | false =>
        have HP := Lib.hid (fun w' => put_name z hz1' hz2' ⟨#[]⟩ 50 (by rw [putS_no hv]; rfl) (by rw [putE_no hv]) w')
        have hv' : z < 0 ∨ (55296 ≤ z ∧ z ≤ 57343) ∨ 1114111 < z := by unfold Lib.validRune at hv; rw [decide_eq_false_iff_not] at hv; omega
        have HV := Lib.hid hv
        clear hv
        go_wp2_with fail
        refine (HP.out _).mono ?_
        rintro e w2 ⟨rfl, hb2⟩
        have hcell2 : w2.cell? (ad.add k) = some (.int .i32 z) := (hb2.cell (by rw [block_of_add]; have := hB.size; omega)).trans hcell
        have HB2 := Lib.hid hb2; clear hb2
        rcases hv' with h1 | h1 | h1
        · have d1 : decide (0 ≤ z) = false := by rw [decide_eq_false_iff_not]; omega
          go_wp2_with fail
          go_roundw
          case rel => exact ⟨k + 1, by omega, by go_num, Lib.hid (back_no HSN.out HV.out HF.out HG.out hx0 hx1 ho hB HB2.out)⟩
          case measure => simp [RowKit.intOf]; omega
        · have d1 : decide (0 ≤ z) = true := by rw [decide_eq_true_eq]; omega
          have d2 : decide (z ≤ 1114111) = true := by rw [decide_eq_true_eq]; omega
          have d3 : decide (z < 55296) = false := by rw [decide_eq_false_iff_not]; omega
          have d4 : decide (57343 < z) = false := by rw [decide_eq_false_iff_not]; omega
          go_wp2_with fail
          go_roundw
          case rel => exact ⟨k + 1, by omega, by go_num, Lib.hid (back_no HSN.out HV.out HF.out HG.out hx0 hx1 ho hB HB2.out)⟩
          case measure => simp [RowKit.intOf]; omega
        · have d1 : decide (0 ≤ z) = true := by rw [decide_eq_true_eq]; omega
          have d2 : decide (z ≤ 1114111) = false := by rw [decide_eq_false_iff_not]; omega
          go_wp2_with fail
          go_roundw
          case rel => exact ⟨k + 1, by omega, by go_num, Lib.hid (back_no HSN.out HV.out HF.out HG.out hx0 hx1 ho hB HB2.out)⟩
          case measure => simp [RowKit.intOf]; omega
      | true =>
        obtain ⟨p, hp⟩ : ∃ p, p = str (putS z) := ⟨_, rfl⟩
        have hpl : p.size ≤ 4 := by
          rw [hp, putS_yes hv]; have := encodeRuneZ_length z; simp [str, ByteArray.size, encodeRune]; omega
        have HP := Lib.hid (fun w' => put_name z hz1' hz2' p 0 hp (by rw [putE_yes hv]) w')
        have HPE := Lib.hid hp; clear hp
        have hv' : (0 ≤ z ∧ z < 55296) ∨ (57343 < z ∧ z ≤ 1114111) := (valid_iff z).1 hv
        have HV := Lib.hid hv
        clear hv
        go_wp2_with fail
        refine (HP.out _).mono ?_
        rintro e w2 ⟨rfl, hb2⟩
        have hcell2 : w2.cell? (ad.add k) = some (.int .i32 z) := (hb2.cell (by rw [block_of_add]; have := hB.size; omega)).trans hcell
        have hy0 : Boxed w2 w.heap.size 4 (.bool false) := (hb2.block _ hx0.lt).trans hx0
        have hy1 : Boxed w2 n1 26 (.slice ao g.length c') := (hb2.block _ hx1.lt).trans hx1
        have ho2 := own_below ho hb2
        have hB2 := hB.trans (hb2.mono hB.size)
        have hs2 : n1 < w2.heap.size := by have := hx1.lt; have := hb2.size; omega
        clear hcell hb2 hx0 hx1 ho hB
        have d1 : decide (0 ≤ z) = true := by rw [decide_eq_true_eq]; omega
        have d2 : decide (z ≤ 1114111) = true := by rw [decide_eq_true_eq]; omega
        rcases hv' with h1 | h1
        case' inl => have d3 : decide (z < 55296) = true := by rw [decide_eq_true_eq]; omega
        case' inr =>
          have d3 : decide (z < 55296) = false := by rw [decide_eq_false_iff_not]; omega
          have d4 : decide (57343 < z) = true := by rw [decide_eq_true_eq]; omega
        all_goals
          go_wp2_with fail
          have ag : (Value.slice ao g.length c').ownBlock ≠ some n1 := fun e => by have := (ho2.lt n1 e).1; omega
          have ak : (Value.slice ao g.length c').ownBlock ≠ some ad.block := fun e => by have := (ho2.lt _ e).1; omega
          have h63 : g.length + 1 ≤ maxLen := by unfold maxLen; omega
          have hby : (g.length + 1) * 4 ≤ 140737488355328 := by omega
          have c1 := hy1.cell
          have c1f := hy1.frozen
          have c1g := (hy1.alloc (.cells #[.int .i32 z] 21)).frozen
          refine wp_region_noPanic ?_
          go_region_law ((refine step_append_lies _ (by rfl) _ _ _ (by rfl) (n1 + 1) 21 i0 _ 1 4 Tryd.underlying26 hi hz0 hz1 hz2 rfl (by omega) (.slice ao g.length c') g.length (i32s g) (by rfl) ((ho2.alloc _).drew) ⟨w2.heap.size, 0, none⟩ 1 1 [.int .i32 z] (by rfl) (by rfl) (World.news_of_block (cs := #[.int .i32 z]) (t := 21) (fr := (0, 0)) (heap_alloc_new w2 _)) (by simp [Value.oneCell']) (by omega) h63 hby (by simp; omega) (w2.heap.size + 1) (by simp) ?_; intro gg cap3 w3 hown3 hgrow3 hat hlt3; have h3c : w3.cell? ⟨n1, 0, none⟩ = some (.slice ao g.length c') := (hgrow3.cell_far _ (by simp; omega) (Ne.symm ag)).trans (hy1.alloc (.cells #[.int .i32 z] 21)).cell; have h3f : w3.frozen? ⟨n1, 0, none⟩ = false := (hgrow3.frozen_far _ (by simp; omega) (Ne.symm ag)).trans (hy1.alloc (.cells #[.int .i32 z] 21)).frozen))
          all_goals
            refine NoPanic.normal ?_
            have hfin : BackI zs w n1 (k + 1) (.string (f ++ p)) (w3.setCell ⟨n1, 0, none⟩ (.slice (some ⟨gg, 0, none⟩) (g.length + 1) cap3)) := back_yes HSN.out HV.out HF.out HG.out HPE.out hy0 hy1 ho2 hB2 hs1 hown3 hgrow3
            have HFIN := Lib.hid hfin
            clear hfin hown3 hgrow3 hat hlt3 h3c h3f
            go_wp2_with fail
            go_roundw
            case rel => exact ⟨k + 1, by omega, by go_num, HFIN⟩
            case measure => simp [RowKit.intOf]; omega
    · obtain rfl : k = n := by omega
      have hgz : goodR zs = g := by rw [← HG.out, List.take_of_length_le (by have := HL.out; omega)]
      have hfz : f = str (formsL g) := by rw [← HF.out, HG.out]
      have hrf := runes_forms g 0 (by rw [← hgz]; exact goodR_ok zs)
      have HRF : Hid ((runesL f.data.toList).map (·.2) = g ∧ validD f.data.toList = true) := by rw [hfz]; exact Lib.hid hrf
      have hfs2 : f.size ≤ 9223372036854775807 := by omega
      clear hgz hfz hrf HF HG HR HZ HL
      go_wp2_with fail
      refine (callsIn_wide.1 (runes_in 6 f _)).mono ?_
      rintro e w' ⟨rfl, rfl⟩
      go_wp2_with fail
      have y0 := (hx0.alloc (.cells #[.int .i64 0] 3)).alloc (.cells #[.string f] 9)
      have y1 := (hx1.alloc (.cells #[.int .i64 0] 3)).alloc (.cells #[.string f] 9)
      have y2 := (Boxed.new wr 3 (.int .i64 0)).alloc (.cells #[.string f] 9)
      have y3 := Boxed.new (wr.alloc (.cells #[.int .i64 0] 3)) 9 (.string f)
      have yo := (ho.alloc (.cells #[.int .i64 0] 3)).alloc (.cells #[.string f] 9)
      have yB := (hB.alloc hB.size (.cells #[.int .i64 0] 3)).alloc (by have := hB.size; simp; omega) (.cells #[.string f] 9)
      have hsz : ((wr.alloc (.cells #[.int .i64 0] 3)).alloc (.cells #[.string f] 9)).heap.size = wr.heap.size + 2 := by simp
      have hgl2 : ∀ r, (Value.slice ao g.length c').ownBlock = some r → r < wr.heap.size := fun r e => (ho.lt r e).2
      have hl1 := hx1.lt
      simp only [World.size_alloc] at y3
      obtain ⟨V0, hV0⟩ : ∃ V0, ((wr.alloc (.cells #[.int .i64 0] 3)).alloc (.cells #[.string f] 9)) = V0 := ⟨_, rfl⟩
      obtain ⟨n2, hn2⟩ : ∃ n2, wr.heap.size = n2 := ⟨_, rfl⟩
      simp only [hV0, hn2] at y0 y1 y2 y3 yo yB hsz hgl2 hl1 ⊢
      clear hx0 hx1 ho hB hV0 hn2
      clear wr
      have hT1 : Tabs V0 := HT.out.next yB
      have h2w : 2 ≤ w.heap.size := HT.out.2
      rw [← wpIn_wide (n := 6)]
      refine' wpIn_rangeFunc_ownF rfl (by omega) (gf := 27) (lb := #[.pointer (some ⟨n2 + 1, 0, none⟩)]) rfl trivial (enters_of Tryd.func27 (by kernel_rfl) rfl)
        (runes_stops (n2 + 1) f hfs2 V0 y3 hT1) KpR.trans (kpR_b (by omega) (by omega)) (Below.refl _ _) (fun _ => rfl)
        (fun pre W => Boxed W w.heap.size 4 (.bool false) ∧ Boxed W n1 26 (.slice ao g.length c') ∧ Boxed W n2 3 (.int .i64 (pre.length : Int)) ∧ W.ownsRow (n1 + 1) 21 1 (.slice ao g.length c') g.length (i32s g) ∧ Below w.heap.size w W)
        (fun c pre W => ∃ pre' x, pre = pre' ++ [x] ∧ g[pre'.length]? ≠ some x.1.2)
        (fun pre A B row hI hg hr => ⟨hI.1.kept hg (fun e => by have := (hr _ e.symm).1; omega), hI.2.1.kept hg (fun e => by have := (hr _ e.symm).1; omega), hI.2.2.1.kept hg (fun e => by have := (hr _ e.symm).1; omega),
          own_cells_kept hI.2.2.2.1 hg (fun r e => by obtain ⟨_, o, ho, hc⟩ := hr r e; exact ⟨o, ho, fun c t fz e => by subst e; cases hc⟩),
          hI.2.2.2.2.grown hg hI.2.2.2.2.size (fun k e => by have := (hr k e).1; omega)⟩)
        (fun c pre A B row hI _ _ => hI)
        ⟨y0, y1, y2, yo, yB⟩ _ ?_ ?_ ?_ ?_
      rotate_left
      · intro l x W K hK
        dsimp only [encR]
        gi_wp2
        exact hK
      · rintro l0 pre x W ⟨hx0, hx1, hx4, ho, hB⟩ hlt
        have hn1 : (runesL f.data.toList).length ≤ 9223372036854775806 := by have := congrArg List.length HRF.out.1; simp at this; omega
        have k0 := hx0.cell
        have k0f := hx0.frozen
        have k1 := hx1.cell
        have k4 := hx4.cell
        have k4f := hx4.frozen
        have HO := Lib.hid ho
        have hfar : (Value.slice ao g.length c').ownBlock ≠ some n2 := fun e => by have := hgl2 n2 e; omega
        have fin : ∀ v, v = Value.int .i64 (((pre ++ [x]).length : Nat) : Int) → KeepsOthers W (W.setCell ⟨n2, 0, none⟩ v) ∧ KpR (n2 + 1) W (W.setCell ⟨n2, 0, none⟩ v) ∧ Boxed (W.setCell ⟨n2, 0, none⟩ v) w.heap.size 4 (.bool false) ∧ Boxed (W.setCell ⟨n2, 0, none⟩ v) n1 26 (.slice ao g.length c') ∧ Boxed (W.setCell ⟨n2, 0, none⟩ v) n2 3 (.int .i64 ((pre ++ [x]).length : Int)) ∧
            (W.setCell ⟨n2, 0, none⟩ v).ownsRow (n1 + 1) 21 1 (.slice ao g.length c') g.length (i32s g) ∧ Below w.heap.size w (W.setCell ⟨n2, 0, none⟩ v) := by
          rintro v rfl
          exact ⟨KeepsOthers.setCell _ _ _, ⟨(Below.refl _ _).setCell (by show 2 ≤ n2; omega) _, Below.heap_setCell _ _ _ _ (by show n2 + 1 ≠ n2; omega)⟩, boxed_far hx0 (by show w.heap.size ≠ n2; omega) _, boxed_far hx1 (by show n1 ≠ n2; omega) _, boxed_set hx4 _,
            own_setCell_ne HO.out hfar _, hB.setCell (by show w.heap.size ≤ n2; omega) _⟩
        have FIN := Lib.hid fin
        by_cases hlt2 : pre.length < g.length
        · obtain ⟨y, hy⟩ : ∃ y, g[pre.length]? = some y := ⟨_, List.getElem?_eq_getElem hlt2⟩
          obtain ⟨gg, rfl, hg, _, hc⟩ := own_cell ho hlt2
          have hd : W.cell? ⟨gg, pre.length, none⟩ = some (.int .i32 y) := hc pre.length _ (by simp [i32s, hy])
          have hltb : decide (g.length ≤ pre.length) = false := by simpa using hlt2
          have HY := Lib.hid hy
          clear hc ho fin hfar hgl2 hy
          by_cases he : x.1.2 = y
          · have hpb : (x.1.2 != y) = false := by rw [he]; simp
            clear he
            gi_wp2_with fail
            exact FIN.out _ (by simp)
          · have hpb : (x.1.2 != y) = true := by rw [bne_iff_ne]; exact he
            have HE := Lib.hid he; clear he
            gi_wp2_with fail
            exact ⟨KeepsOthers.setCell _ _ _, pre, x, rfl, fun e => HE.out (by rw [HY.out] at e; exact (Option.some.inj e).symm)⟩
        · have hltb : decide (g.length ≤ pre.length) = true := by simp; omega
          have HLT := Lib.hid hlt2
          clear ho fin hfar hgl2 hlt2
          gi_wp2_with fail
          exact ⟨KeepsOthers.setCell _ _ _, pre, x, rfl, fun e => HLT.out (List.getElem?_eq_some_iff.1 e).1⟩
      · rintro D ys W hD hall ⟨hx0, hx1, hx4, ho, hB⟩ hK
        have hyl : ys.length = g.length := by
          have h1 : ys.map (·.1) = runesL f.data.toList := hall
          have h2 := congrArg List.length HRF.out.1
          rw [← h1] at h2; simpa using h2
        have hgeb : ((ys.length : Int) == (g.length : Int)) = true := by rw [hyl, beq_iff_eq]
        have k0 := hx0.cell
        have k0f := hx0.frozen
        have k1 := hx1.cell
        have k4 := hx4.cell
        clear hall
        go_wp2_with fail
        refine (valid_any f W hfs2 (HT.out.next hB)).mono ?_
        rintro e W2 ⟨rfl, hb2⟩
        have hbv : validD f.data.toList = true := HRF.out.2
        have z0 := boxed_below hb2 hx0.lt hx0
        have hK2 : W2.heap[D]? = some (.deferred (some [])) := (hb2.block D (Array.getElem?_eq_some_iff.1 hK).1).trans hK
        have hBB := hB.trans (hb2.mono hB.size)
        clear hx0 hx1 hx4 ho k0 k0f k1 k4 hK hb2 hB
        have k0 := z0.cell
        have k0f := z0.frozen
        rw [hbv]
        clear hbv hgeb
        go_wp2_with fail
        have hK3 := (KeepsOthers.setCell W2 ⟨w.heap.size, 0, none⟩ (.bool true)).same D _ hK2 rfl
        refine ⟨by simp, .inl ⟨_, _, rfl, run_takeDeferred hK3, ?_⟩⟩
        have hc5 := cell_kept (World.cell?_setCell_same' W2 ⟨w.heap.size, 0, none⟩ (.bool true) (by rw [k0]; rfl)) (grownBy_putObj' _ D (.deferred none)) (fun r e => by cases e; exact ⟨_, hK3, rfl⟩)
        refine ⟨.bool true, ?_, rfl, (hBB.setCell (p := ⟨w.heap.size, 0, none⟩) (Nat.le_refl _) _).trans (belowK_b (w := w) (Nat.le_refl _) _ D _ _ (by omega) hK3 rfl rfl)⟩
        simp [results, Tryd.f8, go_sem, hc5]
      · rintro D c pre W hD hp ⟨pre', x, rfl, hne⟩ _
        obtain ⟨rest, hr⟩ := hp
        have h2 := congrArg (fun l => (l.map (·.2))[pre'.length]?) hr
        have h3 : ((pre' ++ [x]).map (·.1) ++ rest).map (·.2) = pre'.map (·.1.2) ++ (x.1.2 :: rest.map (·.2)) := by simp
        have h4 : (((pre' ++ [x]).map (·.1) ++ rest).map (·.2))[pre'.length]? = some x.1.2 := by
          rw [h3, List.getElem?_append_right (by simp)]
          simp
        have h5 : g[pre'.length]? = some x.1.2 := by
          have h6 : ((runesL f.data.toList).map (·.2))[pre'.length]? = some x.1.2 := h2.symm.trans h4
          rw [HRF.out.1] at h6; exact h6
        exact (hne h5).elim
theorem foldBack_walk (A : Option Addr) (n cap : Nat) (zs : List Int) (w : World) (hz : ∀ z ∈ zs, -2147483648 ≤ z ∧ z ≤ 2147483647) (hn : n * 4 ≤ 140737488351232) (hl : zs.length = n) (hr : Reads w w.heap.size 1 A n (i32s zs)) (hT : Tabs w) :
    Calls Tryd.prog 8 #[.slice A n cap] w (TrueBelow w) := callsIn_wide.1 (foldBack_in A n cap zs w hz hn hl hr hT)
end Go.Proofs.YtdgmgedecnbmdaaDoor.FoldLaws
