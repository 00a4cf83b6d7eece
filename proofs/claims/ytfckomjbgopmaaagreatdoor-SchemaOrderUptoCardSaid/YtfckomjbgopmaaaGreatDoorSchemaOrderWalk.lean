/- The walk of SchemaOrder. Written by gen_schorder.py. -/
import Derived.Test.YtfckomjbgopmaaaGreatDoorPack50
import Derived.Deep.RegionHeld3
set_option linter.unusedVariables false
namespace Go.Proofs.YtfckomjbgopmaaaGreatDoor.SchemaOrderWalk
open Go.RowKit Words Tree SchP Kit Owned Sch AnaP

set_option maxRecDepth 100000 in
set_option maxHeartbeats 100000000 in
theorem walk (u x : Value) (l : List FT) (d : List ET) (turn : Int) (w : World) (hu : T.At bare w (fun g => g < w.heap.size) (fieldsT l) u) (hl : l.length * 72 ≤ 140737488351232) (okf : ∀ f ∈ l, FOk f)
    (hx : T.At bare w (fun g => g < w.heap.size) (entriesT d) x) (hd : d.length * 56 ≤ 140737488351232) (oke : ∀ e ∈ d, EOk e) (hes : ∀ e ∈ d, e.text.size < 4294967281) (htn : I64 turn) (hT : FoldNext.Tabs w) (hO : OrdLib.OTabs w) :
    Calls Tryz.prog 6 #[.agg #[u], .agg #[x], .int .i64 turn] w (AnsB true w) := by
  have hlt : ∀ {V : World} {g : Nat}, Below w.heap.size w V → g < w.heap.size → g < V.heap.size := fun hV hg => Nat.lt_of_lt_of_le hg hV.size
  have HKN := Lib.hid (fun (V : World) (hV : Below w.heap.size w V) => known_any V (hT.next hV) (hO.next hV))
  have HL1 := Lib.hid (fun (V : World) (hV : Below w.heap.size w V) => lentSchema_any u l V (At.below hu hV (fun g hg => hlt hV hg)) hl okf)
  have HL2 := Lib.hid (fun (V : World) (hV : Below w.heap.size w V) => lentDoc_any x d V (At.below hx hV (fun g hg => hlt hV hg)) hd oke)
  have HCC := Lib.hid (fun (vi vd : Value) (V : World) (hi : T.At bare V (fun g => g < V.heap.size) (fieldsT l) vi) (hdd : T.At bare V (fun g => g < V.heap.size) (entriesT d) vd) (hw : Below w.heap.size w V) => cells_any vi vd l d V hi hl okf hdd hd oke hes (hT.next hw) (hO.next hw))
  have HC2 := Lib.hid (fun (d' : List ET) (vd : Value) (V : World) (hdl : d'.length = d.length) (hdm : ∀ e ∈ d', e ∈ d) (hdd : T.At bare V (fun g => g < V.heap.size) (entriesT d') vd) (hw : Below w.heap.size w V) => cells_any u vd l d' V (At.below hu hw (fun g hg => hlt hw hg)) hl okf hdd (by rw [hdl]; exact hd) (fun e he => oke e (hdm e he)) (fun e he => hes e (hdm e he)) (hT.next hw) (hO.next hw))
  have HOK := okC_ok (d := d) hl oke
  have HOK2 := Lib.hid (fun (d' : List ET) (hdm : ∀ e ∈ d', e ∈ d) => okC_ok (d := d') hl (fun e he => oke e (hdm e he)))
  obtain ⟨r, hr⟩ : ∃ r, cellsF decO runO l d = r := ⟨_, rfl⟩
  rw [hr] at HCC HOK
  have HR := Lib.hid hr
  have HCO := Lib.hid HOK
  obtain ⟨A, cA, rfl, _, _⟩ := at_slice hu
  obtain ⟨D, cD, vs, hxe, hcD, hmD, hrd, hax⟩ := At.reads hx
  subst hxe
  have HRX := Lib.hid hrd; have HAX := Lib.hid hax
  clear hu hx hlt hT hO hr HOK hrd hax
  go_enter Tryz.func6, Tryz.ntmps6
  go_wp2_with fail
  have hB0 := below2 (w := w) (.cells #[.slice A l.length cA] 24) (.cells #[.slice D d.length cD] 30)
  have BA0 := blk_a w #[.slice A l.length cA] #[.slice D d.length cD] 24 30
  have BB0 := blk_b w #[.slice A l.length cA] #[.slice D d.length cD] 24 30
  refine (HKN.out _ hB0).mono ?_
  rintro e W1 ⟨rfl, b1⟩
  have HB1 := Lib.hid (hB0.trans (b1.mono hB0.size))
  have BA1 := Lib.hid (BA0.below b1 BA0.lt); have BB1 := Lib.hid (BB0.below b1 BB0.lt)
  have q0 : W1.cell? ⟨w.heap.size, 0, none⟩ = some (.slice A l.length cA) := BA1.out.cell 0
  have q1 : W1.cell? ⟨w.heap.size + 1, 0, none⟩ = some (.slice D d.length cD) := BB1.out.cell 0
  clear b1 BA0 BB0 hB0 HKN
  go_upto_region 4 with fail
  clear q0 q1
  refine wp_region_held_drew (S := fun V => Below W1.heap.size W1 V) (by kernel_rfl) (Below.refl _ _).drew (fun hS0 => ?_)
  refine' wpAnyH_take (i := 0) (v := _) (by simp only [List.getElem?_toArray, List.getElem?_cons_zero]; rfl) (by kernel_rfl) (by kernel_rfl) (by kernel_rfl) (by exact fun _ _ _ h => h) (Or.inl ⟨by rfl, ?hma0⟩) hS0 ?rma0
  case hma0 => intro V hSw; have fq : V.cell? ⟨w.heap.size, 0, none⟩ = some (.slice A l.length cA) := (BA1.out.below hSw BA1.out.lt).cell 0; clear hSw; go_simp; try with_reducible rfl
  try simp only [Act.put, List.setIfInBounds_toArray, List.set_cons_zero, List.set_cons_succ]
  refine' wpAnyH_take (i := 2) (v := _) (by simp only [List.getElem?_toArray, List.getElem?_cons_succ, List.getElem?_cons_zero]; rfl) (by kernel_rfl) (by kernel_rfl) (by kernel_rfl) (by exact fun _ _ _ h => h) (Or.inl ⟨by rfl, ?hma2⟩) hS0 ?rma2
  case hma2 => intro V hSw; have fq : V.cell? ⟨w.heap.size + 1, 0, none⟩ = some (.slice D d.length cD) := (BB1.out.below hSw BB1.out.lt).cell 0; clear hSw; go_simp; try with_reducible rfl
  try simp only [Act.put, List.setIfInBounds_toArray, List.set_cons_zero, List.set_cons_succ]
  refine wpAnyH_ready (rs := [1]) (by kernel_rfl) (by simp) ?_
  refine' AllReadyH.cons (by simp only [List.getElem?_toArray, List.getElem?_cons_succ, List.getElem?_cons_zero]; rfl) (fun K hK => ?_) AllReadyH.nil
  go_simp
  refine (HL1.out _ (HB1.out.trans (hS0.mono HB1.out.size))).mono ?_
  rintro e V1 ⟨vi, rfl, ai, hb⟩
  have hS1 : Below W1.heap.size W1 V1 := hS0.trans (hb.mono hS0.size)
  obtain ⟨L, c1, rfl, _, _⟩ := at_slice ai
  have AI := Lib.hid (At.keep (S' := fun g => g < V1.heap.size) (fun _ _ => rfl) (fun g h => h.2) ai)
  clear hb ai
  go_simp
  refine hK.out _ _ hS1 (fun hT1 => ?_)
  clear hT1 hK K
  try simp only [Act.put, List.setIfInBounds_toArray, List.set_cons_zero, List.set_cons_succ]
  refine wpAnyH_ready (rs := [3]) (by kernel_rfl) (by simp) ?_
  refine' AllReadyH.cons (by simp only [List.getElem?_toArray, List.getElem?_cons_succ, List.getElem?_cons_zero]; rfl) (fun K hK => ?_) AllReadyH.nil
  go_simp
  refine (HL2.out _ (HB1.out.trans (hS1.mono HB1.out.size))).mono ?_
  rintro e V2 ⟨vd, rfl, ad, hb⟩
  have hS2 : Below W1.heap.size W1 V2 := hS1.trans (hb.mono hS1.size)
  obtain ⟨M, c2, rfl, _, _⟩ := at_slice ad
  have HQ := Lib.hid (HCC.out _ _ V2 (At.below (S' := fun g => g < V2.heap.size) (At.bare AI.out) hb (fun g hg => Nat.lt_of_lt_of_le hg hb.size)) (At.bare (At.keep (S' := fun g => g < V2.heap.size) (fun _ _ => rfl) (fun g h => h.2) ad)) (HB1.out.trans (hS2.mono HB1.out.size)))
  clear hb ad AI
  go_simp
  refine hK.out _ _ hS2 (fun hT2 => ?_)
  clear hT2 hK K
  try simp only [Act.put, List.setIfInBounds_toArray, List.set_cons_zero, List.set_cons_succ]
  refine wpAnyH_ready (rs := [4]) (by kernel_rfl) (by simp) ?_
  refine' AllReadyH.cons (by simp only [List.getElem?_toArray, List.getElem?_cons_succ, List.getElem?_cons_zero]; rfl) (fun K hK => ?_) AllReadyH.nil
  go_simp
  refine HQ.out.mono ?_
  intro e W2 h2
  obtain ⟨vc, rfl, gc, hb⟩ := bothC h2
  obtain ⟨C, cc, rfl, _, _⟩ := at_slice gc
  have hS3 : Below W1.heap.size W1 W2 := hS2.trans (hb.mono hS2.size)
  have HVC := Lib.hid (At.keep (S' := fun g => g < W2.heap.size) (fun _ _ => rfl) (fun g h => h.2.lt) gc)
  clear hb gc h2 HQ
  go_simp
  refine hK.out _ _ hS3 (fun hT3 => ?_)
  clear hT3 hK K
  try simp only [Act.put, List.setIfInBounds_toArray, List.set_cons_zero, List.set_cons_succ]
  refine' wpAnyH_take (i := 5) (v := _) (by simp only [List.getElem?_toArray, List.getElem?_cons_succ, List.getElem?_cons_zero]; rfl) (by kernel_rfl) (by kernel_rfl) (by kernel_rfl) (by exact fun _ _ _ h => h) (Or.inl ⟨by rfl, ?hmb5⟩) hS3 ?rmb5
  case hmb5 => intro V hSw; clear hSw; go_simp; try with_reducible rfl
  try simp only [Act.put, List.setIfInBounds_toArray, List.set_cons_zero, List.set_cons_succ]
  refine' wpAnyH_take (i := 6) (v := _) (by simp only [List.getElem?_toArray, List.getElem?_cons_succ, List.getElem?_cons_zero]; rfl) (by kernel_rfl) (by kernel_rfl) (by kernel_rfl) (by exact fun _ _ _ h => h) (Or.inl ⟨by rfl, ?hmb6⟩) hS3 ?rmb6
  case hmb6 => intro V hSw; clear hSw; go_simp; try with_reducible rfl
  try simp only [Act.put, List.setIfInBounds_toArray, List.set_cons_zero, List.set_cons_succ]
  refine' wpAnyH_take (i := 7) (v := _) (by simp only [List.getElem?_toArray, List.getElem?_cons_succ, List.getElem?_cons_zero]; rfl) (by kernel_rfl) (by kernel_rfl) (by kernel_rfl) (by exact fun _ _ _ h => h) (Or.inl ⟨by rfl, ?hmb7⟩) hS3 ?rmb7
  case hmb7 => intro V hSw; clear hSw; go_simp; try with_reducible rfl
  try simp only [Act.put, List.setIfInBounds_toArray, List.set_cons_zero, List.set_cons_succ]
  refine' wpAnyH_take (i := 8) (v := _) (by simp only [List.getElem?_toArray, List.getElem?_cons_succ, List.getElem?_cons_zero]; rfl) (by kernel_rfl) (by kernel_rfl) (by kernel_rfl) (by exact fun _ _ _ h => h) (Or.inl ⟨by rfl, ?hmb8⟩) hS3 ?rmb8
  case hmb8 => intro V hSw; clear hSw; go_simp; try with_reducible rfl
  try simp only [Act.put, List.setIfInBounds_toArray, List.set_cons_zero, List.set_cons_succ]
  refine' wpAnyH_take (i := 9) (v := _) (by simp only [List.getElem?_toArray, List.getElem?_cons_succ, List.getElem?_cons_zero]; rfl) (by kernel_rfl) (by kernel_rfl) (by kernel_rfl) (by exact fun _ _ _ h => h) (Or.inl ⟨by rfl, ?hmb9⟩) hS3 ?rmb9
  case hmb9 => intro V hSw; clear hSw; go_simp; try with_reducible rfl
  try simp only [Act.put, List.setIfInBounds_toArray, List.set_cons_zero, List.set_cons_succ]
  refine wpAnyH_done (by kernel_rfl) ?_ _
  have HB2 := Lib.hid (HB1.out.trans (hS3.mono HB1.out.size))
  have BA2 := Lib.hid (BA1.out.below hS3 BA1.out.lt); have BB2 := Lib.hid (BB1.out.below hS3 BB1.out.lt)
  clear hS0 hS1 hS2 hS3 HB1 BA1 BB1 HL1 HL2 HCC
  by_cases hd0 : d.length = 0
  · have hde : d = [] := List.eq_nil_of_length_eq_zero hd0
    have hz : ((okC r).length : Int) = 0 := by
      have := HR.out
      rw [hde] at this
      cases r with
      | error n => rfl
      | ok cs => have := cellsF_len this; simp [okC] at this ⊢; exact this
    have hz1 : (((okC r).length : Int) == 0) = true := by rw [hz]; rfl
    have hz2 : ((d.length : Int) == 0) = true := by rw [hd0]; rfl
    clear hde hd0 hz
    go_wp2_with fail
    go_ret
    exact ⟨by simp, HB2.out⟩
  have hz2 : ((d.length : Int) == 0) = false := by simpa using hd0
  have hdp : 0 < d.length := by omega
  have hm1 : turn.tmod d.length < d.length := Int.tmod_lt_of_pos _ (by omega)
  have hm2 : -(d.length : Int) < turn.tmod d.length := by
    have := Int.lt_tmod_of_pos turn (b := (d.length : Int)) (by omega)
    exact this
  clear hd0
  rcases (show 0 ≤ turn.tmod d.length ∨ turn.tmod d.length < 0 by omega) with hs | hs
  · obtain ⟨k, hk⟩ : ∃ k : Nat, turn.tmod d.length = (k : Int) := ⟨(turn.tmod d.length).toNat, by omega⟩
    have hsn : decide ((k : Int) < 0) = false := decide_eq_false (by omega)
    have hkl : k < d.length := by omega
    rw [hk] at hm1 hm2 hs
    have hkc : (k : Int) ≤ (cD : Int) := by omega
    have hkd : (k : Int) ≤ (d.length : Int) := by omega
    have hkn : ¬ cD = k := by omega
    have hk0 : (0 : Int) ≤ (k : Int) := by omega
    have hkz : ¬ cD = 0 := by omega
    have hsum : d.length - k + k = d.length := by omega
    obtain ⟨ad, hDe, hadb, hcells⟩ := HRX.out.2 hdp
    subst hDe
    go_upto_region 11 with fail
    have hb5 : Below W2.heap.size W2 (W2.alloc (.cells #[.slice none 0 0] 30)) := (Below.refl _ _).alloc (Nat.le_refl _) _
    have BT5 := Lib.hid (Blk.new W2 30 #[.slice none 0 0])
    generalize W2.alloc (.cells #[.slice none 0 0] 30) = W5 at *
    have HB5 := Lib.hid hb5
    have hz5 : W2.heap.size < W5.heap.size := BT5.out.lt
    have cT : W5.cell? ⟨W2.heap.size, 0, none⟩ = some (.slice none 0 0) := BT5.out.cell 0
    have HRP : Hid (Reads w w.heap.size 3 (some (ad.add (k * 3))) (d.length - k) (vs.drop (k * 3))) := Lib.hid (by
      have := Reads.cut HRX.out (k := k) (by omega) hcD
      rw [if_neg hkn] at this
      exact this)
    have HRQ : Hid (Reads w w.heap.size 3 (some ad) k (vs.take (k * 3))) := Lib.hid (reads_part HRX.out (by omega))
    have HP := Lib.hid (atL_parts ecells_len HAX.out (k := k) (by omega))
    clear hb5 hcells
    refine wp_region_held_drew (S := fun V => Below W2.heap.size W2 V) (by kernel_rfl) (HB5.out).drew (fun hS0 => ?_)
    refine' wpAnyH_take (i := 0) (v := _) (by simp only [List.getElem?_toArray, List.getElem?_cons_zero]; rfl) (by kernel_rfl) (by kernel_rfl) (by kernel_rfl) (by exact fun _ _ _ h => h) (Or.inl ⟨by rfl, ?hmpa0⟩) hS0 ?rmpa0
    case hmpa0 => intro V hSw; clear hSw; go_simp; try with_reducible rfl
    try simp only [Act.put, List.setIfInBounds_toArray, List.set_cons_zero, List.set_cons_succ]
    refine' wpAnyH_take (i := 2) (v := _) (by simp only [List.getElem?_toArray, List.getElem?_cons_succ, List.getElem?_cons_zero]; rfl) (by kernel_rfl) (by kernel_rfl) (by kernel_rfl) (by exact fun _ _ _ h => h) (Or.inl ⟨by rfl, ?hmpa2⟩) hS0 ?rmpa2
    case hmpa2 => intro V hSw; clear hSw; go_simp; try with_reducible rfl
    try simp only [Act.put, List.setIfInBounds_toArray, List.set_cons_zero, List.set_cons_succ]
    refine' wpAnyH_take (i := 3) (v := _) (by simp only [List.getElem?_toArray, List.getElem?_cons_succ, List.getElem?_cons_zero]; rfl) (by kernel_rfl) (by kernel_rfl) (by kernel_rfl) (by exact fun _ _ _ h => h) (Or.inl ⟨by rfl, ?hmpa3⟩) hS0 ?rmpa3
    case hmpa3 => intro V hSw; have fq : V.cell? ⟨w.heap.size + 1, 0, none⟩ = some (.slice (some ad) d.length cD) := (BB2.out.below hSw BB2.out.lt).cell 0; clear hSw; go_simp; try with_reducible rfl
    try simp only [Act.put, List.setIfInBounds_toArray, List.set_cons_zero, List.set_cons_succ]
    refine' wpAnyH_take (i := 4) (v := _) (by simp only [List.getElem?_toArray, List.getElem?_cons_succ, List.getElem?_cons_zero]; rfl) (by kernel_rfl) (by kernel_rfl) (by kernel_rfl) (by exact fun _ _ _ h => h) (Or.inl ⟨by rfl, ?hmpa4⟩) hS0 ?rmpa4
    case hmpa4 => intro V hSw; clear hSw; go_simp; try with_reducible rfl
    try simp only [Act.put, List.setIfInBounds_toArray, List.set_cons_zero, List.set_cons_succ]
    refine' wpAnyH_take (i := 5) (v := _) (by simp only [List.getElem?_toArray, List.getElem?_cons_succ, List.getElem?_cons_zero]; rfl) (by kernel_rfl) (by kernel_rfl) (by kernel_rfl) (by exact fun _ _ _ h => h) (Or.inl ⟨by rfl, ?hmpa5⟩) hS0 ?rmpa5
    case hmpa5 => intro V hSw; clear hSw; go_simp; try with_reducible rfl
    try simp only [Act.put, List.setIfInBounds_toArray, List.set_cons_zero, List.set_cons_succ]
    refine wpAnyH_ready (rs := [1]) (by kernel_rfl) (by simp) ?_
    refine' AllReadyH.cons (by simp only [List.getElem?_toArray, List.getElem?_cons_succ, List.getElem?_cons_zero]; rfl) (fun K hK => ?_) AllReadyH.nil
    go_simp
    refine hK.out _ _ hS0 (fun hS1 => ?_)
    clear hK K
    try simp only [Act.put, List.setIfInBounds_toArray, List.set_cons_zero, List.set_cons_succ]
    refine wpAnyH_ready (rs := [6]) (by kernel_rfl) (by simp) ?_
    refine' AllReadyH.cons (by simp only [List.getElem?_toArray, List.getElem?_cons_succ, List.getElem?_cons_zero]; rfl) (fun K hK => ?_) AllReadyH.nil
    obtain ⟨j0, hj1, hj2, hj3, hj4⟩ := info_parts infoE
    refine step_append_any _ rfl (.tmp 42) (.tmp 46) 28 rfl W5.heap.size 68 j0 _ 3 56 Tryz.underlying28 hj1 hj2 hj3 hj4 rfl (by decide) (.slice none 0 0) 0 [] rfl (World.ownsRow_nil _ _ _ _) w.heap.size (some (ad.add (k * 3))) (d.length - k) (cD - k) (vs.drop (k * 3)) rfl ?epa1 ?epa2 ?epa3 ?epa4 ?epa5 ?_
    case epa1 => exact ((HRP.out.below (HB2.out.trans (HB5.out.mono HB2.out.size))).drew)
    case epa2 => exact atL_one ecells_one _ HP.out.2
    case epa3 => unfold maxLen; omega
    case epa4 => omega
    case epa5 => exact Nat.le_refl _
    intro v1 w6 ho1 hg1 _
    replace ho1 : w6.ownsRow W5.heap.size 68 3 v1 (d.length - k) (vs.drop (k * 3)) := by simpa using ho1
    have HO1 := Lib.hid ho1
    have hS2 : Below W2.heap.size W2 w6 := hS0.grown hg1 (by show W2.heap.size ≤ W5.heap.size; omega) (fun r e => by simp [Value.ownBlock] at e)
    have HB6 : Hid (Below W5.heap.size W5 w6) := Lib.hid ((Below.refl _ W5).drew.grown hg1 (Nat.le_refl _) (fun r e => by simp [Value.ownBlock] at e))
    have BT6 := Lib.hid (BT5.out.below HB6.out hz5)
    obtain ⟨av, ac, rfl⟩ := own_sl ho1
    have cT6 : w6.cell? ⟨W2.heap.size, 0, none⟩ = some (.slice none 0 0) := BT6.out.cell 0
    have cF6 : w6.frozen? ⟨W2.heap.size, 0, none⟩ = false := BT6.out.frozen 0
    have hz6 : W2.heap.size < w6.heap.size := BT6.out.lt
    clear ho1 hg1 cT
    refine hK.out _ _ hS2 (fun hS3 => ?_)
    clear hS3 hK K
    try simp only [Act.put, List.setIfInBounds_toArray, List.set_cons_zero, List.set_cons_succ]
    refine' wpAnyH_take (i := 7) (v := _) (by simp only [List.getElem?_toArray, List.getElem?_cons_succ, List.getElem?_cons_zero]; rfl) (by kernel_rfl) (by kernel_rfl) (by kernel_rfl) (by exact fun _ _ _ h => h) (Or.inl ⟨by rfl, ?hmpax7⟩) hS2 ?rmpax7
    case hmpax7 => intro V hSw; clear hSw; go_simp; try with_reducible rfl
    try simp only [Act.put, List.setIfInBounds_toArray, List.set_cons_zero, List.set_cons_succ]
    refine wpAnyH_ready (rs := [8]) (by kernel_rfl) (by simp) ?_
    refine' AllReadyH.cons (by simp only [List.getElem?_toArray, List.getElem?_cons_succ, List.getElem?_cons_zero]; rfl) (fun K hK => ?_) AllReadyH.nil
    go_simp
    refine hK.out _ _ (hS2.setCell (Nat.le_refl W2.heap.size) _) (fun hS3 => ?_)
    try simp only [Act.put, List.setIfInBounds_toArray, List.set_cons_zero, List.set_cons_succ]
    refine wpAnyH_done (by kernel_rfl) ?_ _
    clear hK K hS1 hS2 hS0 cT6 cF6
    have BT7 : Hid (Blk (w6.setCell ⟨W2.heap.size, 0, none⟩ (.slice av (d.length - k) ac)) W2.heap.size 30 #[.slice av (d.length - k) ac]) := Lib.hid (BT6.out.set_ 0 _)
    have HB7 : Hid (Below W2.heap.size W2 (w6.setCell ⟨W2.heap.size, 0, none⟩ (.slice av (d.length - k) ac))) := Lib.hid hS3
    have HO7 : Hid ((w6.setCell ⟨W2.heap.size, 0, none⟩ (.slice av (d.length - k) ac)).ownsRow W5.heap.size 68 3 (.slice av (d.length - k) ac) (d.length - k) (vs.drop (k * 3))) := Lib.hid (HO1.out.kept (only_setCell (World.grownBy.refl w6 _) (.inl rfl) _) (.inr (own_blk_ne HO1.out BT6.out (by decide))))
    have hzb : W5.heap.size ≤ (w6.setCell ⟨W2.heap.size, 0, none⟩ (.slice av (d.length - k) ac)).heap.size := by simpa [World.setCell] using HB6.out.size
    clear hS3
    generalize w6.setCell ⟨W2.heap.size, 0, none⟩ (.slice av (d.length - k) ac) = W7 at *
    have hz7 : W2.heap.size < W7.heap.size := BT7.out.lt
    have cT7 : W7.cell? ⟨W2.heap.size, 0, none⟩ = some (.slice av (d.length - k) ac) := BT7.out.cell 0
    clear BT6 HO1 HB6 BT5
    go_upto_region 12 with fail
    refine wp_region_held_drew (S := fun V => Below W2.heap.size W2 V) (by kernel_rfl) (HB7.out).drew (fun hS0 => ?_)
    refine' wpAnyH_take (i := 0) (v := _) (by simp only [List.getElem?_toArray, List.getElem?_cons_zero]; rfl) (by kernel_rfl) (by kernel_rfl) (by kernel_rfl) (by exact fun _ _ _ h => h) (Or.inl ⟨by rfl, ?hmqa0⟩) hS0 ?rmqa0
    case hmqa0 => intro V hSw; clear hSw; go_simp; try with_reducible rfl
    try simp only [Act.put, List.setIfInBounds_toArray, List.set_cons_zero, List.set_cons_succ]
    refine' wpAnyH_take (i := 2) (v := _) (by simp only [List.getElem?_toArray, List.getElem?_cons_succ, List.getElem?_cons_zero]; rfl) (by kernel_rfl) (by kernel_rfl) (by kernel_rfl) (by exact fun _ _ _ h => h) (Or.inl ⟨by rfl, ?hmqa2⟩) hS0 ?rmqa2
    case hmqa2 => intro V hSw; clear hSw; go_simp; try with_reducible rfl
    try simp only [Act.put, List.setIfInBounds_toArray, List.set_cons_zero, List.set_cons_succ]
    refine' wpAnyH_take (i := 3) (v := _) (by simp only [List.getElem?_toArray, List.getElem?_cons_succ, List.getElem?_cons_zero]; rfl) (by kernel_rfl) (by kernel_rfl) (by kernel_rfl) (by exact fun _ _ _ h => h) (Or.inl ⟨by rfl, ?hmqa3⟩) hS0 ?rmqa3
    case hmqa3 => intro V hSw; have fq : V.cell? ⟨w.heap.size + 1, 0, none⟩ = some (.slice (some ad) d.length cD) := (BB2.out.below hSw BB2.out.lt).cell 0; clear hSw; go_simp; try with_reducible rfl
    try simp only [Act.put, List.setIfInBounds_toArray, List.set_cons_zero, List.set_cons_succ]
    refine' wpAnyH_take (i := 4) (v := _) (by simp only [List.getElem?_toArray, List.getElem?_cons_succ, List.getElem?_cons_zero]; rfl) (by kernel_rfl) (by kernel_rfl) (by kernel_rfl) (by exact fun _ _ _ h => h) (Or.inl ⟨by rfl, ?hmqa4⟩) hS0 ?rmqa4
    case hmqa4 => intro V hSw; clear hSw; go_simp; try with_reducible rfl
    try simp only [Act.put, List.setIfInBounds_toArray, List.set_cons_zero, List.set_cons_succ]
    refine' wpAnyH_take (i := 5) (v := _) (by simp only [List.getElem?_toArray, List.getElem?_cons_succ, List.getElem?_cons_zero]; rfl) (by kernel_rfl) (by kernel_rfl) (by kernel_rfl) (by exact fun _ _ _ h => h) (Or.inl ⟨by rfl, ?hmqa5⟩) hS0 ?rmqa5
    case hmqa5 => intro V hSw; clear hSw; go_simp; try with_reducible rfl
    try simp only [Act.put, List.setIfInBounds_toArray, List.set_cons_zero, List.set_cons_succ]
    refine wpAnyH_ready (rs := [1]) (by kernel_rfl) (by simp) ?_
    refine' AllReadyH.cons (by simp only [List.getElem?_toArray, List.getElem?_cons_succ, List.getElem?_cons_zero]; rfl) (fun K hK => ?_) AllReadyH.nil
    go_simp
    refine hK.out _ _ hS0 (fun hS1 => ?_)
    clear hK K
    try simp only [Act.put, List.setIfInBounds_toArray, List.set_cons_zero, List.set_cons_succ]
    refine wpAnyH_ready (rs := [6]) (by kernel_rfl) (by simp) ?_
    refine' AllReadyH.cons (by simp only [List.getElem?_toArray, List.getElem?_cons_succ, List.getElem?_cons_zero]; rfl) (fun K hK => ?_) AllReadyH.nil
    obtain ⟨j0, hj1, hj2, hj3, hj4⟩ := info_parts infoE
    refine step_append_any _ rfl (.tmp 50) (.tmp 54) 28 rfl W5.heap.size 68 j0 _ 3 56 Tryz.underlying28 hj1 hj2 hj3 hj4 rfl (by decide) (.slice av (d.length - k) ac) (d.length - k) (vs.drop (k * 3)) rfl (by exact HO7.out) w.heap.size (some ad) k cD (vs.take (k * 3)) rfl ?eqa1 ?eqa2 ?eqa3 ?eqa4 ?eqa5 ?_
    case eqa1 => exact ((HRQ.out.below (HB2.out.trans (HB7.out.mono HB2.out.size))).drew)
    case eqa2 => exact atL_one ecells_one _ HP.out.1
    case eqa3 => unfold maxLen; omega
    case eqa4 => omega
    case eqa5 => exact hzb
    intro v2 w8 ho2 hg2 hv2
    rw [hsum] at ho2
    have HO2 := Lib.hid ho2
    have hS2 : Below W2.heap.size W2 w8 := hS0.grown hg2 (by show W2.heap.size ≤ W7.heap.size; omega) (fun r e => by have := (HO7.out.lt r e).1; omega)
    have BT8 : Hid (Blk w8 W2.heap.size 30 #[.slice av (d.length - k) ac]) := Lib.hid (BT7.out.drew.grown hg2 (fun e => own_blk_ne HO7.out BT7.out (by decide) e.symm))
    obtain ⟨bv, bc, rfl⟩ := own_sl ho2
    have cT8 : w8.cell? ⟨W2.heap.size, 0, none⟩ = some (.slice av (d.length - k) ac) := BT8.out.cell 0
    have cF8 : w8.frozen? ⟨W2.heap.size, 0, none⟩ = false := BT8.out.frozen 0
    have hz8 : W2.heap.size < w8.heap.size := BT8.out.lt
    clear ho2 hg2 hv2 cT7
    refine hK.out _ _ hS2 (fun hS3 => ?_)
    clear hS3 hK K
    try simp only [Act.put, List.setIfInBounds_toArray, List.set_cons_zero, List.set_cons_succ]
    refine' wpAnyH_take (i := 7) (v := _) (by simp only [List.getElem?_toArray, List.getElem?_cons_succ, List.getElem?_cons_zero]; rfl) (by kernel_rfl) (by kernel_rfl) (by kernel_rfl) (by exact fun _ _ _ h => h) (Or.inl ⟨by rfl, ?hmqax7⟩) hS2 ?rmqax7
    case hmqax7 => intro V hSw; clear hSw; go_simp; try with_reducible rfl
    try simp only [Act.put, List.setIfInBounds_toArray, List.set_cons_zero, List.set_cons_succ]
    refine wpAnyH_ready (rs := [8]) (by kernel_rfl) (by simp) ?_
    refine' AllReadyH.cons (by simp only [List.getElem?_toArray, List.getElem?_cons_succ, List.getElem?_cons_zero]; rfl) (fun K hK => ?_) AllReadyH.nil
    go_simp
    refine hK.out _ _ (hS2.setCell (Nat.le_refl W2.heap.size) _) (fun hS3 => ?_)
    try simp only [Act.put, List.setIfInBounds_toArray, List.set_cons_zero, List.set_cons_succ]
    refine wpAnyH_done (by kernel_rfl) ?_ _
    clear hK K hS1 hS2 hS0 cT8 cF8
    have BT9 : Hid (Blk (w8.setCell ⟨W2.heap.size, 0, none⟩ (.slice bv d.length bc)) W2.heap.size 30 #[.slice bv d.length bc]) := Lib.hid (BT8.out.set_ 0 _)
    have HB9 : Hid (Below W2.heap.size W2 (w8.setCell ⟨W2.heap.size, 0, none⟩ (.slice bv d.length bc))) := Lib.hid hS3
    have HO9 : Hid ((w8.setCell ⟨W2.heap.size, 0, none⟩ (.slice bv d.length bc)).ownsRow W5.heap.size 68 3 (.slice bv d.length bc) d.length (vs.drop (k * 3) ++ vs.take (k * 3))) := Lib.hid (HO2.out.kept (only_setCell (World.grownBy.refl w8 _) (.inl rfl) _) (.inr (own_blk_ne HO2.out BT8.out (by decide))))
    clear hS3 BT8 HO2 BT7 HO7 hz7 hz8 hzb
    generalize w8.setCell ⟨W2.heap.size, 0, none⟩ (.slice bv d.length bc) = W9 at *
    have hz9 : W2.heap.size < W9.heap.size := BT9.out.lt
    obtain ⟨d', hd'⟩ : ∃ d', d.drop k ++ d.take k = d' := ⟨_, rfl⟩
    have hdl : d'.length = d.length := by rw [← hd', List.length_append, List.length_drop, List.length_take]; omega
    have hdm : ∀ e ∈ d', e ∈ d := fun e he => by
      rw [← hd'] at he
      rcases List.mem_append.1 he with h | h
      · exact List.mem_of_mem_drop h
      · exact List.mem_of_mem_take h
    have HBW := Lib.hid (HB2.out.trans (HB9.out.mono HB2.out.size))
    have HAT : Hid (T.At bare W9 (fun g => g < W9.heap.size) (entriesT d') (.slice bv d.length bc)) := Lib.hid (by
      refine own_atS (xs := d') ecells_len (by rw [hdl]; exact HO9.out) ?_ (fun g hg => (HO9.out.lt g hg).2)
      rw [← hd', List.flatMap_append]
      exact AtL.below (AtL.append HP.out.2 HP.out.1) HBW.out (fun g hg => Nat.lt_of_lt_of_le hg HBW.out.size))
    have HQ := Lib.hid (HC2.out d' _ W9 hdl hdm HAT.out HBW.out)
    obtain ⟨r2, hr2⟩ : ∃ r2, cellsF decO runO l d' = r2 := ⟨_, rfl⟩
    have hok2 := HOK2.out d' hdm
    rw [hr2] at HQ hok2
    have HR2 := Lib.hid hr2; have HD' := Lib.hid hd'
    have q1 : W9.cell? ⟨w.heap.size, 0, none⟩ = some (.slice A l.length cA) := (BA2.out.below HB9.out BA2.out.lt).cell 0
    have q2 : W9.cell? ⟨W2.heap.size, 0, none⟩ = some (.slice bv d.length bc) := BT9.out.cell 0
    clear hr2 hdl hdm HAT HO9 hd'
    go_wp2_with fail
    refine HQ.out.mono ?_
    intro e W10 h10
    obtain ⟨vx, rfl, gx, b10⟩ := bothC h10
    obtain ⟨Xa, xc, rfl, _, _⟩ := at_slice gx
    have HB10 := Lib.hid (HB9.out.trans (b10.mono (by omega)))
    have HVX := Lib.hid (At.keep (S' := fun g => g < W10.heap.size) (fun _ _ => rfl) (fun g h => h.2.lt) gx)
    clear h10 gx b10 q1 q2 HQ
    by_cases hc0 : codeC r = 0
    rotate_left
    · have hc1 : (codeC r != 0) = true := by simpa using hc0
      have hc2 : (codeC r2 != 0) = true := by
        have : codeC r2 ≠ 0 := fun h => by
          rw [← HR2.out] at h
          obtain ⟨q, hq⟩ := codeC_zero.1 h
          rw [← HD'.out] at hq
          obtain ⟨q', hq'⟩ := cellsF_unturn (Nat.le_of_lt hkl) hq
          exact hc0 (by rw [← HR.out]; exact codeC_zero.2 ⟨q', hq'⟩)
        simpa using this
      clear hc0
      go_wp2_with fail
      go_ret
      exact ⟨by simp, HB2.out.trans (HB10.out.mono HB2.out.size)⟩
    have hc1 : (codeC r != 0) = false := by simpa using hc0
    obtain ⟨cs, hcs⟩ : ∃ cs, r = .ok cs := by
      have := HR.out
      rw [← this] at hc0
      obtain ⟨q, hq⟩ := codeC_zero.1 hc0
      exact ⟨q, this.symm.trans hq⟩
    subst hcs
    have hr2 : r2 = .ok (cs.drop k ++ cs.take k) := by rw [← HR2.out, ← HD'.out]; exact cellsF_turn k HR.out
    subst hr2
    have hcl : cs.length = d.length := cellsF_len HR.out
    have hc2 : (codeC (.ok (cs.drop k ++ cs.take k)) != 0) = false := rfl
    have hc3 : (codeC (.ok (cs.drop k ++ cs.take k)) == 0) = true := rfl
    have hok3 := HCO.out
    simp only [okC] at HVC HVX hok2 hok3 ⊢
    simp only [codeC] at hc1 hc2 hc3 ⊢
    obtain ⟨Ca, cca, us, hce, hcc, hcm, hcr, hca⟩ := At.reads HVC.out
    injection hce with hce1 _ hce3
    subst hce1 hce3
    have HCR := Lib.hid hcr; have HCA := Lib.hid (atL_parts ccells_len hca (k := k) (by omega))
    have hkcc : ¬ cc = k := by omega
    have hccz : ¬ cc = 0 := by omega
    have hkc3 : (k : Int) ≤ (cc : Int) := by omega
    have hkc4 : (k : Int) ≤ (cs.length : Int) := by omega
    have hcsum : cs.length - k + k = cs.length := by omega
    have hln : (cs.drop k ++ cs.take k).length = cs.length := by rw [List.length_append, List.length_drop, List.length_take]; omega
    obtain ⟨cad, hCe, hcadb, _⟩ := hcr.2 (by omega)
    subst hCe
    have HCP : Hid (Reads W2 W2.heap.size 3 (some (cad.add (k * 3))) (cs.length - k) (us.drop (k * 3))) := Lib.hid (by
      have := Reads.cut HCR.out (k := k) (by omega) hcc
      rw [if_neg hkcc] at this
      exact this)
    have HCQ : Hid (Reads W2 W2.heap.size 3 (some cad) k (us.take (k * 3))) := Lib.hid (reads_part HCR.out (by omega))
    have H64 := Lib.hid hok2.1
    have h64 : cs.length ≤ 64 := hok3.1
    have HZ2 := Lib.hid hok2.2
    have hzt := HB10.out.size
    obtain ⟨j0, hj1, hj2, hj3, hj4⟩ := info_parts infoC
    rw [hln] at HVX ⊢
    have HLN := Lib.hid hln
    have HCL := Lib.hid hcl
    clear hcr hca hc0 hok2 hok3 hln hcl
    go_wp2_with (at_builtin; refine wpList_append_any _ rfl (.tmp 67) (.tmp 70) 25 rfl W10.heap.size 57 j0 _ 3 48 Tryz.underlying25 hj1 hj2 hj3 hj4 rfl (by decide) _ 0 [] rfl (World.ownsRow_nil _ _ _ _) W2.heap.size (some (cad.add (k * 3))) (cs.length - k) (cc - k) (us.drop (k * 3)) rfl ?fa1 ?fa2 ?fa3 ?fa4 (Nat.le_refl _) ?_)
    case fa1 => exact HCP.out.below HB10.out
    case fa2 => exact atL_one ccells_one _ HCA.out.2
    case fa3 => unfold maxLen; omega
    case fa4 => omega
    intro w1v w11 hp1 hg1 _
    replace hp1 : w11.ownsRow W10.heap.size 57 3 w1v (cs.length - k) (us.drop (k * 3)) := by simpa using hp1
    have HB11 : Hid (Below W10.heap.size W10 w11) := Lib.hid ((Below.refl _ W10).grown hg1 (Nat.le_refl _) (fun r e => by simp [Value.ownBlock] at e))
    obtain ⟨ev, ec, rfl⟩ := own_sl hp1
    have hz11 := HB11.out.size
    clear hg1
    go_wp2_with (at_builtin; refine wpList_append_any _ rfl (.tmp 72) (.tmp 75) 25 rfl W10.heap.size 57 j0 _ 3 48 Tryz.underlying25 hj1 hj2 hj3 hj4 rfl (by decide) _ (cs.length - k) (us.drop (k * 3)) rfl hp1 W2.heap.size (some cad) k cc (us.take (k * 3)) rfl ?ga1 ?ga2 ?ga3 ?ga4 ?ga5 ?_)
    case ga1 => exact HCQ.out.below (HB10.out.trans (HB11.out.mono hzt))
    case ga2 => exact atL_one ccells_one _ HCA.out.1
    case ga3 => unfold maxLen; omega
    case ga4 => omega
    case ga5 => omega
    intro w2v w12 hp2 hg2 _
    have HB12 : Hid (Below W10.heap.size W10 w12) := Lib.hid (HB11.out.grown hg2 hz11 (fun r e => (hp1.lt r e).1))
    obtain ⟨fv, fc, rfl⟩ := own_sl hp2
    have HWT : Hid (Calls Tryz.prog 22 #[.slice Xa cs.length xc, .slice fv cs.length fc] w12 (AnsB true w12)) := Lib.hid (by
      refine kitCells_any _ _ (cs.drop k ++ cs.take k) (cs.drop k ++ cs.take k) w12 (At.below HVX.out HB12.out (fun g hg => Nat.lt_of_lt_of_le hg HB12.out.size)) ?_ (by have := H64.out; omega) (by have := H64.out; omega) HZ2.out HZ2.out true (by simp)
      refine own_atS (xs := cs.drop k ++ cs.take k) ccells_len (by rw [HLN.out]; exact hp2) ?_ (fun g hg => (hp2.lt g hg).2)
      rw [List.flatMap_append]
      have hq := HB10.out.trans (HB12.out.mono hzt)
      exact AtL.below (AtL.append HCA.out.2 HCA.out.1) hq (fun g hg => Nat.lt_of_lt_of_le hg hq.size))
    clear hp1 hp2 hg2
    go_wp2_with fail
    refine HWT.out.mono ?_
    rintro e W13 ⟨rfl, b13⟩
    have HB13 := Lib.hid (HB12.out.trans (b13.mono HB12.out.size))
    clear b13
    go_wp2_with fail
    go_ret
    exact ⟨rfl, HB2.out.trans ((HB10.out.trans (HB13.out.mono hzt)).mono HB2.out.size)⟩
  · obtain ⟨k, hk⟩ : ∃ k : Nat, turn.tmod d.length + (d.length : Int) = (k : Int) := ⟨(turn.tmod d.length + (d.length : Int)).toNat, by omega⟩
    have hsn : decide (turn.tmod d.length < 0) = true := decide_eq_true hs
    have hwr : wrap64 (turn.tmod d.length + (d.length : Int)) = (k : Int) := by rw [← hk]; unfold wrap64; omega
    have hkl : k < d.length := by omega
    clear hs
    have hkc : (k : Int) ≤ (cD : Int) := by omega
    have hkd : (k : Int) ≤ (d.length : Int) := by omega
    have hkn : ¬ cD = k := by omega
    have hk0 : (0 : Int) ≤ (k : Int) := by omega
    have hkz : ¬ cD = 0 := by omega
    have hsum : d.length - k + k = d.length := by omega
    obtain ⟨ad, hDe, hadb, hcells⟩ := HRX.out.2 hdp
    subst hDe
    go_upto_region 11 with fail
    have hb5 : Below W2.heap.size W2 (W2.alloc (.cells #[.slice none 0 0] 30)) := (Below.refl _ _).alloc (Nat.le_refl _) _
    have BT5 := Lib.hid (Blk.new W2 30 #[.slice none 0 0])
    generalize W2.alloc (.cells #[.slice none 0 0] 30) = W5 at *
    have HB5 := Lib.hid hb5
    have hz5 : W2.heap.size < W5.heap.size := BT5.out.lt
    have cT : W5.cell? ⟨W2.heap.size, 0, none⟩ = some (.slice none 0 0) := BT5.out.cell 0
    have HRP : Hid (Reads w w.heap.size 3 (some (ad.add (k * 3))) (d.length - k) (vs.drop (k * 3))) := Lib.hid (by
      have := Reads.cut HRX.out (k := k) (by omega) hcD
      rw [if_neg hkn] at this
      exact this)
    have HRQ : Hid (Reads w w.heap.size 3 (some ad) k (vs.take (k * 3))) := Lib.hid (reads_part HRX.out (by omega))
    have HP := Lib.hid (atL_parts ecells_len HAX.out (k := k) (by omega))
    clear hb5 hcells
    refine wp_region_held_drew (S := fun V => Below W2.heap.size W2 V) (by kernel_rfl) (HB5.out).drew (fun hS0 => ?_)
    refine' wpAnyH_take (i := 0) (v := _) (by simp only [List.getElem?_toArray, List.getElem?_cons_zero]; rfl) (by kernel_rfl) (by kernel_rfl) (by kernel_rfl) (by exact fun _ _ _ h => h) (Or.inl ⟨by rfl, ?hmpb0⟩) hS0 ?rmpb0
    case hmpb0 => intro V hSw; clear hSw; go_simp; try with_reducible rfl
    try simp only [Act.put, List.setIfInBounds_toArray, List.set_cons_zero, List.set_cons_succ]
    refine' wpAnyH_take (i := 2) (v := _) (by simp only [List.getElem?_toArray, List.getElem?_cons_succ, List.getElem?_cons_zero]; rfl) (by kernel_rfl) (by kernel_rfl) (by kernel_rfl) (by exact fun _ _ _ h => h) (Or.inl ⟨by rfl, ?hmpb2⟩) hS0 ?rmpb2
    case hmpb2 => intro V hSw; clear hSw; go_simp; try with_reducible rfl
    try simp only [Act.put, List.setIfInBounds_toArray, List.set_cons_zero, List.set_cons_succ]
    refine' wpAnyH_take (i := 3) (v := _) (by simp only [List.getElem?_toArray, List.getElem?_cons_succ, List.getElem?_cons_zero]; rfl) (by kernel_rfl) (by kernel_rfl) (by kernel_rfl) (by exact fun _ _ _ h => h) (Or.inl ⟨by rfl, ?hmpb3⟩) hS0 ?rmpb3
    case hmpb3 => intro V hSw; have fq : V.cell? ⟨w.heap.size + 1, 0, none⟩ = some (.slice (some ad) d.length cD) := (BB2.out.below hSw BB2.out.lt).cell 0; clear hSw; go_simp; try with_reducible rfl
    try simp only [Act.put, List.setIfInBounds_toArray, List.set_cons_zero, List.set_cons_succ]
    refine' wpAnyH_take (i := 4) (v := _) (by simp only [List.getElem?_toArray, List.getElem?_cons_succ, List.getElem?_cons_zero]; rfl) (by kernel_rfl) (by kernel_rfl) (by kernel_rfl) (by exact fun _ _ _ h => h) (Or.inl ⟨by rfl, ?hmpb4⟩) hS0 ?rmpb4
    case hmpb4 => intro V hSw; clear hSw; go_simp; try with_reducible rfl
    try simp only [Act.put, List.setIfInBounds_toArray, List.set_cons_zero, List.set_cons_succ]
    refine' wpAnyH_take (i := 5) (v := _) (by simp only [List.getElem?_toArray, List.getElem?_cons_succ, List.getElem?_cons_zero]; rfl) (by kernel_rfl) (by kernel_rfl) (by kernel_rfl) (by exact fun _ _ _ h => h) (Or.inl ⟨by rfl, ?hmpb5⟩) hS0 ?rmpb5
    case hmpb5 => intro V hSw; clear hSw; go_simp; try with_reducible rfl
    try simp only [Act.put, List.setIfInBounds_toArray, List.set_cons_zero, List.set_cons_succ]
    refine wpAnyH_ready (rs := [1]) (by kernel_rfl) (by simp) ?_
    refine' AllReadyH.cons (by simp only [List.getElem?_toArray, List.getElem?_cons_succ, List.getElem?_cons_zero]; rfl) (fun K hK => ?_) AllReadyH.nil
    go_simp
    refine hK.out _ _ hS0 (fun hS1 => ?_)
    clear hK K
    try simp only [Act.put, List.setIfInBounds_toArray, List.set_cons_zero, List.set_cons_succ]
    refine wpAnyH_ready (rs := [6]) (by kernel_rfl) (by simp) ?_
    refine' AllReadyH.cons (by simp only [List.getElem?_toArray, List.getElem?_cons_succ, List.getElem?_cons_zero]; rfl) (fun K hK => ?_) AllReadyH.nil
    obtain ⟨j0, hj1, hj2, hj3, hj4⟩ := info_parts infoE
    refine step_append_any _ rfl (.tmp 42) (.tmp 46) 28 rfl W5.heap.size 68 j0 _ 3 56 Tryz.underlying28 hj1 hj2 hj3 hj4 rfl (by decide) (.slice none 0 0) 0 [] rfl (World.ownsRow_nil _ _ _ _) w.heap.size (some (ad.add (k * 3))) (d.length - k) (cD - k) (vs.drop (k * 3)) rfl ?epb1 ?epb2 ?epb3 ?epb4 ?epb5 ?_
    case epb1 => exact ((HRP.out.below (HB2.out.trans (HB5.out.mono HB2.out.size))).drew)
    case epb2 => exact atL_one ecells_one _ HP.out.2
    case epb3 => unfold maxLen; omega
    case epb4 => omega
    case epb5 => exact Nat.le_refl _
    intro v1 w6 ho1 hg1 _
    replace ho1 : w6.ownsRow W5.heap.size 68 3 v1 (d.length - k) (vs.drop (k * 3)) := by simpa using ho1
    have HO1 := Lib.hid ho1
    have hS2 : Below W2.heap.size W2 w6 := hS0.grown hg1 (by show W2.heap.size ≤ W5.heap.size; omega) (fun r e => by simp [Value.ownBlock] at e)
    have HB6 : Hid (Below W5.heap.size W5 w6) := Lib.hid ((Below.refl _ W5).drew.grown hg1 (Nat.le_refl _) (fun r e => by simp [Value.ownBlock] at e))
    have BT6 := Lib.hid (BT5.out.below HB6.out hz5)
    obtain ⟨av, ac, rfl⟩ := own_sl ho1
    have cT6 : w6.cell? ⟨W2.heap.size, 0, none⟩ = some (.slice none 0 0) := BT6.out.cell 0
    have cF6 : w6.frozen? ⟨W2.heap.size, 0, none⟩ = false := BT6.out.frozen 0
    have hz6 : W2.heap.size < w6.heap.size := BT6.out.lt
    clear ho1 hg1 cT
    refine hK.out _ _ hS2 (fun hS3 => ?_)
    clear hS3 hK K
    try simp only [Act.put, List.setIfInBounds_toArray, List.set_cons_zero, List.set_cons_succ]
    refine' wpAnyH_take (i := 7) (v := _) (by simp only [List.getElem?_toArray, List.getElem?_cons_succ, List.getElem?_cons_zero]; rfl) (by kernel_rfl) (by kernel_rfl) (by kernel_rfl) (by exact fun _ _ _ h => h) (Or.inl ⟨by rfl, ?hmpbx7⟩) hS2 ?rmpbx7
    case hmpbx7 => intro V hSw; clear hSw; go_simp; try with_reducible rfl
    try simp only [Act.put, List.setIfInBounds_toArray, List.set_cons_zero, List.set_cons_succ]
    refine wpAnyH_ready (rs := [8]) (by kernel_rfl) (by simp) ?_
    refine' AllReadyH.cons (by simp only [List.getElem?_toArray, List.getElem?_cons_succ, List.getElem?_cons_zero]; rfl) (fun K hK => ?_) AllReadyH.nil
    go_simp
    refine hK.out _ _ (hS2.setCell (Nat.le_refl W2.heap.size) _) (fun hS3 => ?_)
    try simp only [Act.put, List.setIfInBounds_toArray, List.set_cons_zero, List.set_cons_succ]
    refine wpAnyH_done (by kernel_rfl) ?_ _
    clear hK K hS1 hS2 hS0 cT6 cF6
    have BT7 : Hid (Blk (w6.setCell ⟨W2.heap.size, 0, none⟩ (.slice av (d.length - k) ac)) W2.heap.size 30 #[.slice av (d.length - k) ac]) := Lib.hid (BT6.out.set_ 0 _)
    have HB7 : Hid (Below W2.heap.size W2 (w6.setCell ⟨W2.heap.size, 0, none⟩ (.slice av (d.length - k) ac))) := Lib.hid hS3
    have HO7 : Hid ((w6.setCell ⟨W2.heap.size, 0, none⟩ (.slice av (d.length - k) ac)).ownsRow W5.heap.size 68 3 (.slice av (d.length - k) ac) (d.length - k) (vs.drop (k * 3))) := Lib.hid (HO1.out.kept (only_setCell (World.grownBy.refl w6 _) (.inl rfl) _) (.inr (own_blk_ne HO1.out BT6.out (by decide))))
    have hzb : W5.heap.size ≤ (w6.setCell ⟨W2.heap.size, 0, none⟩ (.slice av (d.length - k) ac)).heap.size := by simpa [World.setCell] using HB6.out.size
    clear hS3
    generalize w6.setCell ⟨W2.heap.size, 0, none⟩ (.slice av (d.length - k) ac) = W7 at *
    have hz7 : W2.heap.size < W7.heap.size := BT7.out.lt
    have cT7 : W7.cell? ⟨W2.heap.size, 0, none⟩ = some (.slice av (d.length - k) ac) := BT7.out.cell 0
    clear BT6 HO1 HB6 BT5
    go_upto_region 12 with fail
    refine wp_region_held_drew (S := fun V => Below W2.heap.size W2 V) (by kernel_rfl) (HB7.out).drew (fun hS0 => ?_)
    refine' wpAnyH_take (i := 0) (v := _) (by simp only [List.getElem?_toArray, List.getElem?_cons_zero]; rfl) (by kernel_rfl) (by kernel_rfl) (by kernel_rfl) (by exact fun _ _ _ h => h) (Or.inl ⟨by rfl, ?hmqb0⟩) hS0 ?rmqb0
    case hmqb0 => intro V hSw; clear hSw; go_simp; try with_reducible rfl
    try simp only [Act.put, List.setIfInBounds_toArray, List.set_cons_zero, List.set_cons_succ]
    refine' wpAnyH_take (i := 2) (v := _) (by simp only [List.getElem?_toArray, List.getElem?_cons_succ, List.getElem?_cons_zero]; rfl) (by kernel_rfl) (by kernel_rfl) (by kernel_rfl) (by exact fun _ _ _ h => h) (Or.inl ⟨by rfl, ?hmqb2⟩) hS0 ?rmqb2
    case hmqb2 => intro V hSw; clear hSw; go_simp; try with_reducible rfl
    try simp only [Act.put, List.setIfInBounds_toArray, List.set_cons_zero, List.set_cons_succ]
    refine' wpAnyH_take (i := 3) (v := _) (by simp only [List.getElem?_toArray, List.getElem?_cons_succ, List.getElem?_cons_zero]; rfl) (by kernel_rfl) (by kernel_rfl) (by kernel_rfl) (by exact fun _ _ _ h => h) (Or.inl ⟨by rfl, ?hmqb3⟩) hS0 ?rmqb3
    case hmqb3 => intro V hSw; have fq : V.cell? ⟨w.heap.size + 1, 0, none⟩ = some (.slice (some ad) d.length cD) := (BB2.out.below hSw BB2.out.lt).cell 0; clear hSw; go_simp; try with_reducible rfl
    try simp only [Act.put, List.setIfInBounds_toArray, List.set_cons_zero, List.set_cons_succ]
    refine' wpAnyH_take (i := 4) (v := _) (by simp only [List.getElem?_toArray, List.getElem?_cons_succ, List.getElem?_cons_zero]; rfl) (by kernel_rfl) (by kernel_rfl) (by kernel_rfl) (by exact fun _ _ _ h => h) (Or.inl ⟨by rfl, ?hmqb4⟩) hS0 ?rmqb4
    case hmqb4 => intro V hSw; clear hSw; go_simp; try with_reducible rfl
    try simp only [Act.put, List.setIfInBounds_toArray, List.set_cons_zero, List.set_cons_succ]
    refine' wpAnyH_take (i := 5) (v := _) (by simp only [List.getElem?_toArray, List.getElem?_cons_succ, List.getElem?_cons_zero]; rfl) (by kernel_rfl) (by kernel_rfl) (by kernel_rfl) (by exact fun _ _ _ h => h) (Or.inl ⟨by rfl, ?hmqb5⟩) hS0 ?rmqb5
    case hmqb5 => intro V hSw; clear hSw; go_simp; try with_reducible rfl
    try simp only [Act.put, List.setIfInBounds_toArray, List.set_cons_zero, List.set_cons_succ]
    refine wpAnyH_ready (rs := [1]) (by kernel_rfl) (by simp) ?_
    refine' AllReadyH.cons (by simp only [List.getElem?_toArray, List.getElem?_cons_succ, List.getElem?_cons_zero]; rfl) (fun K hK => ?_) AllReadyH.nil
    go_simp
    refine hK.out _ _ hS0 (fun hS1 => ?_)
    clear hK K
    try simp only [Act.put, List.setIfInBounds_toArray, List.set_cons_zero, List.set_cons_succ]
    refine wpAnyH_ready (rs := [6]) (by kernel_rfl) (by simp) ?_
    refine' AllReadyH.cons (by simp only [List.getElem?_toArray, List.getElem?_cons_succ, List.getElem?_cons_zero]; rfl) (fun K hK => ?_) AllReadyH.nil
    obtain ⟨j0, hj1, hj2, hj3, hj4⟩ := info_parts infoE
    refine step_append_any _ rfl (.tmp 50) (.tmp 54) 28 rfl W5.heap.size 68 j0 _ 3 56 Tryz.underlying28 hj1 hj2 hj3 hj4 rfl (by decide) (.slice av (d.length - k) ac) (d.length - k) (vs.drop (k * 3)) rfl (by exact HO7.out) w.heap.size (some ad) k cD (vs.take (k * 3)) rfl ?eqb1 ?eqb2 ?eqb3 ?eqb4 ?eqb5 ?_
    case eqb1 => exact ((HRQ.out.below (HB2.out.trans (HB7.out.mono HB2.out.size))).drew)
    case eqb2 => exact atL_one ecells_one _ HP.out.1
    case eqb3 => unfold maxLen; omega
    case eqb4 => omega
    case eqb5 => exact hzb
    intro v2 w8 ho2 hg2 hv2
    rw [hsum] at ho2
    have HO2 := Lib.hid ho2
    have hS2 : Below W2.heap.size W2 w8 := hS0.grown hg2 (by show W2.heap.size ≤ W7.heap.size; omega) (fun r e => by have := (HO7.out.lt r e).1; omega)
    have BT8 : Hid (Blk w8 W2.heap.size 30 #[.slice av (d.length - k) ac]) := Lib.hid (BT7.out.drew.grown hg2 (fun e => own_blk_ne HO7.out BT7.out (by decide) e.symm))
    obtain ⟨bv, bc, rfl⟩ := own_sl ho2
    have cT8 : w8.cell? ⟨W2.heap.size, 0, none⟩ = some (.slice av (d.length - k) ac) := BT8.out.cell 0
    have cF8 : w8.frozen? ⟨W2.heap.size, 0, none⟩ = false := BT8.out.frozen 0
    have hz8 : W2.heap.size < w8.heap.size := BT8.out.lt
    clear ho2 hg2 hv2 cT7
    refine hK.out _ _ hS2 (fun hS3 => ?_)
    clear hS3 hK K
    try simp only [Act.put, List.setIfInBounds_toArray, List.set_cons_zero, List.set_cons_succ]
    refine' wpAnyH_take (i := 7) (v := _) (by simp only [List.getElem?_toArray, List.getElem?_cons_succ, List.getElem?_cons_zero]; rfl) (by kernel_rfl) (by kernel_rfl) (by kernel_rfl) (by exact fun _ _ _ h => h) (Or.inl ⟨by rfl, ?hmqbx7⟩) hS2 ?rmqbx7
    case hmqbx7 => intro V hSw; clear hSw; go_simp; try with_reducible rfl
    try simp only [Act.put, List.setIfInBounds_toArray, List.set_cons_zero, List.set_cons_succ]
    refine wpAnyH_ready (rs := [8]) (by kernel_rfl) (by simp) ?_
    refine' AllReadyH.cons (by simp only [List.getElem?_toArray, List.getElem?_cons_succ, List.getElem?_cons_zero]; rfl) (fun K hK => ?_) AllReadyH.nil
    go_simp
    refine hK.out _ _ (hS2.setCell (Nat.le_refl W2.heap.size) _) (fun hS3 => ?_)
    try simp only [Act.put, List.setIfInBounds_toArray, List.set_cons_zero, List.set_cons_succ]
    refine wpAnyH_done (by kernel_rfl) ?_ _
    clear hK K hS1 hS2 hS0 cT8 cF8
    have BT9 : Hid (Blk (w8.setCell ⟨W2.heap.size, 0, none⟩ (.slice bv d.length bc)) W2.heap.size 30 #[.slice bv d.length bc]) := Lib.hid (BT8.out.set_ 0 _)
    have HB9 : Hid (Below W2.heap.size W2 (w8.setCell ⟨W2.heap.size, 0, none⟩ (.slice bv d.length bc))) := Lib.hid hS3
    have HO9 : Hid ((w8.setCell ⟨W2.heap.size, 0, none⟩ (.slice bv d.length bc)).ownsRow W5.heap.size 68 3 (.slice bv d.length bc) d.length (vs.drop (k * 3) ++ vs.take (k * 3))) := Lib.hid (HO2.out.kept (only_setCell (World.grownBy.refl w8 _) (.inl rfl) _) (.inr (own_blk_ne HO2.out BT8.out (by decide))))
    clear hS3 BT8 HO2 BT7 HO7 hz7 hz8 hzb
    generalize w8.setCell ⟨W2.heap.size, 0, none⟩ (.slice bv d.length bc) = W9 at *
    have hz9 : W2.heap.size < W9.heap.size := BT9.out.lt
    obtain ⟨d', hd'⟩ : ∃ d', d.drop k ++ d.take k = d' := ⟨_, rfl⟩
    have hdl : d'.length = d.length := by rw [← hd', List.length_append, List.length_drop, List.length_take]; omega
    have hdm : ∀ e ∈ d', e ∈ d := fun e he => by
      rw [← hd'] at he
      rcases List.mem_append.1 he with h | h
      · exact List.mem_of_mem_drop h
      · exact List.mem_of_mem_take h
    have HBW := Lib.hid (HB2.out.trans (HB9.out.mono HB2.out.size))
    have HAT : Hid (T.At bare W9 (fun g => g < W9.heap.size) (entriesT d') (.slice bv d.length bc)) := Lib.hid (by
      refine own_atS (xs := d') ecells_len (by rw [hdl]; exact HO9.out) ?_ (fun g hg => (HO9.out.lt g hg).2)
      rw [← hd', List.flatMap_append]
      exact AtL.below (AtL.append HP.out.2 HP.out.1) HBW.out (fun g hg => Nat.lt_of_lt_of_le hg HBW.out.size))
    have HQ := Lib.hid (HC2.out d' _ W9 hdl hdm HAT.out HBW.out)
    obtain ⟨r2, hr2⟩ : ∃ r2, cellsF decO runO l d' = r2 := ⟨_, rfl⟩
    have hok2 := HOK2.out d' hdm
    rw [hr2] at HQ hok2
    have HR2 := Lib.hid hr2; have HD' := Lib.hid hd'
    have q1 : W9.cell? ⟨w.heap.size, 0, none⟩ = some (.slice A l.length cA) := (BA2.out.below HB9.out BA2.out.lt).cell 0
    have q2 : W9.cell? ⟨W2.heap.size, 0, none⟩ = some (.slice bv d.length bc) := BT9.out.cell 0
    clear hr2 hdl hdm HAT HO9 hd'
    go_wp2_with fail
    refine HQ.out.mono ?_
    intro e W10 h10
    obtain ⟨vx, rfl, gx, b10⟩ := bothC h10
    obtain ⟨Xa, xc, rfl, _, _⟩ := at_slice gx
    have HB10 := Lib.hid (HB9.out.trans (b10.mono (by omega)))
    have HVX := Lib.hid (At.keep (S' := fun g => g < W10.heap.size) (fun _ _ => rfl) (fun g h => h.2.lt) gx)
    clear h10 gx b10 q1 q2 HQ
    by_cases hc0 : codeC r = 0
    rotate_left
    · have hc1 : (codeC r != 0) = true := by simpa using hc0
      have hc2 : (codeC r2 != 0) = true := by
        have : codeC r2 ≠ 0 := fun h => by
          rw [← HR2.out] at h
          obtain ⟨q, hq⟩ := codeC_zero.1 h
          rw [← HD'.out] at hq
          obtain ⟨q', hq'⟩ := cellsF_unturn (Nat.le_of_lt hkl) hq
          exact hc0 (by rw [← HR.out]; exact codeC_zero.2 ⟨q', hq'⟩)
        simpa using this
      clear hc0
      go_wp2_with fail
      go_ret
      exact ⟨by simp, HB2.out.trans (HB10.out.mono HB2.out.size)⟩
    have hc1 : (codeC r != 0) = false := by simpa using hc0
    obtain ⟨cs, hcs⟩ : ∃ cs, r = .ok cs := by
      have := HR.out
      rw [← this] at hc0
      obtain ⟨q, hq⟩ := codeC_zero.1 hc0
      exact ⟨q, this.symm.trans hq⟩
    subst hcs
    have hr2 : r2 = .ok (cs.drop k ++ cs.take k) := by rw [← HR2.out, ← HD'.out]; exact cellsF_turn k HR.out
    subst hr2
    have hcl : cs.length = d.length := cellsF_len HR.out
    have hc2 : (codeC (.ok (cs.drop k ++ cs.take k)) != 0) = false := rfl
    have hc3 : (codeC (.ok (cs.drop k ++ cs.take k)) == 0) = true := rfl
    have hok3 := HCO.out
    simp only [okC] at HVC HVX hok2 hok3 ⊢
    simp only [codeC] at hc1 hc2 hc3 ⊢
    obtain ⟨Ca, cca, us, hce, hcc, hcm, hcr, hca⟩ := At.reads HVC.out
    injection hce with hce1 _ hce3
    subst hce1 hce3
    have HCR := Lib.hid hcr; have HCA := Lib.hid (atL_parts ccells_len hca (k := k) (by omega))
    have hkcc : ¬ cc = k := by omega
    have hccz : ¬ cc = 0 := by omega
    have hkc3 : (k : Int) ≤ (cc : Int) := by omega
    have hkc4 : (k : Int) ≤ (cs.length : Int) := by omega
    have hcsum : cs.length - k + k = cs.length := by omega
    have hln : (cs.drop k ++ cs.take k).length = cs.length := by rw [List.length_append, List.length_drop, List.length_take]; omega
    obtain ⟨cad, hCe, hcadb, _⟩ := hcr.2 (by omega)
    subst hCe
    have HCP : Hid (Reads W2 W2.heap.size 3 (some (cad.add (k * 3))) (cs.length - k) (us.drop (k * 3))) := Lib.hid (by
      have := Reads.cut HCR.out (k := k) (by omega) hcc
      rw [if_neg hkcc] at this
      exact this)
    have HCQ : Hid (Reads W2 W2.heap.size 3 (some cad) k (us.take (k * 3))) := Lib.hid (reads_part HCR.out (by omega))
    have H64 := Lib.hid hok2.1
    have h64 : cs.length ≤ 64 := hok3.1
    have HZ2 := Lib.hid hok2.2
    have hzt := HB10.out.size
    obtain ⟨j0, hj1, hj2, hj3, hj4⟩ := info_parts infoC
    rw [hln] at HVX ⊢
    have HLN := Lib.hid hln
    have HCL := Lib.hid hcl
    clear hcr hca hc0 hok2 hok3 hln hcl
    go_wp2_with (at_builtin; refine wpList_append_any _ rfl (.tmp 67) (.tmp 70) 25 rfl W10.heap.size 57 j0 _ 3 48 Tryz.underlying25 hj1 hj2 hj3 hj4 rfl (by decide) _ 0 [] rfl (World.ownsRow_nil _ _ _ _) W2.heap.size (some (cad.add (k * 3))) (cs.length - k) (cc - k) (us.drop (k * 3)) rfl ?fb1 ?fb2 ?fb3 ?fb4 (Nat.le_refl _) ?_)
    case fb1 => exact HCP.out.below HB10.out
    case fb2 => exact atL_one ccells_one _ HCA.out.2
    case fb3 => unfold maxLen; omega
    case fb4 => omega
    intro w1v w11 hp1 hg1 _
    replace hp1 : w11.ownsRow W10.heap.size 57 3 w1v (cs.length - k) (us.drop (k * 3)) := by simpa using hp1
    have HB11 : Hid (Below W10.heap.size W10 w11) := Lib.hid ((Below.refl _ W10).grown hg1 (Nat.le_refl _) (fun r e => by simp [Value.ownBlock] at e))
    obtain ⟨ev, ec, rfl⟩ := own_sl hp1
    have hz11 := HB11.out.size
    clear hg1
    go_wp2_with (at_builtin; refine wpList_append_any _ rfl (.tmp 72) (.tmp 75) 25 rfl W10.heap.size 57 j0 _ 3 48 Tryz.underlying25 hj1 hj2 hj3 hj4 rfl (by decide) _ (cs.length - k) (us.drop (k * 3)) rfl hp1 W2.heap.size (some cad) k cc (us.take (k * 3)) rfl ?gb1 ?gb2 ?gb3 ?gb4 ?gb5 ?_)
    case gb1 => exact HCQ.out.below (HB10.out.trans (HB11.out.mono hzt))
    case gb2 => exact atL_one ccells_one _ HCA.out.1
    case gb3 => unfold maxLen; omega
    case gb4 => omega
    case gb5 => omega
    intro w2v w12 hp2 hg2 _
    have HB12 : Hid (Below W10.heap.size W10 w12) := Lib.hid (HB11.out.grown hg2 hz11 (fun r e => (hp1.lt r e).1))
    obtain ⟨fv, fc, rfl⟩ := own_sl hp2
    have HWT : Hid (Calls Tryz.prog 22 #[.slice Xa cs.length xc, .slice fv cs.length fc] w12 (AnsB true w12)) := Lib.hid (by
      refine kitCells_any _ _ (cs.drop k ++ cs.take k) (cs.drop k ++ cs.take k) w12 (At.below HVX.out HB12.out (fun g hg => Nat.lt_of_lt_of_le hg HB12.out.size)) ?_ (by have := H64.out; omega) (by have := H64.out; omega) HZ2.out HZ2.out true (by simp)
      refine own_atS (xs := cs.drop k ++ cs.take k) ccells_len (by rw [HLN.out]; exact hp2) ?_ (fun g hg => (hp2.lt g hg).2)
      rw [List.flatMap_append]
      have hq := HB10.out.trans (HB12.out.mono hzt)
      exact AtL.below (AtL.append HCA.out.2 HCA.out.1) hq (fun g hg => Nat.lt_of_lt_of_le hg hq.size))
    clear hp1 hp2 hg2
    go_wp2_with fail
    refine HWT.out.mono ?_
    rintro e W13 ⟨rfl, b13⟩
    have HB13 := Lib.hid (HB12.out.trans (b13.mono HB12.out.size))
    clear b13
    go_wp2_with fail
    go_ret
    exact ⟨rfl, HB2.out.trans ((HB10.out.trans (HB13.out.mono hzt)).mono HB2.out.size)⟩
end Go.Proofs.YtfckomjbgopmaaaGreatDoor.SchemaOrderWalk
