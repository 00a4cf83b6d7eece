/- The walk of SchemaOwn. Written by gen_schown.py. -/
import Derived.Test.YtfckomjbgopmaaaGreatDoorPack49
import Derived.Test.YtfckomjbgopmaaaGreatDoorPack51
import Derived.Test.YtfckomjbgopmaaaGreatDoorSchKnown
import Derived.Test.YtfckomjbgopmaaaGreatDoorPack9
import Derived.Test.YtfckomjbgopmaaaGreatDoorTwo
import Derived.Deep.RegionHeld3
set_option linter.unusedVariables false
namespace Go.Proofs.YtfckomjbgopmaaaGreatDoor.SchemaOwnWalk
open Go.RowKit Words Tree Two SchTwo SchP Kit Owned Sch AnaP

set_option maxRecDepth 100000 in
set_option maxHeartbeats 100000000 in
theorem walk (u x : Value) (l : List FT) (d : List ET) (w : World) (hu : T.At bare w (fun g => g < w.heap.size) (fieldsT l) u) (hl : l.length * 72 ≤ 140737488351232) (okf : ∀ f ∈ l, FOk f)
    (hx : T.At bare w (fun g => g < w.heap.size) (entriesT d) x) (hd : d.length * 56 ≤ 140737488351232) (oke : ∀ e ∈ d, EOk e) (hes : ∀ e ∈ d, e.text.size < 4294967281) (hdl : d.length ≤ 1048576) (hdn : ∀ e ∈ d, e.nums.length ≤ 1048576) (hT : FoldNext.Tabs w) (hO : OrdLib.OTabs w) :
    Calls Tryz.prog 8 #[.agg #[u], .agg #[x]] w (AnsB true w) := by
  have hlt : ∀ {V : World} {g : Nat}, Below w.heap.size w V → g < w.heap.size → g < V.heap.size := fun hV hg => Nat.lt_of_lt_of_le hg hV.size
  have HKN := Lib.hid (fun (V : World) (hV : Below w.heap.size w V) => known_any V (hT.next hV) (hO.next hV))
  have HL1 := Lib.hid (fun (V : World) (hV : Below w.heap.size w V) => lentSchema_any u l V (At.below hu hV (fun g hg => hlt hV hg)) hl okf)
  have HL2 := Lib.hid (fun (V : World) (hV : Below w.heap.size w V) => lentDoc_any x d V (At.below hx hV (fun g hg => hlt hV hg)) hd oke)
  have HIN := Lib.hid (fun (vi vd : Value) (W : World) (hi : T.At lent W (fun g => g < W.heap.size) (fieldsT l) vi) (hdd : T.At lent W (fun g => g < W.heap.size) (entriesT d) vd) (V : World) (hV : Below W.heap.size W V) (hw : Below w.heap.size w V) =>
    have hi' := At.below (S' := fun g => g < V.heap.size) hi hV (fun g hg => Nat.lt_of_lt_of_le hg hV.size)
    have hd' := At.below (S' := fun g => g < V.heap.size) hdd hV (fun g hg => Nat.lt_of_lt_of_le hg hV.size)
    And.intro (cells_anyN vi vd l d V (At.bare hi') hl okf (At.bare hd') hd oke hes (hT.next hw) (hO.next hw))
      (And.intro (keptSchema_any vi u l V hi' (At.below hu hw (fun g hg => hlt hw hg)) hl okf) (And.intro (keptDoc_any vd x d V hd' (At.below hx hw (fun g hg => hlt hw hg)) hd oke)
      (And.intro (stored_anyN vi vd l d V (At.bare hi') hl (At.bare hd') hd oke)
      (fun (cs : List CT) (vc : Value) (hcl : cs.length ≤ 64) (hco : ∀ c ∈ cs, COk c) (hvc : T.At bare V (fun g => g < V.heap.size) (cellsT cs) vc) => back_anyN vi vc l cs V (At.bare hi') hl okf hvc (by omega) hco (OrdLib.pow_next hO.pow hw))))))
  have HOK := okC_ok (d := d) hl oke
  have HON := okC_nums (l := l) hdn
  obtain ⟨r, hr⟩ : ∃ r, cellsF decO runO l d = r := ⟨_, rfl⟩
  rw [hr] at HIN HOK HON
  have HR := Lib.hid hr
  have HCO := Lib.hid HOK
  have HCN := Lib.hid HON
  obtain ⟨hsl, hsn⟩ := storedF_in (l := l) hdn
  generalize storedF l d = es at HIN hsl hsn
  have HSN := Lib.hid hsn
  have hel : es.length ≤ 1048576 := by omega
  obtain ⟨A, cA, rfl, _, _⟩ := at_slice hu
  obtain ⟨D, cD, rfl, _, _⟩ := at_slice hx
  clear hu hx hlt hT hO hr HOK HON okf oke hes hdn hsn hsl
  go_enter Tryz.func8, Tryz.ntmps8
  go_wp2_with fail
  have hB0 := below2 (w := w) (.cells #[.slice A l.length cA] 24) (.cells #[.slice D d.length cD] 30)
  have BA0 := blk_a w #[.slice A l.length cA] #[.slice D d.length cD] 24 30
  have BB0 := blk_b w #[.slice A l.length cA] #[.slice D d.length cD] 24 30
  refine (HKN.out _ hB0).mono ?_
  rintro e W0 ⟨rfl, b1⟩
  have HB := Lib.hid (hB0.trans (b1.mono hB0.size))
  have BA := Lib.hid (BA0.below b1 BA0.lt); have BB := Lib.hid (BB0.below b1 BB0.lt)
  clear b1 BA0 BB0 hB0 HKN
  go_upto_region 3 with fail
  refine two_lent (P := Tryz.prog) (A1 := 24) (A2 := 30) (T1 := 24) (T2 := 30) (f1 := 9) (f2 := 19) (s2 := 2) (s3 := 3) (s5 := 5) (s6 := 6) (s7 := 21) (s8 := 22) (s9 := 23) (s10 := 24) (p := "outright.go:132")
    (x1 := .agg #[.slice A l.length cA]) (x2 := .agg #[.slice D d.length cD]) (z1 := #[.slice none 0 0]) (z2 := #[.slice none 0 0]) (m1 := lent) (m2 := lent) (ts1 := [fieldsT l]) (ts2 := [entriesT d]) (by kernel_rfl) ?six ⟨by decide, by decide, by decide, by decide, by decide, by decide⟩ ⟨by decide, by decide, by decide, by decide, by decide, by decide⟩ ?does ?after
  case six => exact ⟨by decide, by decide, by decide, by decide, by decide, by decide, by decide, by decide, by decide, by decide, by decide, by decide, by decide, by decide, by decide, by simp⟩
  case does =>
    refine ⟨?_, ?_, ?_, ?_, ?_, ?_, ?_, ?_, ?_, ?_⟩
    · intro ρ W after h1 h2
      exact load_1s (h1.trans rfl) (BA.out.below h2 BA.out.lt)
    · intro ρ W after h1 h2
      exact load_1d (h1.trans rfl) (BB.out.below h2 BB.out.lt)
    · intro ρ W after h1 h2
      go_simp
    · intro ρ W after h1 h2
      go_simp
    · intro ρ W after
      go_simp
    · intro ρ W after
      go_simp
    · intro ρ W after g us S h1 h2 h3 h4
      exact store_1s h1 h2 h3 h4
    · intro ρ W after g us S h1 h2 h3 h4
      exact store_1d h1 h2 h3 h4
    · intro W hW
      refine (HL1.out W (HB.out.trans (hW.mono HB.out.size))).mono ?_
      rintro e W' ⟨v, rfl, ha, hb⟩
      exact ⟨[v], rfl, by simpa only [T.AtL, and_true] using ha, hb⟩
    · intro W hW
      refine (HL2.out W (HB.out.trans (hW.mono HB.out.size))).mono ?_
      rintro e W' ⟨v, rfl, ha, hb⟩
      exact ⟨[v], rfl, by simpa only [T.AtL, and_true] using ha, hb⟩
  case after =>
    intro g5 g6 us1 us2 W hW n5 n6 n56 l5 l6 B5 B6 A5 A6
    obtain ⟨vi, r1, rfl, ai, hr1⟩ := AtL.cons_ A5
    obtain rfl := AtL.nil_ hr1
    obtain ⟨vd, r2, rfl, ad, hr2⟩ := AtL.cons_ A6
    obtain rfl := AtL.nil_ hr2
    obtain ⟨L, c1, rfl, _, _⟩ := at_slice ai
    obtain ⟨M, c2, rfl, _, _⟩ := at_slice ad
    have HW : Hid (Below w.heap.size w W) := Lib.hid (HB.out.trans (hW.mono HB.out.size))
    have HC := Lib.hid (HIN.out _ _ W (At.keep (fun _ _ => rfl) (fun g h => h.2.2.2) ai) (At.keep (fun _ _ => rfl) (fun g h => h.2.2.2) ad))
    have BA2 := Lib.hid (BA.out.below hW BA.out.lt)
    have BB2 := Lib.hid (BB.out.below hW BB.out.lt)
    have HB5 := Lib.hid B5
    have HB6 := Lib.hid B6
    have SF : Hid (∀ V, Below W.heap.size W V → V.cell? ⟨w.heap.size, 0, none⟩ = some (.slice A l.length cA) ∧ V.cell? ⟨w.heap.size + 1, 0, none⟩ = some (.slice D d.length cD) ∧ V.cell? ⟨g5, 0, none⟩ = some (.slice L l.length c1) ∧ V.cell? ⟨g6, 0, none⟩ = some (.slice M d.length c2)) :=
      Lib.hid (fun V hV => ⟨(BA2.out.below hV BA2.out.lt).cell 0, (BB2.out.below hV BB2.out.lt).cell 0, (HB5.out.below hV HB5.out.lt).cell 0, (HB6.out.below hV HB6.out.lt).cell 0⟩)
    have HCC := Lib.hid (fun V hV => (HC.out V hV (HW.out.trans (hV.mono HW.out.size))).1)
    have HCK := Lib.hid (fun V hV => (HC.out V hV (HW.out.trans (hV.mono HW.out.size))).2.1)
    have HCD := Lib.hid (fun V hV => (HC.out V hV (HW.out.trans (hV.mono HW.out.size))).2.2.1)
    have HST := Lib.hid (fun V hV => (HC.out V hV (HW.out.trans (hV.mono HW.out.size))).2.2.2.1)
    have HBK := Lib.hid (fun V hV => (HC.out V hV (HW.out.trans (hV.mono HW.out.size))).2.2.2.2)
    clear HC HIN HL1 HL2 BA BB BA2 BB2 HB5 HB6 B5 B6 A5 A6 ai ad hr1 hr2 hW HB n5 n6 n56 l5 l6 hl hd
    simp only [put6, Act.put, List.setIfInBounds_toArray, List.set_cons_zero, List.set_cons_succ]
    obtain ⟨x1, x2, x3, x4⟩ := SF.out W (Below.refl _ _)
    go_wp2_with fail
    refine (HCC.out W (Below.refl _ _)).mono ?_
    intro e W1 h1
    obtain ⟨Pa, pa, rfl, ra, b1⟩ := bothN h1
    have RA := Lib.hid ra
    have HB1 := Lib.hid b1
    clear b1 x1 x2 x3 x4 h1 ra
    obtain ⟨x1, x2, x3, x4⟩ := SF.out W1 HB1.out
    go_wp2_with fail
    refine (HCC.out W1 HB1.out).mono ?_
    intro e W2 h1
    obtain ⟨Pb, pb, rfl, rb, b1⟩ := bothN h1
    have RB := Lib.hid rb
    have HB2 := Lib.hid b1
    have HB12 := Lib.hid (HB1.out.trans (HB2.out.mono HB1.out.size))
    clear b1 x1 x2 x3 x4 h1 rb
    go_upto_region 6 with fail
    refine wp_region_held_drew (S := fun V => Below W2.heap.size W2 V) (by kernel_rfl) (Below.refl _ _).drew (fun hSs0 => ?_)
    refine' wpAnyH_take (i := 0) (v := _) (by simp only [List.getElem?_toArray, List.getElem?_cons_zero]; rfl) (by kernel_rfl) (by kernel_rfl) (by kernel_rfl) (by exact fun _ _ _ h => h) (Or.inl ⟨by rfl, ?hys0⟩) hSs0 ?rests0
    case hys0 => intro V hSw; have fq := (SF.out V (HB12.out.trans (hSw.mono HB12.out.size))).2.2.1; clear hSw; go_simp; try with_reducible rfl
    try simp only [Act.put, List.setIfInBounds_toArray, List.set_cons_zero, List.set_cons_succ]
    refine' wpAnyH_take (i := 1) (v := _) (by simp only [List.getElem?_toArray, List.getElem?_cons_succ, List.getElem?_cons_zero]; rfl) (by kernel_rfl) (by kernel_rfl) (by kernel_rfl) (by exact fun _ _ _ h => h) (Or.inl ⟨by rfl, ?hys1⟩) hSs0 ?rests1
    case hys1 => intro V hSw; have fq := (SF.out V (HB12.out.trans (hSw.mono HB12.out.size))).2.2.2; clear hSw; go_simp; try with_reducible rfl
    try simp only [Act.put, List.setIfInBounds_toArray, List.set_cons_zero, List.set_cons_succ]
    refine' wpAnyH_take (i := 3) (v := _) (by simp only [List.getElem?_toArray, List.getElem?_cons_succ, List.getElem?_cons_zero]; rfl) (by kernel_rfl) (by kernel_rfl) (by kernel_rfl) (by exact fun _ _ _ h => h) (Or.inl ⟨by rfl, ?hys3⟩) hSs0 ?rests3
    case hys3 => intro V hSw; have fq := (SF.out V (HB12.out.trans (hSw.mono HB12.out.size))).2.2.1; clear hSw; go_simp; try with_reducible rfl
    try simp only [Act.put, List.setIfInBounds_toArray, List.set_cons_zero, List.set_cons_succ]
    refine' wpAnyH_take (i := 4) (v := _) (by simp only [List.getElem?_toArray, List.getElem?_cons_succ, List.getElem?_cons_zero]; rfl) (by kernel_rfl) (by kernel_rfl) (by kernel_rfl) (by exact fun _ _ _ h => h) (Or.inl ⟨by rfl, ?hys4⟩) hSs0 ?rests4
    case hys4 => intro V hSw; have fq := (SF.out V (HB12.out.trans (hSw.mono HB12.out.size))).2.2.2; clear hSw; go_simp; try with_reducible rfl
    try simp only [Act.put, List.setIfInBounds_toArray, List.set_cons_zero, List.set_cons_succ]
    refine wpAnyH_ready (rs := [2]) (by kernel_rfl) (by simp) ?_
    refine' AllReadyH.cons (by simp only [List.getElem?_toArray, List.getElem?_cons_succ, List.getElem?_cons_zero]; rfl) (fun K hK => ?_) AllReadyH.nil
    go_simp
    refine (HST.out _ (HB12.out.trans (hSs0.mono HB12.out.size))).mono ?_
    intro e V1 h1
    obtain ⟨Q1, q1, rfl, rq, hb⟩ := storedN h1
    have RQ1 := Lib.hid rq
    have BQ1 := Lib.hid hb
    have hS1 : Below W2.heap.size W2 V1 := hSs0.trans (hb.mono hSs0.size)
    clear hb rq h1
    go_simp
    refine hK.out _ _ hS1 (fun hT => ?_)
    clear hT hK K
    try simp only [Act.put, List.setIfInBounds_toArray, List.set_cons_zero, List.set_cons_succ]
    refine wpAnyH_ready (rs := [5]) (by kernel_rfl) (by simp) ?_
    refine' AllReadyH.cons (by simp only [List.getElem?_toArray, List.getElem?_cons_succ, List.getElem?_cons_zero]; rfl) (fun K hK => ?_) AllReadyH.nil
    go_simp
    refine (HST.out _ (HB12.out.trans (hS1.mono HB12.out.size))).mono ?_
    intro e V2 h1
    obtain ⟨Q2, q2, rfl, rq, hb⟩ := storedN h1
    have RQ2 := Lib.hid rq
    have BQ2 := Lib.hid hb
    have hS2 : Below W2.heap.size W2 V2 := hS1.trans (hb.mono hS1.size)
    clear hb rq h1
    go_simp
    refine hK.out _ _ hS2 (fun hT => ?_)
    clear hT hK K
    try simp only [Act.put, List.setIfInBounds_toArray, List.set_cons_zero, List.set_cons_succ]
    refine' wpAnyH_take (i := 6) (v := _) (by simp only [List.getElem?_toArray, List.getElem?_cons_succ, List.getElem?_cons_zero]; rfl) (by kernel_rfl) (by kernel_rfl) (by kernel_rfl) (by exact fun _ _ _ h => h) (Or.inl ⟨by rfl, ?hys6⟩) hS2 ?rests6
    case hys6 => intro V hSw; clear hSw; go_simp; try with_reducible rfl
    try simp only [Act.put, List.setIfInBounds_toArray, List.set_cons_zero, List.set_cons_succ]
    refine' wpAnyH_take (i := 7) (v := _) (by simp only [List.getElem?_toArray, List.getElem?_cons_succ, List.getElem?_cons_zero]; rfl) (by kernel_rfl) (by kernel_rfl) (by kernel_rfl) (by exact fun _ _ _ h => h) (Or.inl ⟨by rfl, ?hys7⟩) hS2 ?rests7
    case hys7 => intro V hSw; clear hSw; go_simp; try with_reducible rfl
    try simp only [Act.put, List.setIfInBounds_toArray, List.set_cons_zero, List.set_cons_succ]
    refine wpAnyH_done (by kernel_rfl) ?_ _
    have HS2 := Lib.hid hS2
    have HS1 := Lib.hid hS1.size
    have HAP := Lib.hid (two_apart (N1 := W2.heap.size) RQ1.out BQ2.out RQ2.out HS1.out (by omega) (by omega) (fun e he => by have := HSN.out e he; omega) (fun e he => by have := HSN.out e he; omega))
    clear hSs0 hS1 hS2 RQ1 RQ2 BQ1 BQ2 HS1
    have hbA : Below V2.heap.size V2 (V2.alloc (.cells #[.slice Q1 es.length q1, .slice Q2 es.length q2] 30)) := (Below.refl _ _).alloc (Nat.le_refl _) _
    have HBA := Lib.hid (HS2.out.trans (hbA.mono HS2.out.size))
    clear hbA
    go_wp2_with fail
    refine HAP.out.mono ?_
    rintro e W3 ⟨rfl, b3⟩
    have HB3 := Lib.hid (HB12.out.trans ((HBA.out.trans b3).mono HB12.out.size))
    have HB23 := Lib.hid (HBA.out.trans b3)
    clear b3 HAP HBA HS2
    obtain ⟨x1, x2, x3, x4⟩ := SF.out W3 HB3.out
    go_wp2_with fail
    refine (HCD.out _ HB3.out).mono ?_
    rintro e W4 ⟨rfl, b4⟩
    have HB4 := Lib.hid (HB3.out.trans (b4.mono HB3.out.size))
    have HB24 := Lib.hid (HB23.out.trans (b4.mono HB23.out.size))
    clear b4 x1 x2 x3 x4 HB3 HB23
    by_cases hc0 : codeC r = 0
    rotate_left
    · have hc1 : (codeC r != 0) = true := by simpa using hc0
      clear hc0
      go_wp2_with fail
      go_ret
      exact ⟨rfl, HW.out.trans (HB4.out.mono HW.out.size)⟩
    have hc1 : (codeC r != 0) = false := by simpa using hc0
    obtain ⟨cs, hcs⟩ : ∃ cs, r = .ok cs := by
      have := HR.out
      rw [← this] at hc0
      obtain ⟨q, hq⟩ := codeC_zero.1 hc0
      exact ⟨q, this.symm.trans hq⟩
    subst hcs
    simp only [codeC] at hc1
    have RA' : Hid (RowN 57 2 .i64 cpre CT.nums W.heap.size W1 (.slice Pa cs.length pa) cs) := RA
    have RB' : Hid (RowN 57 2 .i64 cpre CT.nums W1.heap.size W2 (.slice Pb cs.length pb) cs) := RB
    have hcl : cs.length ≤ 64 := HCO.out.1
    have HCK' : Hid (∀ c ∈ cs, COk c) := Lib.hid HCO.out.2
    have HCN' : Hid (∀ c ∈ cs, c.nums.length ≤ 1048576 + 1) := HCN
    obtain ⟨hbl, hbn⟩ := okE_nums (l := l) HCN'.out
    have HRA2 : Hid (∀ V, Below W2.heap.size W2 V → T.At bare V (fun g => g < V.heap.size) (cellsT cs) (.slice Pa cs.length pa)) := Lib.hid (fun V hV => rowN_lt (rowN_below (rowN_below RA'.out HB2.out) (hV.mono (by omega) : Below W2.heap.size W2 V)))
    have HBKW := Lib.hid (fun (V : World) (hV : Below W2.heap.size W2 V) => HBK.out V (HB12.out.trans (hV.mono HB12.out.size)) cs _ hcl HCK'.out (HRA2.out V hV))
    clear RA RB hc0 HBK HRA2 HCO HCN
    generalize backF txtO l cs = rb at HBKW hbl hbn
    have HBN := Lib.hid hbn
    clear hbn
    simp only [okC, codeC]
    obtain ⟨x1, x2, x3, x4⟩ := SF.out W4 HB4.out
    go_wp2_with fail
    refine (HBKW.out _ HB24.out).mono ?_
    intro e W5 h1
    obtain ⟨Xa, xa, rfl, rx, b5⟩ := bothEN h1
    have RX := Lib.hid rx
    have HB25 := Lib.hid (HB24.out.trans (b5.mono HB24.out.size))
    have HZ45 := Lib.hid b5.size
    have HBX : Hid (Below W5.heap.size W5 (W5.alloc (.cells #[.slice Xa (okE rb).length xa] 30))) := Lib.hid ((Below.refl _ _).alloc (Nat.le_refl _) _)
    have BKX := Lib.hid (Blk.new W5 30 #[.slice Xa (okE rb).length xa])
    have HN4 := Lib.hid HB24.out.size
    clear b5 x1 x2 x3 x4 h1 rx
    go_upto_region 12 with fail
    generalize W5.alloc (.cells #[.slice Xa (okE rb).length xa] 30) = W6 at *
    have HB26 := Lib.hid (HB25.out.trans (HBX.out.mono HB25.out.size))
    have HB6 := Lib.hid (HB12.out.trans (HB26.out.mono HB12.out.size))
    obtain ⟨x1, x2, x3, x4⟩ := SF.out W6 HB6.out
    go_wp2_with fail
    refine (HBKW.out _ HB26.out).mono ?_
    intro e W7 h1
    obtain ⟨Ya, ya, rfl, ry, b7⟩ := bothEN h1
    have RY := Lib.hid ry
    have HB67 := Lib.hid b7
    have HBY : Hid (Below W7.heap.size W7 (W7.alloc (.cells #[.slice Ya (okE rb).length ya] 30))) := Lib.hid ((Below.refl _ _).alloc (Nat.le_refl _) _)
    have BKY := Lib.hid (Blk.new W7 30 #[.slice Ya (okE rb).length ya])
    clear b7 x1 x2 x3 x4 h1 ry
    go_upto_region 13 with fail
    generalize W7.alloc (.cells #[.slice Ya (okE rb).length ya] 30) = W8 at *
    have HB68 := Lib.hid (HB67.out.trans (HBY.out.mono HB67.out.size))
    have HB28 := Lib.hid (HB26.out.trans (HB68.out.mono HB26.out.size))
    have HB58 := Lib.hid (HBX.out.trans (HB68.out.mono HBX.out.size))
    have c13 : W8.cell? ⟨W5.heap.size, 0, none⟩ = some (.slice Xa (okE rb).length xa) := (BKX.out.below HB68.out BKX.out.lt).cell 0
    have c15 : W8.cell? ⟨W7.heap.size, 0, none⟩ = some (.slice Ya (okE rb).length ya) := BKY.out.cell 0
    have HAP := Lib.hid (two_apart (N1 := W4.heap.size) RX.out HB58.out (rowN_le (rowN_below RY.out HBY.out) HBX.out.size) HZ45.out (by omega) (by omega) (fun e he => by have := HBN.out e he; omega) (fun e he => by have := HBN.out e he; omega))
    have hbA : Below W8.heap.size W8 (W8.alloc (.cells #[.slice Xa (okE rb).length xa, .slice Ya (okE rb).length ya] 30)) := (Below.refl _ _).alloc (Nat.le_refl _) _
    have HBA := Lib.hid (HB28.out.trans (hbA.mono HB28.out.size))
    clear hbA
    go_wp2_with fail
    refine HAP.out.mono ?_
    rintro e W9 ⟨rfl, b9⟩
    have HB29 := Lib.hid (HBA.out.trans (b9.mono HN4.out))
    have HB9 := Lib.hid (HB12.out.trans (HB29.out.mono HB12.out.size))
    clear b9 HAP HBA c13 c15 RX RY BKX BKY HBX HBY HB67 HB68 HB58 HB28 HB26 HB6 HB25 HB24 HB4 HZ45 HN4 HBKW HBN hbl HST HCC
    obtain ⟨us, us', xs, ho1, ho2, hl1, hl2, hfam, hxl⟩ := two_rows RA'.out HB2.out RB'.out HB1.out.size (fun e he => by have := HCN'.out e he; omega)
    obtain ⟨VS, hVS⟩ : ∃ VS : Nat → Value, VS = fun j => if j % 2 = 0 then nthV us (j / 2) else nthV us' (j / 2) := ⟨_, rfl⟩
    rw [← hVS] at hfam
    have HVS : Hid (∀ k, VS (2 * k) = nthV us k ∧ VS (2 * k + 1) = nthV us' k) := Lib.hid (fun k => by
      rw [hVS]
      refine ⟨?_, ?_⟩
      · (try dsimp only)
        rw [if_pos (by omega), show 2 * k / 2 = k by omega]
      · (try dsimp only)
        rw [if_neg (by omega), show (2 * k + 1) / 2 = k by omega])
    have HOA := Lib.hid (own_below ho1 HB29.out); have HOB := Lib.hid (own_below ho2 HB29.out)
    have HFM := Lib.hid (hfam.below HB29.out)
    have HXL := Lib.hid hxl; have HL1 := Lib.hid hl1; have HL2 := Lib.hid hl2
    have HWS := Lib.hid HB9.out.size
    clear hVS ho1 ho2 hl1 hl2 hfam hxl RA' RB' HB1 HB2 HCN' HCK'
    obtain ⟨s0, hs1, hs2, hs3, hs4⟩ := info_parts infoS
    have HS := Lib.hid (And.intro hs1 (And.intro hs2 (And.intro hs3 hs4)))
    clear hs1 hs2 hs3 hs4
    have H0 : Hid (Ad1 VS W9 (2 * 0) (.slice none 0 0) W9) := Lib.hid ⟨World.ownsRow_nil _ _ _ _, Below.refl _ _⟩
    go_wp2_with fail
    go_loopw [17, 18] (fun o i wr => ∃ k : Nat, k ≤ cs.length ∧ i = .int .i64 k ∧ Hid (Ad1 VS W9 (2 * k) o wr)) (fun _ i _ => cs.length - (intOf i).toNat)
    case atStart => exact ⟨0, by omega, rfl, H0⟩
    case round =>
      obtain ⟨k, hk, rfl, HQ⟩ := hrel
      obtain ⟨ao, co, hao⟩ := own_slice HQ.out.more
      subst hao
      by_cases hlk : k < cs.length
      · have hlk2 : (k : Int) < (cs.length : Int) := by omega
        obtain ⟨ga, ca, cur, ea, hba, hxa⟩ := own_at_blk HOA.out (by omega)
        obtain ⟨gb, cb, cur', eb, hbb, hxb⟩ := own_at_blk HOB.out (by omega)
        injection ea with ea1 _ ea2
        injection eb with eb1 _ eb2
        subst ea1 ea2 eb1 eb2
        obtain ⟨al, cl, el⟩ := own_slice (HFM.out.ent (2 * k) (by omega)).v
        obtain ⟨bl, dl, fl⟩ := own_slice (HFM.out.ent (2 * k + 1) (by omega)).v
        have HEL := Lib.hid el; have HFL := Lib.hid fl
        generalize (xs (2 * k)).length = nl at *
        generalize (xs (2 * k + 1)).length = ml at *
        have fa : W9.cell? ⟨ga, k * 3 + 2, none⟩ = some (.slice al nl cl) := by
          rw [← el, (HVS.out k).1, Nat.mul_comm]
          exact (hba.cell _).trans (hxa _ _ (vals3_at (fun _ => rfl) HL1.out hlk))
        have fb : W9.cell? ⟨gb, k * 3 + 2, none⟩ = some (.slice bl ml dl) := by
          rw [← fl, (HVS.out k).2, Nat.mul_comm]
          exact (hbb.cell _).trans (hxb _ _ (vals3_at (fun _ => rfl) HL2.out hlk))
        have HFA : Hid (∀ V, Below W9.heap.size W9 V → V.cell? ⟨ga, k * 3 + 2, none⟩ = some (.slice al nl cl) ∧ V.cell? ⟨gb, k * 3 + 2, none⟩ = some (.slice bl ml dl)) := Lib.hid (fun V hV => ⟨(hV.cell (p := ⟨ga, k * 3 + 2, none⟩) hba.lt).trans fa, (hV.cell (p := ⟨gb, k * 3 + 2, none⟩) hbb.lt).trans fb⟩)
        have HQ' := Lib.hid HQ.out.below.size
        clear el fl fa fb hba hbb hxa hxb
        go_upto_region 19 with fail
        refine wp_region_held_drew (S := fun V => Below W9.heap.size W9 V) (by kernel_rfl) HQ.out.below.drew (fun hSg0 => ?_)
        refine' wpAnyH_take (i := 0) (v := _) (by simp only [List.getElem?_toArray, List.getElem?_cons_zero]; rfl) (by kernel_rfl) (by kernel_rfl) (by kernel_rfl) (by exact fun _ _ _ h => h) (Or.inl ⟨by rfl, ?hyg0⟩) hSg0 ?restg0
        case hyg0 => intro V hSw; clear hSw; go_simp; try with_reducible rfl
        try simp only [Act.put, List.setIfInBounds_toArray, List.set_cons_zero, List.set_cons_succ]
        refine' wpAnyH_take (i := 1) (v := _) (by simp only [List.getElem?_toArray, List.getElem?_cons_succ, List.getElem?_cons_zero]; rfl) (by kernel_rfl) (by kernel_rfl) (by kernel_rfl) (by exact fun _ _ _ h => h) (Or.inl ⟨by rfl, ?hyg1⟩) hSg0 ?restg1
        case hyg1 => intro V hSw; clear hSw; go_simp; try with_reducible rfl
        try simp only [Act.put, List.setIfInBounds_toArray, List.set_cons_zero, List.set_cons_succ]
        refine' wpAnyH_take (i := 2) (v := _) (by simp only [List.getElem?_toArray, List.getElem?_cons_succ, List.getElem?_cons_zero]; rfl) (by kernel_rfl) (by kernel_rfl) (by kernel_rfl) (by exact fun _ _ _ h => h) (Or.inl ⟨by rfl, ?hyg2⟩) hSg0 ?restg2
        case hyg2 => intro V hSw; clear hSw; go_simp; try with_reducible rfl
        try simp only [Act.put, List.setIfInBounds_toArray, List.set_cons_zero, List.set_cons_succ]
        refine' wpAnyH_take (i := 3) (v := _) (by simp only [List.getElem?_toArray, List.getElem?_cons_succ, List.getElem?_cons_zero]; rfl) (by kernel_rfl) (by kernel_rfl) (by kernel_rfl) (by exact fun _ _ _ h => h) (Or.inl ⟨by rfl, ?hyg3⟩) hSg0 ?restg3
        case hyg3 => intro V hSw; clear hSw; go_simp; try with_reducible rfl
        try simp only [Act.put, List.setIfInBounds_toArray, List.set_cons_zero, List.set_cons_succ]
        refine' wpAnyH_take (i := 4) (v := _) (by simp only [List.getElem?_toArray, List.getElem?_cons_succ, List.getElem?_cons_zero]; rfl) (by kernel_rfl) (by kernel_rfl) (by kernel_rfl) (by exact fun _ _ _ h => h) (Or.inl ⟨by rfl, ?hyg4⟩) hSg0 ?restg4
        case hyg4 => intro V hSw; clear hSw; go_simp; try with_reducible rfl
        try simp only [Act.put, List.setIfInBounds_toArray, List.set_cons_zero, List.set_cons_succ]
        refine' wpAnyH_take (i := 5) (v := _) (by simp only [List.getElem?_toArray, List.getElem?_cons_succ, List.getElem?_cons_zero]; rfl) (by kernel_rfl) (by kernel_rfl) (by kernel_rfl) (by exact fun _ _ _ h => h) (Or.inl ⟨by rfl, ?hyg5⟩) hSg0 ?restg5
        case hyg5 => intro V hSw; have fq := (HFA.out V hSw).1; clear hSw; go_simp; try with_reducible rfl
        try simp only [Act.put, List.setIfInBounds_toArray, List.set_cons_zero, List.set_cons_succ]
        refine' wpAnyH_take (i := 6) (v := _) (by simp only [List.getElem?_toArray, List.getElem?_cons_succ, List.getElem?_cons_zero]; rfl) (by kernel_rfl) (by kernel_rfl) (by kernel_rfl) (by exact fun _ _ _ h => h) (Or.inl ⟨by rfl, ?hyg6⟩) hSg0 ?restg6
        case hyg6 => intro V hSw; clear hSw; go_simp; try with_reducible rfl
        try simp only [Act.put, List.setIfInBounds_toArray, List.set_cons_zero, List.set_cons_succ]
        refine' wpAnyH_take (i := 7) (v := _) (by simp only [List.getElem?_toArray, List.getElem?_cons_succ, List.getElem?_cons_zero]; rfl) (by kernel_rfl) (by kernel_rfl) (by kernel_rfl) (by exact fun _ _ _ h => h) (Or.inl ⟨by rfl, ?hyg7⟩) hSg0 ?restg7
        case hyg7 => intro V hSw; clear hSw; go_simp; try with_reducible rfl
        try simp only [Act.put, List.setIfInBounds_toArray, List.set_cons_zero, List.set_cons_succ]
        refine' wpAnyH_take (i := 8) (v := _) (by simp only [List.getElem?_toArray, List.getElem?_cons_succ, List.getElem?_cons_zero]; rfl) (by kernel_rfl) (by kernel_rfl) (by kernel_rfl) (by exact fun _ _ _ h => h) (Or.inl ⟨by rfl, ?hyg8⟩) hSg0 ?restg8
        case hyg8 => intro V hSw; clear hSw; go_simp; try with_reducible rfl
        try simp only [Act.put, List.setIfInBounds_toArray, List.set_cons_zero, List.set_cons_succ]
        refine' wpAnyH_take (i := 9) (v := _) (by simp only [List.getElem?_toArray, List.getElem?_cons_succ, List.getElem?_cons_zero]; rfl) (by kernel_rfl) (by kernel_rfl) (by kernel_rfl) (by exact fun _ _ _ h => h) (Or.inl ⟨by rfl, ?hyg9⟩) hSg0 ?restg9
        case hyg9 => intro V hSw; clear hSw; go_simp; try with_reducible rfl
        try simp only [Act.put, List.setIfInBounds_toArray, List.set_cons_zero, List.set_cons_succ]
        refine' wpAnyH_take (i := 10) (v := _) (by simp only [List.getElem?_toArray, List.getElem?_cons_succ, List.getElem?_cons_zero]; rfl) (by kernel_rfl) (by kernel_rfl) (by kernel_rfl) (by exact fun _ _ _ h => h) (Or.inl ⟨by rfl, ?hyg10⟩) hSg0 ?restg10
        case hyg10 => intro V hSw; have fq := (HFA.out V hSw).2; clear hSw; go_simp; try with_reducible rfl
        try simp only [Act.put, List.setIfInBounds_toArray, List.set_cons_zero, List.set_cons_succ]
        refine wpAnyH_ready (rs := [11]) (by kernel_rfl) (by simp) ?_
        refine' AllReadyH.cons (by simp only [List.getElem?_toArray, List.getElem?_cons_succ, List.getElem?_cons_zero]; rfl) (fun K hK => ?_) AllReadyH.nil
        go_simp
        refine hK.out _ _ (Below.alloc hSg0 hSg0.size _) (fun hSg1 => ?_)
        clear hK K
        try simp only [Act.put, List.setIfInBounds_toArray, List.set_cons_zero, List.set_cons_succ]
        refine wpAnyH_ready (rs := [12]) (by kernel_rfl) (by simp) ?_
        refine' AllReadyH.cons (by simp only [List.getElem?_toArray, List.getElem?_cons_succ, List.getElem?_cons_zero]; rfl) (fun K hK => ?_) AllReadyH.nil
        obtain ⟨hs1, hs2, hs3, hs4⟩ := HS.out
        have hown : (wr.drew.alloc (.cells #[.slice al nl cl, .slice bl ml dl] 55)).ownsRow W9.heap.size 55 1 (.slice ao (2 * k) co) (2 * k) ((List.range (2 * k)).map VS) := own_below HQ.out.more ((Below.refl _ _).drew.alloc (Nat.le_refl _) _)
        refine step_append_any _ rfl (.tmp 81) (.tmp 92) 63 rfl W9.heap.size 55 s0 _ 1 24 Tryz.underlying63 hs1 hs2 hs3 hs4 rfl (by decide) _ _ _ rfl hown (wr.heap.size + 1) (some ⟨wr.heap.size, 0, none⟩) 2 2 [.slice al nl cl, .slice bl ml dl] rfl ?e1 ?e2 ?e3 ?e4 ?e5 ?_
        case e1 => exact ⟨rfl, fun _ => ⟨_, rfl, Nat.lt_succ_self _, World.news_of_block (Blk.new wr.drew _ _)⟩⟩
        case e2 => intro u hu; simp only [List.mem_cons, List.not_mem_nil, or_false] at hu; rcases hu with rfl | rfl <;> rfl
        case e3 => unfold maxLen; omega
        case e4 => omega
        case e5 => exact Nat.le_trans HQ'.out (by simp)
        intro m' w' ho hg _
        have HN := Lib.hid (HQ.out.next2 (wq := wr.drew.alloc (.cells #[.slice al nl cl, .slice bl ml dl] 55)) ((Below.refl _ _).drew.alloc HQ'.out _) (by rw [HEL.out, HFL.out]; exact ho) hg)
        clear ho hg hown hs1 hs2 hs3 hs4
        refine hK.out _ _ HN.out.below (fun hSg2 => ?_)
        clear hK K
        try simp only [Act.put, List.setIfInBounds_toArray, List.set_cons_zero, List.set_cons_succ]
        refine' wpAnyH_take (i := 13) (v := _) (by simp only [List.getElem?_toArray, List.getElem?_cons_succ, List.getElem?_cons_zero]; rfl) (by kernel_rfl) (by kernel_rfl) (by kernel_rfl) (by exact fun _ _ _ h => h) (Or.inl ⟨by rfl, ?hyg13⟩) hSg2 ?restg13
        case hyg13 => intro V hSw; clear hSw; go_simp; try with_reducible rfl
        try simp only [Act.put, List.setIfInBounds_toArray, List.set_cons_zero, List.set_cons_succ]
        refine wpAnyH_done (by kernel_rfl) ?_ _
        clear hSg0 hSg1 hSg2
        go_wp2_with fail
        go_roundw
        case rel => exact ⟨k + 1, by omega, by go_num, HN⟩
        case measure => simp [intOf]; omega
      · obtain rfl : k = cs.length := by omega
        have HAI := Lib.hid (apart_any _ (2 * cs.length) W9.heap.size W.heap.size VS xs wr HQ.out.more (HFM.out.below HQ.out.below) HXL.out (by omega) (Nat.le_trans HWS.out HQ.out.below.size))
        have HBr := Lib.hid (HB9.out.trans (HQ.out.below.mono HWS.out))
        have HNI : Hid (∀ V, But (InRows (2 * cs.length) VS) wr V → Below W.heap.size wr V) := Lib.hid (fun V hV => hV.below (Nat.le_trans HWS.out HQ.out.below.size) (fun g hg ⟨j, hj, he⟩ => by have := ((HFM.out.ent j hj).v.lt g he).1; omega))
        clear HQ
        go_wp2_with fail
        refine HAI.out.mono ?_
        rintro e W10 ⟨rfl, hbut⟩
        have HB10 := Lib.hid (HBr.out.trans (HNI.out W10 hbut))
        clear hbut HAI HNI HBr
        obtain ⟨x1, x2, x3, x4⟩ := SF.out W10 HB10.out
        go_wp2_with fail
        refine (HCD.out _ HB10.out).mono ?_
        rintro e W11 ⟨rfl, b11⟩
        have HB11 := Lib.hid (HB10.out.trans (b11.mono HB10.out.size))
        clear b11 x1 x2 x3 x4
        obtain ⟨x1, x2, x3, x4⟩ := SF.out W11 HB11.out
        go_wp2_with fail
        refine (HCK.out _ HB11.out).mono ?_
        rintro e W12 ⟨rfl, b12⟩
        have HB13 := Lib.hid (HB11.out.trans (b12.mono HB11.out.size))
        clear b12 x1 x2 x3 x4
        go_wp2_with fail
        go_ret
        exact ⟨rfl, HW.out.trans (HB13.out.mono HW.out.size)⟩
end Go.Proofs.YtfckomjbgopmaaaGreatDoor.SchemaOwnWalk
