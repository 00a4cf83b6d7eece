/- The walk of SchemaBacks. Written by gen_schbacks.py. -/
import Derived.Test.YtfckomjbgopmaaaGreatDoorPack12
import Derived.Test.YtfckomjbgopmaaaGreatDoorSchBack
import Derived.Test.YtfckomjbgopmaaaGreatDoorSchRefBack
import Derived.Test.YtfckomjbgopmaaaGreatDoorPack25
import Derived.Test.YtfckomjbgopmaaaGreatDoorSchToks
import Derived.Test.YtfckomjbgopmaaaGreatDoorSchRefToks
import Derived.Deep.RegionHeld3
set_option linter.unusedVariables false
namespace Go.Proofs.YtfckomjbgopmaaaGreatDoor.SchemaBacksWalk
open Go.RowKit Words Tree SchP Kit Owned Sch AnaP

set_option maxRecDepth 100000 in
set_option maxHeartbeats 100000000 in
theorem walk (u x : Value) (l : List FT) (field : Int) (cs : List CT) (w : World) (hu : T.At bare w (fun g => g < w.heap.size) (fieldsT l) u) (hl : l.length * 72 ≤ 140737488351232) (okf : ∀ f ∈ l, FOk f)
    (hx : T.At bare w (fun g => g < w.heap.size) (cellsT cs) x) (hd : cs.length ≤ 1048576) (okc : ∀ c ∈ cs, COk c) (hT : FoldNext.Tabs w) (hO : Lib.TabIs Tryz.prog w "internal/strconv.uint64pow10" .u64 Lib.pow10Tab) :
    Calls Tryz.prog 3 #[.agg #[u], .int .i64 field, x] w (AnsB true w) := by
  have hlt : ∀ {V : World} {g : Nat}, Below w.heap.size w V → g < w.heap.size → g < V.heap.size := fun hV hg => Nat.lt_of_lt_of_le hg hV.size
  have HL1 := Lib.hid (fun (V : World) (hV : Below w.heap.size w V) => lentSchema_any u l V (At.below hu hV (fun g hg => hlt hV hg)) hl okf)
  have HL2 := Lib.hid (fun (V : World) (hV : Below w.heap.size w V) => lentCells_any x cs V (At.below hx hV (fun g hg => hlt hV hg)) (by omega) okc)
  have HRB := Lib.hid (fun (V : World) (hV : Below w.heap.size w V) => refBack_any u x l cs V (At.below hu hV (fun g hg => hlt hV hg)) hl okf (At.below hx hV (fun g hg => hlt hV hg)) (by omega) okc)
  have HRT := Lib.hid (fun (V : World) (hV : Below w.heap.size w V) => refToksW_any u x l field cs V (At.below hu hV (fun g hg => hlt hV hg)) hl okf (At.below hx hV (fun g hg => hlt hV hg)) hd okc)
  have HIN := Lib.hid (fun (vi vd : Value) (W : World) (hi : T.At lent W (fun g => g < W.heap.size) (fieldsT l) vi) (hdd : T.At lentC W (fun g => g < W.heap.size) (cellsT cs) vd) (V : World) (hV : Below W.heap.size W V) (hw : Below w.heap.size w V) =>
    have hi' := At.below (S' := fun g => g < V.heap.size) hi hV (fun g hg => Nat.lt_of_lt_of_le hg hV.size)
    have hd' := At.below (S' := fun g => g < V.heap.size) hdd hV (fun g hg => Nat.lt_of_lt_of_le hg hV.size)
    And.intro (And.intro (back_any vi vd l cs V (At.bare hi') hl okf (At.bare hd') (by omega) okc (OrdLib.pow_next hO hw)) (toksW_any vi vd l field cs V (At.bare hi') hl okf (At.bare hd') hd okc (hT.next hw)))
      (And.intro (keptSchema_any vi u l V hi' (At.below hu hw (fun g hg => hlt hw hg)) hl okf) (keptCells_any vd x cs V hd' (At.below hx hw (fun g hg => hlt hw hg)) (by omega) okc)))
  have HOK := okE_ok okf okc
  obtain ⟨r, hr⟩ : ∃ r, backF txtO l cs = r := ⟨_, rfl⟩
  rw [hr] at HRB HIN HOK
  have HEQ := Lib.hid (fun (va vb : Value) (V : World) (ha : T.At bare V (fun g => g < V.heap.size) (entriesT (okE r)) va) (hb : T.At bare V (fun g => g < V.heap.size) (entriesT (okE r)) vb) =>
    kitDoc_any va vb (okE r) (okE r) V ha hb (by have := HOK.1; omega) (by have := HOK.1; omega) HOK.2 HOK.2 true (by simp))
  have htk := toksF_ok l field cs
  obtain ⟨ts, hts⟩ : ∃ ts, toksF l field cs = ts := ⟨_, rfl⟩
  rw [hts] at HRT HIN htk
  have htl : ts.length ≤ 4398046511104 := by have := htk.len; omega
  have HTX := Lib.hid htk.text
  clear hr HOK hT hO hts htk
  obtain ⟨A, cA, rfl, _, _⟩ := at_slice hu
  obtain ⟨D, cD, rfl, _, _⟩ := at_slice hx
  clear hu hx hlt
  go_enter Tryz.func3, Tryz.ntmps3
  go_wp2_with fail
  have hB0 : Below w.heap.size w (w.alloc (.cells #[.slice A l.length cA] 24)) := (Below.refl _ _).alloc (Nat.le_refl _) _
  have BA0 := Blk.new w 24 #[.slice A l.length cA]
  refine (HL1.out _ hB0).mono ?_
  rintro e W1 ⟨vi, rfl, ai, b1⟩
  have HB1 := Lib.hid (hB0.trans (b1.mono hB0.size))
  have BA1 := Lib.hid (BA0.below b1 (by simp))
  obtain ⟨L, c1, rfl, _, _⟩ := at_slice ai
  have AI := Lib.hid (At.keep (S' := fun g => g < W1.heap.size) (fun _ _ => rfl) (fun g h => h.2) ai)
  clear b1 ai BA0 hB0
  go_wp2_with fail
  refine (HL2.out _ HB1.out).mono ?_
  rintro e W2 ⟨vc, rfl, ac, b2⟩
  have HB2 := Lib.hid (HB1.out.trans (b2.mono HB1.out.size))
  have BA2 := Lib.hid (BA1.out.below b2 BA1.out.lt)
  obtain ⟨M, c2, rfl, _, _⟩ := at_slice ac
  have AI2 := Lib.hid (At.below (S' := fun g => g < W2.heap.size) AI.out b2 (fun g hg => Nat.lt_of_lt_of_le hg b2.size))
  have AC2 := Lib.hid (At.keep (S' := fun g => g < W2.heap.size) (fun _ _ => rfl) (fun g h => h.2) ac)
  clear b2 ac AI BA1
  have HC := Lib.hid (HIN.out _ _ W2 AI2.out AC2.out)
  clear HIN AI2 AC2 HL1 HL2
  go_upto_region 2 with fail
  have HB3 : Hid (Below W2.heap.size W2 (W2.alloc (.cells #[.slice L l.length c1] 24))) := Lib.hid ((Below.refl _ _).alloc (Nat.le_refl _) _)
  have B7 : Hid (Blk (W2.alloc (.cells #[.slice L l.length c1] 24)) W2.heap.size 24 #[.slice L l.length c1]) := Lib.hid (Blk.new _ _ _)
  have BA3 := Lib.hid (BA2.out.below HB3.out BA2.out.lt)
  generalize W2.alloc (.cells #[.slice L l.length c1] 24) = W3 at *
  have HW := Lib.hid HB2.out
  have HCB := Lib.hid (fun V hV => (HC.out V hV (HW.out.trans (hV.mono HW.out.size))).1.1)
  have HCT := Lib.hid (fun V hV => (HC.out V hV (HW.out.trans (hV.mono HW.out.size))).1.2)
  have HCK := Lib.hid (fun V hV => (HC.out V hV (HW.out.trans (hV.mono HW.out.size))).2.1)
  have HCD := Lib.hid (fun V hV => (HC.out V hV (HW.out.trans (hV.mono HW.out.size))).2.2)
  have HR2 := Lib.hid (fun V (hV : Below W2.heap.size W2 V) => HRB.out V (HW.out.trans (hV.mono HW.out.size)))
  have HT2 := Lib.hid (fun V (hV : Below W2.heap.size W2 V) => HRT.out V (HW.out.trans (hV.mono HW.out.size)))
  clear HC HRB HRT
  obtain ⟨n, hn⟩ : ∃ n, codeE r = n := ⟨_, rfl⟩
  have hnn : (n == n) = true := by simp
  have x7 : W3.cell? ⟨W2.heap.size, 0, none⟩ = some (.slice L l.length c1) := B7.out.cell 0
  go_wp2_with fail
  refine (HCB.out W3 HB3.out).mono ?_
  intro e W4 h4
  obtain ⟨va, rfl, ga, b4⟩ := bothE h4
  obtain ⟨P, p1, rfl, _, _⟩ := at_slice ga
  rw [hn]
  have GA4 := Lib.hid (At.keep (S' := fun g => g < W4.heap.size) (fun _ _ => rfl) (fun g h => h.2.lt) ga)
  have HB4 := Lib.hid (HB3.out.trans (b4.mono HB3.out.size))
  have BA4 := Lib.hid (BA3.out.below b4 BA3.out.lt)
  have B74 := Lib.hid (B7.out.below b4 B7.out.lt)
  clear h4 ga b4 x7 BA3 B7
  go_upto_region 3 with fail
  have hb5 : Below W4.heap.size W4 (W4.alloc (.cells #[.slice P (okE r).length p1] 30)) := (Below.refl _ _).alloc (Nat.le_refl _) _
  have B9 : Hid (Blk (W4.alloc (.cells #[.slice P (okE r).length p1] 30)) W4.heap.size 30 #[.slice P (okE r).length p1]) := Lib.hid (Blk.new _ _ _)
  generalize W4.alloc (.cells #[.slice P (okE r).length p1] 30) = W5 at *
  have HB5 := Lib.hid (HB4.out.trans (hb5.mono HB4.out.size))
  have BA5 := Lib.hid (BA4.out.below hb5 BA4.out.lt)
  have B75 := Lib.hid (B74.out.below hb5 B74.out.lt)
  have GA5 := Lib.hid (At.below (S' := fun g => g < W5.heap.size) GA4.out hb5 (fun g hg => Nat.lt_of_lt_of_le hg hb5.size))
  have x3 : W5.cell? ⟨w.heap.size, 0, none⟩ = some (.slice A l.length cA) := BA5.out.cell 0
  clear hb5 BA4 B74 GA4
  go_wp2_with fail
  refine (HR2.out W5 HB5.out).mono ?_
  intro e W6 h6
  obtain ⟨vb, rfl, gb, b6⟩ := bothE h6
  obtain ⟨Q, p2, rfl, _, _⟩ := at_slice gb
  rw [hn]
  have GB6 := Lib.hid (At.keep (S' := fun g => g < W6.heap.size) (fun _ _ => rfl) (fun g h => h.2.lt) gb)
  have GA6 := Lib.hid (At.below (S' := fun g => g < W6.heap.size) GA5.out b6 (fun g hg => Nat.lt_of_lt_of_le hg b6.size))
  have HB6 := Lib.hid (HB5.out.trans (b6.mono HB5.out.size))
  have BA6 := Lib.hid (BA5.out.below b6 BA5.out.lt)
  have B76 := Lib.hid (B75.out.below b6 B75.out.lt)
  have B96 := Lib.hid (B9.out.below b6 B9.out.lt)
  clear h6 gb b6 x3 BA5 B75 B9 GA5
  go_upto_region 4 with fail
  have hb7 : Below W6.heap.size W6 (W6.alloc (.cells #[.slice Q (okE r).length p2] 30)) := (Below.refl _ _).alloc (Nat.le_refl _) _
  have B11 : Hid (Blk (W6.alloc (.cells #[.slice Q (okE r).length p2] 30)) W6.heap.size 30 #[.slice Q (okE r).length p2]) := Lib.hid (Blk.new _ _ _)
  generalize W6.alloc (.cells #[.slice Q (okE r).length p2] 30) = W7 at *
  have HB7 := Lib.hid (HB6.out.trans (hb7.mono HB6.out.size))
  have BA7 := Lib.hid (BA6.out.below hb7 BA6.out.lt)
  have B77 := Lib.hid (B76.out.below hb7 B76.out.lt)
  have B97 := Lib.hid (B96.out.below hb7 B96.out.lt)
  have GA7 := Lib.hid (At.below (S' := fun g => g < W7.heap.size) GA6.out hb7 (fun g hg => Nat.lt_of_lt_of_le hg hb7.size))
  have GB7 := Lib.hid (At.below (S' := fun g => g < W7.heap.size) GB6.out hb7 (fun g hg => Nat.lt_of_lt_of_le hg hb7.size))
  have HVV : Hid (∀ V, Below W7.heap.size W7 V → Below W2.heap.size W2 V) := Lib.hid (fun V hV => HB7.out.trans (hV.mono HB7.out.size))
  have HEV := Lib.hid (fun V (hV : Below W7.heap.size W7 V) => HEQ.out _ _ V (At.below (S' := fun g => g < V.heap.size) GA7.out hV (fun g hg => Nat.lt_of_lt_of_le hg hV.size)) (At.below (S' := fun g => g < V.heap.size) GB7.out hV (fun g hg => Nat.lt_of_lt_of_le hg hV.size)))
  clear hb7 BA6 B76 B96 GA6 GB6 HEQ hn
  refine wp_region_held_drew (S := fun V => Below W7.heap.size W7 V) (by kernel_rfl) (Below.refl _ _).drew (fun hS0 => ?_)
  refine' wpAnyH_take (i := 0) (v := _) (by simp only [List.getElem?_toArray, List.getElem?_cons_zero]; rfl) (by kernel_rfl) (by kernel_rfl) (by kernel_rfl) (by exact fun _ _ _ h => h) (Or.inl ⟨by rfl, ?hma0⟩) hS0 ?rma0
  case hma0 => intro V hSw; clear hSw; go_simp; try with_reducible rfl
  try simp only [Act.put, List.setIfInBounds_toArray, List.set_cons_zero, List.set_cons_succ]
  refine' wpAnyH_take (i := 1) (v := _) (by simp only [List.getElem?_toArray, List.getElem?_cons_succ, List.getElem?_cons_zero]; rfl) (by kernel_rfl) (by kernel_rfl) (by kernel_rfl) (by exact fun _ _ _ h => h) (Or.inl ⟨by rfl, ?hma1⟩) hS0 ?rma1
  case hma1 => intro V hSw; clear hSw; go_simp; try with_reducible rfl
  try simp only [Act.put, List.setIfInBounds_toArray, List.set_cons_zero, List.set_cons_succ]
  refine' wpAnyH_take (i := 2) (v := _) (by simp only [List.getElem?_toArray, List.getElem?_cons_succ, List.getElem?_cons_zero]; rfl) (by kernel_rfl) (by kernel_rfl) (by kernel_rfl) (by exact fun _ _ _ h => h) (Or.inl ⟨by rfl, ?hma2⟩) hS0 ?rma2
  case hma2 => intro V hSw; clear hSw; go_simp; try with_reducible rfl
  try simp only [Act.put, List.setIfInBounds_toArray, List.set_cons_zero, List.set_cons_succ]
  refine' wpAnyH_take (i := 3) (v := _) (by simp only [List.getElem?_toArray, List.getElem?_cons_succ, List.getElem?_cons_zero]; rfl) (by kernel_rfl) (by kernel_rfl) (by kernel_rfl) (by exact fun _ _ _ h => h) (Or.inl ⟨by rfl, ?hma3⟩) hS0 ?rma3
  case hma3 => intro V hSw; clear hSw; go_simp; try with_reducible rfl
  try simp only [Act.put, List.setIfInBounds_toArray, List.set_cons_zero, List.set_cons_succ]
  refine' wpAnyH_take (i := 4) (v := _) (by simp only [List.getElem?_toArray, List.getElem?_cons_succ, List.getElem?_cons_zero]; rfl) (by kernel_rfl) (by kernel_rfl) (by kernel_rfl) (by exact fun _ _ _ h => h) (Or.inl ⟨by rfl, ?hma4⟩) hS0 ?rma4
  case hma4 => intro V hSw; have fq : V.cell? ⟨W4.heap.size, 0, none⟩ = some (.slice P (okE r).length p1) := (B97.out.below hSw B97.out.lt).cell 0; clear hSw; go_simp; try with_reducible rfl
  try simp only [Act.put, List.setIfInBounds_toArray, List.set_cons_zero, List.set_cons_succ]
  refine' wpAnyH_take (i := 5) (v := _) (by simp only [List.getElem?_toArray, List.getElem?_cons_succ, List.getElem?_cons_zero]; rfl) (by kernel_rfl) (by kernel_rfl) (by kernel_rfl) (by exact fun _ _ _ h => h) (Or.inl ⟨by rfl, ?hma5⟩) hS0 ?rma5
  case hma5 => intro V hSw; have fq : V.cell? ⟨W6.heap.size, 0, none⟩ = some (.slice Q (okE r).length p2) := (B11.out.below hSw B11.out.lt).cell 0; clear hSw; go_simp; try with_reducible rfl
  try simp only [Act.put, List.setIfInBounds_toArray, List.set_cons_zero, List.set_cons_succ]
  refine wpAnyH_ready (rs := [6]) (by kernel_rfl) (by simp) ?_
  refine' AllReadyH.cons (by simp only [List.getElem?_toArray, List.getElem?_cons_succ, List.getElem?_cons_zero]; rfl) (fun K hK => ?_) AllReadyH.nil
  go_simp
  refine (HEV.out _ hS0).mono ?_
  rintro e V1 ⟨rfl, hb⟩
  have hS1 : Below W7.heap.size W7 V1 := hS0.trans (hb.mono hS0.size)
  clear hb
  go_simp
  refine hK.out _ _ hS1 (fun hT1 => ?_)
  clear hT1 hK K
  try simp only [Act.put, List.setIfInBounds_toArray, List.set_cons_zero, List.set_cons_succ]
  refine' wpAnyH_take (i := 7) (v := _) (by simp only [List.getElem?_toArray, List.getElem?_cons_succ, List.getElem?_cons_zero]; rfl) (by kernel_rfl) (by kernel_rfl) (by kernel_rfl) (by exact fun _ _ _ h => h) (Or.inl ⟨by rfl, ?hmb7⟩) hS1 ?rmb7
  case hmb7 => intro V hSw; clear hSw; go_simp; try with_reducible rfl
  try simp only [Act.put, List.setIfInBounds_toArray, List.set_cons_zero, List.set_cons_succ]
  refine' wpAnyH_take (i := 8) (v := _) (by simp only [List.getElem?_toArray, List.getElem?_cons_succ, List.getElem?_cons_zero]; rfl) (by kernel_rfl) (by kernel_rfl) (by kernel_rfl) (by exact fun _ _ _ h => h) (Or.inl ⟨by rfl, ?hmb8⟩) hS1 ?rmb8
  case hmb8 => intro V hSw; clear hSw; go_simp; try with_reducible rfl
  try simp only [Act.put, List.setIfInBounds_toArray, List.set_cons_zero, List.set_cons_succ]
  refine' wpAnyH_take (i := 9) (v := _) (by simp only [List.getElem?_toArray, List.getElem?_cons_succ, List.getElem?_cons_zero]; rfl) (by kernel_rfl) (by kernel_rfl) (by kernel_rfl) (by exact fun _ _ _ h => h) (Or.inl ⟨by rfl, ?hmb9⟩) hS1 ?rmb9
  case hmb9 => intro V hSw; have fq : V.cell? ⟨W2.heap.size, 0, none⟩ = some (.slice L l.length c1) := (B77.out.below hSw B77.out.lt).cell 0; clear hSw; go_simp; try with_reducible rfl
  try simp only [Act.put, List.setIfInBounds_toArray, List.set_cons_zero, List.set_cons_succ]
  refine' wpAnyH_take (i := 10) (v := _) (by simp only [List.getElem?_toArray, List.getElem?_cons_succ, List.getElem?_cons_zero]; rfl) (by kernel_rfl) (by kernel_rfl) (by kernel_rfl) (by exact fun _ _ _ h => h) (Or.inl ⟨by rfl, ?hmb10⟩) hS1 ?rmb10
  case hmb10 => intro V hSw; clear hSw; go_simp; try with_reducible rfl
  try simp only [Act.put, List.setIfInBounds_toArray, List.set_cons_zero, List.set_cons_succ]
  refine' wpAnyH_take (i := 11) (v := _) (by simp only [List.getElem?_toArray, List.getElem?_cons_succ, List.getElem?_cons_zero]; rfl) (by kernel_rfl) (by kernel_rfl) (by kernel_rfl) (by exact fun _ _ _ h => h) (Or.inl ⟨by rfl, ?hmb11⟩) hS1 ?rmb11
  case hmb11 => intro V hSw; clear hSw; go_simp; try with_reducible rfl
  try simp only [Act.put, List.setIfInBounds_toArray, List.set_cons_zero, List.set_cons_succ]
  refine' wpAnyH_take (i := 13) (v := _) (by simp only [List.getElem?_toArray, List.getElem?_cons_succ, List.getElem?_cons_zero]; rfl) (by kernel_rfl) (by kernel_rfl) (by kernel_rfl) (by exact fun _ _ _ h => h) (Or.inl ⟨by rfl, ?hmb13⟩) hS1 ?rmb13
  case hmb13 => intro V hSw; have fq : V.cell? ⟨w.heap.size, 0, none⟩ = some (.slice A l.length cA) := (BA7.out.below hSw BA7.out.lt).cell 0; clear hSw; go_simp; try with_reducible rfl
  try simp only [Act.put, List.setIfInBounds_toArray, List.set_cons_zero, List.set_cons_succ]
  refine' wpAnyH_take (i := 14) (v := _) (by simp only [List.getElem?_toArray, List.getElem?_cons_succ, List.getElem?_cons_zero]; rfl) (by kernel_rfl) (by kernel_rfl) (by kernel_rfl) (by exact fun _ _ _ h => h) (Or.inl ⟨by rfl, ?hmb14⟩) hS1 ?rmb14
  case hmb14 => intro V hSw; clear hSw; go_simp; try with_reducible rfl
  try simp only [Act.put, List.setIfInBounds_toArray, List.set_cons_zero, List.set_cons_succ]
  refine' wpAnyH_take (i := 15) (v := _) (by simp only [List.getElem?_toArray, List.getElem?_cons_succ, List.getElem?_cons_zero]; rfl) (by kernel_rfl) (by kernel_rfl) (by kernel_rfl) (by exact fun _ _ _ h => h) (Or.inl ⟨by rfl, ?hmb15⟩) hS1 ?rmb15
  case hmb15 => intro V hSw; clear hSw; go_simp; try with_reducible rfl
  try simp only [Act.put, List.setIfInBounds_toArray, List.set_cons_zero, List.set_cons_succ]
  refine wpAnyH_ready (rs := [12]) (by kernel_rfl) (by simp) ?_
  refine' AllReadyH.cons (by simp only [List.getElem?_toArray, List.getElem?_cons_succ, List.getElem?_cons_zero]; rfl) (fun K hK => ?_) AllReadyH.nil
  go_simp
  refine (HCT.out _ (HVV.out _ hS1)).mono ?_
  rintro e V2 ⟨to1, tc1, rfl, ho, hb⟩
  have hS2 : Below W7.heap.size W7 V2 := hS1.trans (hb.mono hS1.size)
  have HO2 := Lib.hid ho
  clear hb ho
  go_simp
  refine hK.out _ _ hS2 (fun hT2 => ?_)
  clear hT2 hK K
  try simp only [Act.put, List.setIfInBounds_toArray, List.set_cons_zero, List.set_cons_succ]
  refine wpAnyH_ready (rs := [16]) (by kernel_rfl) (by simp) ?_
  refine' AllReadyH.cons (by simp only [List.getElem?_toArray, List.getElem?_cons_succ, List.getElem?_cons_zero]; rfl) (fun K hK => ?_) AllReadyH.nil
  go_simp
  refine (HT2.out _ (HVV.out _ hS2)).mono ?_
  rintro e V3 ⟨to2, tc2, rfl, ho, hb⟩
  have hS3 : Below W7.heap.size W7 V3 := hS2.trans (hb.mono hS2.size)
  have HO3 := Lib.hid ho
  have HO23 := Lib.hid (own_below HO2.out hb)
  have HR1 : Hid (Reads V3 V3.heap.size 4 to1 ts.length (tokCells ts)) := Lib.hid (by
    obtain ⟨_, _, hh, hr⟩ := Ana.reads_slice HO23.out
    injection hh with h1 _ _
    subst h1; exact hr)
  have HRR : Hid (Reads V3 V3.heap.size 4 to2 ts.length (tokCells ts)) := Lib.hid (by
    obtain ⟨_, _, hh, hr⟩ := Ana.reads_slice HO3.out
    injection hh with h1 _ _
    subst h1; exact hr)
  clear hb ho
  go_simp
  refine hK.out _ _ hS3 (fun hT3 => ?_)
  clear hT3 hK K
  try simp only [Act.put, List.setIfInBounds_toArray, List.set_cons_zero, List.set_cons_succ]
  refine wpAnyH_ready (rs := [17]) (by kernel_rfl) (by simp) ?_
  refine' AllReadyH.cons (by simp only [List.getElem?_toArray, List.getElem?_cons_succ, List.getElem?_cons_zero]; rfl) (fun K hK => ?_) AllReadyH.nil
  go_simp
  refine (Ana.tokensEq_any to1 to2 tc1 tc2 ts ts _ HR1.out HRR.out htl htl true (by simp)).mono ?_
  rintro e V4 ⟨rfl, hb⟩
  have hS4 : Below W7.heap.size W7 V4 := hS3.trans (hb.mono hS3.size)
  clear hb
  go_simp
  refine hK.out _ _ hS4 (fun hT4 => ?_)
  clear hT4 hK K
  try simp only [Act.put, List.setIfInBounds_toArray, List.set_cons_zero, List.set_cons_succ]
  refine' wpAnyH_take (i := 18) (v := _) (by simp only [List.getElem?_toArray, List.getElem?_cons_succ, List.getElem?_cons_zero]; rfl) (by kernel_rfl) (by kernel_rfl) (by kernel_rfl) (by exact fun _ _ _ h => h) (Or.inl ⟨by rfl, ?hmc18⟩) hS4 ?rmc18
  case hmc18 => intro V hSw; clear hSw; go_simp; try with_reducible rfl
  try simp only [Act.put, List.setIfInBounds_toArray, List.set_cons_zero, List.set_cons_succ]
  refine' wpAnyH_take (i := 19) (v := _) (by simp only [List.getElem?_toArray, List.getElem?_cons_succ, List.getElem?_cons_zero]; rfl) (by kernel_rfl) (by kernel_rfl) (by kernel_rfl) (by exact fun _ _ _ h => h) (Or.inl ⟨by rfl, ?hmc19⟩) hS4 ?rmc19
  case hmc19 => intro V hSw; clear hSw; go_simp; try with_reducible rfl
  try simp only [Act.put, List.setIfInBounds_toArray, List.set_cons_zero, List.set_cons_succ]
  refine' wpAnyH_take (i := 20) (v := _) (by simp only [List.getElem?_toArray, List.getElem?_cons_succ, List.getElem?_cons_zero]; rfl) (by kernel_rfl) (by kernel_rfl) (by kernel_rfl) (by exact fun _ _ _ h => h) (Or.inl ⟨by rfl, ?hmc20⟩) hS4 ?rmc20
  case hmc20 => intro V hSw; have fq : V.cell? ⟨W2.heap.size, 0, none⟩ = some (.slice L l.length c1) := (B77.out.below hSw B77.out.lt).cell 0; clear hSw; go_simp; try with_reducible rfl
  try simp only [Act.put, List.setIfInBounds_toArray, List.set_cons_zero, List.set_cons_succ]
  refine' wpAnyH_take (i := 21) (v := _) (by simp only [List.getElem?_toArray, List.getElem?_cons_succ, List.getElem?_cons_zero]; rfl) (by kernel_rfl) (by kernel_rfl) (by kernel_rfl) (by exact fun _ _ _ h => h) (Or.inl ⟨by rfl, ?hmc21⟩) hS4 ?rmc21
  case hmc21 => intro V hSw; have fq : V.cell? ⟨w.heap.size, 0, none⟩ = some (.slice A l.length cA) := (BA7.out.below hSw BA7.out.lt).cell 0; clear hSw; go_simp; try with_reducible rfl
  try simp only [Act.put, List.setIfInBounds_toArray, List.set_cons_zero, List.set_cons_succ]
  refine wpAnyH_ready (rs := [22]) (by kernel_rfl) (by simp) ?_
  refine' AllReadyH.cons (by simp only [List.getElem?_toArray, List.getElem?_cons_succ, List.getElem?_cons_zero]; rfl) (fun K hK => ?_) AllReadyH.nil
  go_simp
  refine (HCK.out _ (HVV.out _ hS4)).mono ?_
  rintro e V5 ⟨rfl, hb⟩
  have hS5 : Below W7.heap.size W7 V5 := hS4.trans (hb.mono hS4.size)
  clear hb
  go_simp
  refine hK.out _ _ hS5 (fun hT5 => ?_)
  clear hT5 hK K
  try simp only [Act.put, List.setIfInBounds_toArray, List.set_cons_zero, List.set_cons_succ]
  refine' wpAnyH_take (i := 23) (v := _) (by simp only [List.getElem?_toArray, List.getElem?_cons_succ, List.getElem?_cons_zero]; rfl) (by kernel_rfl) (by kernel_rfl) (by kernel_rfl) (by exact fun _ _ _ h => h) (Or.inl ⟨by rfl, ?hmd23⟩) hS5 ?rmd23
  case hmd23 => intro V hSw; clear hSw; go_simp; try with_reducible rfl
  try simp only [Act.put, List.setIfInBounds_toArray, List.set_cons_zero, List.set_cons_succ]
  refine' wpAnyH_take (i := 24) (v := _) (by simp only [List.getElem?_toArray, List.getElem?_cons_succ, List.getElem?_cons_zero]; rfl) (by kernel_rfl) (by kernel_rfl) (by kernel_rfl) (by exact fun _ _ _ h => h) (Or.inl ⟨by rfl, ?hmd24⟩) hS5 ?rmd24
  case hmd24 => intro V hSw; clear hSw; go_simp; try with_reducible rfl
  try simp only [Act.put, List.setIfInBounds_toArray, List.set_cons_zero, List.set_cons_succ]
  refine' wpAnyH_take (i := 25) (v := _) (by simp only [List.getElem?_toArray, List.getElem?_cons_succ, List.getElem?_cons_zero]; rfl) (by kernel_rfl) (by kernel_rfl) (by kernel_rfl) (by exact fun _ _ _ h => h) (Or.inl ⟨by rfl, ?hmd25⟩) hS5 ?rmd25
  case hmd25 => intro V hSw; clear hSw; go_simp; try with_reducible rfl
  try simp only [Act.put, List.setIfInBounds_toArray, List.set_cons_zero, List.set_cons_succ]
  refine' wpAnyH_take (i := 26) (v := _) (by simp only [List.getElem?_toArray, List.getElem?_cons_succ, List.getElem?_cons_zero]; rfl) (by kernel_rfl) (by kernel_rfl) (by kernel_rfl) (by exact fun _ _ _ h => h) (Or.inl ⟨by rfl, ?hmd26⟩) hS5 ?rmd26
  case hmd26 => intro V hSw; clear hSw; go_simp; try with_reducible rfl
  try simp only [Act.put, List.setIfInBounds_toArray, List.set_cons_zero, List.set_cons_succ]
  refine wpAnyH_ready (rs := [27]) (by kernel_rfl) (by simp) ?_
  refine' AllReadyH.cons (by simp only [List.getElem?_toArray, List.getElem?_cons_succ, List.getElem?_cons_zero]; rfl) (fun K hK => ?_) AllReadyH.nil
  go_simp
  refine (HCD.out _ (HVV.out _ hS5)).mono ?_
  rintro e V6 ⟨rfl, hb⟩
  have hS6 : Below W7.heap.size W7 V6 := hS5.trans (hb.mono hS5.size)
  clear hb
  go_simp
  refine hK.out _ _ hS6 (fun hT6 => ?_)
  clear hT6 hK K
  try simp only [Act.put, List.setIfInBounds_toArray, List.set_cons_zero, List.set_cons_succ]
  refine' wpAnyH_take (i := 28) (v := _) (by simp only [List.getElem?_toArray, List.getElem?_cons_succ, List.getElem?_cons_zero]; rfl) (by kernel_rfl) (by kernel_rfl) (by kernel_rfl) (by exact fun _ _ _ h => h) (Or.inl ⟨by rfl, ?hme28⟩) hS6 ?rme28
  case hme28 => intro V hSw; clear hSw; go_simp; try with_reducible rfl
  try simp only [Act.put, List.setIfInBounds_toArray, List.set_cons_zero, List.set_cons_succ]
  refine' wpAnyH_take (i := 29) (v := _) (by simp only [List.getElem?_toArray, List.getElem?_cons_succ, List.getElem?_cons_zero]; rfl) (by kernel_rfl) (by kernel_rfl) (by kernel_rfl) (by exact fun _ _ _ h => h) (Or.inl ⟨by rfl, ?hme29⟩) hS6 ?rme29
  case hme29 => intro V hSw; clear hSw; go_simp; try with_reducible rfl
  try simp only [Act.put, List.setIfInBounds_toArray, List.set_cons_zero, List.set_cons_succ]
  refine wpAnyH_done (by kernel_rfl) ?_ _
  have HZ : Hid (Below w.heap.size w V6) := Lib.hid (HW.out.trans ((HVV.out _ hS6).mono HW.out.size))
  clear hS0 hS1 hS2 hS3 hS4 hS5 hS6
  go_wp2_with fail
  go_ret
  exact ⟨rfl, HZ.out⟩
end Go.Proofs.YtfckomjbgopmaaaGreatDoor.SchemaBacksWalk
