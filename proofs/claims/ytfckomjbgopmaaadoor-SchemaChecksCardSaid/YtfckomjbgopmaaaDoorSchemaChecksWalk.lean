/- The walk of SchemaChecks. Written by gen_checks.py. -/
import Derived.Test.YtfckomjbgopmaaaDoorSchKeptS
import Derived.Test.YtfckomjbgopmaaaDoorSchRefCheck
import Derived.Test.YtfckomjbgopmaaaDoorSchStored
import Derived.Test.YtfckomjbgopmaaaDoorTwo
import Derived.Deep.RegionHeld3
set_option linter.unusedVariables false
namespace Go.Proofs.YtfckomjbgopmaaaDoor.SchemaChecksWalk
open Go.RowKit Words Tree SchP Kit Owned Sch Two

/-- A struct of one cell: its load, its store. -/
theorem load_1s {s d : Nat} {p : String} {ρ : Operand → Value} {W : World} {after : Array Edge} {g : Nat} {v0 : Value} (hp : ρ (.tmp s) = .pointer (some ⟨g, 0, none⟩)) (hb : Blk W g 24 #[v0]) :
    (execOp ρ ⟨some d, .load 24 (.tmp s), 24, p, after, none⟩).run Tryd.prog W = .ok (.value (.agg #[v0])) W := by
  have q0 : W.cell? ⟨g, 0, none⟩ = some v0 := hb.cell 0
  go_simp
theorem load_1d {s d : Nat} {p : String} {ρ : Operand → Value} {W : World} {after : Array Edge} {g : Nat} {v0 : Value} (hp : ρ (.tmp s) = .pointer (some ⟨g, 0, none⟩)) (hb : Blk W g 27 #[v0]) :
    (execOp ρ ⟨some d, .load 27 (.tmp s), 27, p, after, none⟩).run Tryd.prog W = .ok (.value (.agg #[v0])) W := by
  have q0 : W.cell? ⟨g, 0, none⟩ = some v0 := hb.cell 0
  go_simp
theorem store_1s {s d : Nat} {p : String} {ρ : Operand → Value} {W : World} {after : Array Edge} {g : Nat} {us : List Value} {l : List FT} {S : Nat → Prop} {c0 : Value} {sent : Nat → List (List Value)} (hp : ρ (.tmp s) = .pointer (some ⟨g, 0, none⟩)) (hv : ρ (.tmp d) = .agg us.toArray) (hu : T.AtL sent W S [fieldsT l] us)
    (hb : Blk W g 24 #[c0]) :
    ∃ W', (execOp ρ ⟨none, .store 24 (.tmp s) (.tmp d), 0, p, after, none⟩).run Tryd.prog W = .ok .skip W' ∧ Blk W' g 24 us.toArray ∧ W.grownBy W' (some g) ∧ W'.heap.size = W.heap.size := by
  obtain ⟨v, r, rfl, h, hr⟩ := AtL.cons_ hu
  obtain rfl := AtL.nil_ hr
  obtain ⟨L, c, rfl, _, _⟩ := at_slice h
  have q0 : W.cell? ⟨g, 0, none⟩ = some c0 := hb.cell 0
  have z0 := hb.frozen 0
  refine ⟨_, by go_simp, hb.set_ 0 _, only_setCell (World.grownBy.refl W _) (.inl rfl) _, by simp [World.setCell]⟩
theorem store_1d {s d : Nat} {p : String} {ρ : Operand → Value} {W : World} {after : Array Edge} {g : Nat} {us : List Value} {l : List ET} {S : Nat → Prop} {c0 : Value} {sent : Nat → List (List Value)} (hp : ρ (.tmp s) = .pointer (some ⟨g, 0, none⟩)) (hv : ρ (.tmp d) = .agg us.toArray) (hu : T.AtL sent W S [entriesT l] us)
    (hb : Blk W g 27 #[c0]) :
    ∃ W', (execOp ρ ⟨none, .store 27 (.tmp s) (.tmp d), 0, p, after, none⟩).run Tryd.prog W = .ok .skip W' ∧ Blk W' g 27 us.toArray ∧ W.grownBy W' (some g) ∧ W'.heap.size = W.heap.size := by
  obtain ⟨v, r, rfl, h, hr⟩ := AtL.cons_ hu
  obtain rfl := AtL.nil_ hr
  obtain ⟨L, c, rfl, _, _⟩ := at_slice h
  have q0 : W.cell? ⟨g, 0, none⟩ = some c0 := hb.cell 0
  have z0 := hb.frozen 0
  refine ⟨_, by go_simp, hb.set_ 0 _, only_setCell (World.grownBy.refl W _) (.inl rfl) _, by simp [World.setCell]⟩

set_option maxRecDepth 100000 in
set_option maxHeartbeats 4000000 in
theorem walk (u x : Value) (l : List FT) (d : List ET) (text : ByteArray) (w : World) (hu : T.At bare w (fun g => g < w.heap.size) (fieldsT l) u) (hl : l.length * 72 ≤ 140737488351232) (okf : ∀ f ∈ l, FOk f)
    (hx : T.At bare w (fun g => g < w.heap.size) (entriesT d) x) (hd : d.length * 56 ≤ 140737488351232) (oke : ∀ e ∈ d, EOk e) (ht : text.size ≤ 140737488351232) :
    Calls Tryd.prog 3 #[.agg #[u], .agg #[x], .string text] w (AnsB true w) := by
  have hlt : ∀ {V : World} {g : Nat}, Below w.heap.size w V → g < w.heap.size → g < V.heap.size := fun hV hg => Nat.lt_of_lt_of_le hg hV.size
  have HL1 := Lib.hid (fun (V : World) (hV : Below w.heap.size w V) => lentSchema_any u l V (At.below hu hV (fun g hg => hlt hV hg)) hl okf)
  have HL2 := Lib.hid (fun (V : World) (hV : Below w.heap.size w V) => lentDoc_any x d V (At.below hx hV (fun g hg => hlt hV hg)) hd oke)
  have HRF := Lib.hid (fun (V : World) (hV : Below w.heap.size w V) => refFind_any u l text V (At.below hu hV (fun g hg => hlt hV hg)) hl)
  have HRC := Lib.hid (fun (V : World) (hV : Below w.heap.size w V) => refCheckS_any u l V (At.below hu hV (fun g hg => hlt hV hg)) hl okf)
  have HRS := Lib.hid (fun (V : World) (hV : Below w.heap.size w V) => refStored_any u x l d V (At.below hu hV (fun g hg => hlt hV hg)) hl (At.below hx hV (fun g hg => hlt hV hg)) hd oke)
  have HN1 := Lib.hid (fun (V : World) => name_any text V ht)
  have HN2 := Lib.hid (fun (V : World) => refName_any text V ht)
  have HIN := Lib.hid (fun (vi vd : Value) (W : World) (hi : T.At lent W (fun g => g < W.heap.size) (fieldsT l) vi) (hdd : T.At lent W (fun g => g < W.heap.size) (entriesT d) vd) (V : World) (hV : Below W.heap.size W V) (hw : Below w.heap.size w V) =>
    have hi' := At.below (S' := fun g => g < V.heap.size) hi hV (fun g hg => Nat.lt_of_lt_of_le hg hV.size)
    have hd' := At.below (S' := fun g => g < V.heap.size) hdd hV (fun g hg => Nat.lt_of_lt_of_le hg hV.size)
    And.intro (find_any vi l text V (At.bare hi') hl) (And.intro (checkS_any vi l V (At.bare hi') hl okf) (And.intro (stored_any vi vd l d V (At.bare hi') hl (At.bare hd') hd oke)
      (And.intro (keptSchema_any vi u l V hi' (At.below hu hw (fun g hg => hlt hw hg)) hl okf) (keptDoc_any vd x d V hd' (At.below hx hw (fun g hg => hlt hw hg)) hd oke)))))
  have HEQ := Lib.hid (fun (va vb : Value) (V : World) (ha : T.At bare V (fun g => g < V.heap.size) (entriesT (storedF l d)) va) (hb : T.At bare V (fun g => g < V.heap.size) (entriesT (storedF l d)) vb) =>
    have hs : (storedF l d).length ≤ d.length := List.length_filter_le _ _
    entries_any va vb (storedF l d) (storedF l d) V ha hb (by omega) (by omega) (fun e he => oke e (List.mem_filter.1 he).1) (fun e he => oke e (List.mem_filter.1 he).1) true (by simp))
  obtain ⟨A, cA, rfl, _, _⟩ := at_slice hu
  obtain ⟨D, cD, rfl, _, _⟩ := at_slice hx
  clear hu hx hlt
  go_enter Tryd.func3, Tryd.ntmps3
  go_upto_region 1 with fail
  have BA := Lib.hid (blk_a w #[.slice A l.length cA] #[.slice D d.length cD] 24 27)
  have BB := Lib.hid (blk_b w #[.slice A l.length cA] #[.slice D d.length cD] 24 27)
  have HB := Lib.hid (below2 (w := w) (.cells #[.slice A l.length cA] 24) (.cells #[.slice D d.length cD] 27))
  have hz : ((w.alloc (.cells #[.slice A l.length cA] 24)).alloc (.cells #[.slice D d.length cD] 27)).heap.size = w.heap.size + 2 := by simp
  have HZ := Lib.hid hz; clear hz
  generalize ((w.alloc (.cells #[.slice A l.length cA] 24)).alloc (.cells #[.slice D d.length cD] 27)) = W0 at *
  refine two_lent (P := Tryd.prog) (A1 := 24) (A2 := 27) (T1 := 24) (T2 := 27) (f1 := 4) (f2 := 5) (s2 := 3) (s3 := 4) (s5 := 7) (s6 := 8) (s7 := 12) (s8 := 13) (s9 := 14) (s10 := 15) (p := "law.go:37")
    (x1 := .agg #[.slice A l.length cA]) (x2 := .agg #[.slice D d.length cD]) (z1 := #[.slice none 0 0]) (z2 := #[.slice none 0 0]) (m1 := lent) (m2 := lent) (ts1 := [fieldsT l]) (ts2 := [entriesT d]) (by kernel_rfl) ?six ⟨by decide, by decide, by decide, by decide, by decide, by decide⟩ ⟨by decide, by decide, by decide, by decide, by decide, by decide⟩ ?does ?after
  case six => exact ⟨by decide, by decide, by decide, by decide, by decide, by decide, by decide, by decide, by decide, by decide, by decide, by decide, by decide, by decide, by decide, by simp⟩
  case does =>
    refine ⟨?_, ?_, ?_, ?_, ?_, ?_, ?_, ?_, ?_, ?_⟩
    · intro ρ W after h1 h2
      exact load_1s (h1.trans rfl) (BA.out.below h2 BA.out.lt)
    · intro ρ W after h1 h2
      exact load_1d (h1.trans rfl) (BB.out.below h2 BB.out.lt)
    · intro ρ W after h1 h2
      go_simp
    · intro ρ W after h1 h2
      go_simp
    · intro ρ W after
      go_simp
    · intro ρ W after
      go_simp
    · intro ρ W after g us S h1 h2 h3 h4
      exact store_1s h1 h2 h3 h4
    · intro ρ W after g us S h1 h2 h3 h4
      exact store_1d h1 h2 h3 h4
    · intro W hW
      refine (HL1.out W (HB.out.trans (hW.mono (by rw [HZ.out]; omega)))).mono ?_
      rintro e W' ⟨v, rfl, ha, hb⟩
      exact ⟨[v], rfl, by simpa only [T.AtL, and_true] using ha, hb⟩
    · intro W hW
      refine (HL2.out W (HB.out.trans (hW.mono (by rw [HZ.out]; omega)))).mono ?_
      rintro e W' ⟨v, rfl, ha, hb⟩
      exact ⟨[v], rfl, by simpa only [T.AtL, and_true] using ha, hb⟩
  case after =>
    intro g5 g6 us1 us2 W hW n5 n6 n56 l5 l6 B5 B6 A5 A6
    obtain ⟨vi, r1, rfl, ai, hr1⟩ := AtL.cons_ A5
    obtain rfl := AtL.nil_ hr1
    obtain ⟨vd, r2, rfl, ad, hr2⟩ := AtL.cons_ A6
    obtain rfl := AtL.nil_ hr2
    obtain ⟨L, c1, rfl, _, _⟩ := at_slice ai
    obtain ⟨M, c2, rfl, _, _⟩ := at_slice ad
    have HW : Hid (Below w.heap.size w W) := Lib.hid (HB.out.trans (hW.mono (by rw [HZ.out]; omega)))
    have HC := Lib.hid (HIN.out _ _ W (At.keep (fun _ _ => rfl) (fun g h => h.2.2.2) ai) (At.keep (fun _ _ => rfl) (fun g h => h.2.2.2) ad))
    have BA2 := Lib.hid (BA.out.below hW BA.out.lt)
    have BB2 := Lib.hid (BB.out.below hW BB.out.lt)
    have HB5 := Lib.hid B5
    have HB6 := Lib.hid B6
    have SF : Hid (∀ V, Below W.heap.size W V → V.cell? ⟨w.heap.size, 0, none⟩ = some (.slice A l.length cA) ∧ V.cell? ⟨w.heap.size + 1, 0, none⟩ = some (.slice D d.length cD) ∧ V.cell? ⟨g5, 0, none⟩ = some (.slice L l.length c1) ∧ V.cell? ⟨g6, 0, none⟩ = some (.slice M d.length c2)) :=
      Lib.hid (fun V hV => ⟨(BA2.out.below hV BA2.out.lt).cell 0, (BB2.out.below hV BB2.out.lt).cell 0, (HB5.out.below hV HB5.out.lt).cell 0, (HB6.out.below hV HB6.out.lt).cell 0⟩)
    have HCF := Lib.hid (fun V hV => (HC.out V hV (HW.out.trans (hV.mono HW.out.size))).1)
    have HCC := Lib.hid (fun V hV => (HC.out V hV (HW.out.trans (hV.mono HW.out.size))).2.1)
    have HCS := Lib.hid (fun V hV => (HC.out V hV (HW.out.trans (hV.mono HW.out.size))).2.2.1)
    have HCK := Lib.hid (fun V hV => (HC.out V hV (HW.out.trans (hV.mono HW.out.size))).2.2.2.1)
    have HCD := Lib.hid (fun V hV => (HC.out V hV (HW.out.trans (hV.mono HW.out.size))).2.2.2.2)
    have HR1 := Lib.hid (fun V (hV : Below W.heap.size W V) => HRF.out V (HW.out.trans (hV.mono HW.out.size)))
    have HR2 := Lib.hid (fun V (hV : Below W.heap.size W V) => HRC.out V (HW.out.trans (hV.mono HW.out.size)))
    have HR3 := Lib.hid (fun V (hV : Below W.heap.size W V) => HRS.out V (HW.out.trans (hV.mono HW.out.size)))
    clear HC HIN HRF HRC HRS HL1 HL2 BA BB BA2 BB2 HB5 HB6 B5 B6 A5 A6 ai ad hr1 hr2 hW HB HZ n5 n6 n56 l5 l6 okf oke hl hd ht
    obtain ⟨z, hz⟩ : ∃ z, findZ l text = z := ⟨_, rfl⟩
    obtain ⟨n, hn⟩ : ∃ n, errS (checkS l) = n := ⟨_, rfl⟩
    obtain ⟨b, hb⟩ : ∃ b, nameB text = b := ⟨_, rfl⟩
    have hzz : z = -1 ∨ 0 ≤ z := by
      rw [← hz, findZ_eq]
      cases findF l text with
      | none => exact .inl rfl
      | some i => exact .inr (by simp only [zOf]; omega)
    rw [hz] at HCF HR1
    rw [hn] at HCC HR2
    rw [hb] at HN1 HN2
    clear hz hn hb
    have hnn : (n != n) = false := by simp
    have hbb : (b != b) = false := by simp
    simp only [put6, Act.put, List.setIfInBounds_toArray, List.set_cons_zero, List.set_cons_succ]
    obtain ⟨x1, x2, x3, x4⟩ := SF.out W (Below.refl _ _)
    go_wp2_with fail
    refine (HCF.out W (Below.refl _ _)).mono ?_
    rintro e W1 ⟨rfl, b1⟩
    have HB1 := Lib.hid b1
    clear b1 x1 x2 x3 x4
    obtain ⟨x1, x2, x3, x4⟩ := SF.out W1 HB1.out
    go_wp2_with fail
    refine (HR1.out W1 HB1.out).mono ?_
    rintro e W2 ⟨rfl, b2⟩
    have HB2 := Lib.hid (HB1.out.trans (b2.mono HB1.out.size))
    clear b2 x1 x2 x3 x4
    have BW2 : Hid (Below W.heap.size W W2.drew) := Lib.hid HB2.out.drew
    rcases hzz with rfl | hz0
    · skip
      have hmx : max (0 : Int) (-1) = 0 := by decide
      have hge : decide ((0 : Int) ≤ -1) = false := by decide
      rw [hmx, hge]
      go_wp2_with fail
      refine wp_region_held_drew (S := fun V => Below W.heap.size W V) (by kernel_rfl) BW2.out (fun hSp0 => ?_)
      refine' wpAnyH_take (i := 0) (v := _) (by simp only [List.getElem?_toArray, List.getElem?_cons_zero]; rfl) (by kernel_rfl) (by kernel_rfl) (by kernel_rfl) (by exact fun _ _ _ h => h) (Or.inl ⟨by rfl, ?hyp0⟩) hSp0 ?restp0
      case hyp0 => intro V hSw; obtain ⟨f0, f1, f2, f3⟩ := SF.out V hSw; clear hSw; go_simp; try with_reducible rfl
      try simp only [Act.put, List.setIfInBounds_toArray, List.set_cons_zero, List.set_cons_succ]
      refine' wpAnyH_take (i := 2) (v := _) (by simp only [List.getElem?_toArray, List.getElem?_cons_succ, List.getElem?_cons_zero]; rfl) (by kernel_rfl) (by kernel_rfl) (by kernel_rfl) (by exact fun _ _ _ h => h) (Or.inl ⟨by rfl, ?hyp2⟩) hSp0 ?restp2
      case hyp2 => intro V hSw; obtain ⟨f0, f1, f2, f3⟩ := SF.out V hSw; clear hSw; go_simp; try with_reducible rfl
      try simp only [Act.put, List.setIfInBounds_toArray, List.set_cons_zero, List.set_cons_succ]
      refine wpAnyH_ready (rs := [1]) (by kernel_rfl) (by simp) ?_
      refine' AllReadyH.cons (by simp only [List.getElem?_toArray, List.getElem?_cons_succ, List.getElem?_cons_zero]; rfl) (fun K hK => ?_) AllReadyH.nil
      go_simp
      refine (HCC.out _ hSp0).mono ?_
      rintro e Vp1 ⟨rfl, q⟩
      have Bp1 := Lib.hid (Below.trans hSp0 (q.mono (hSp0).size))
      clear q
      go_simp
      refine hK.out _ _ Bp1.out (fun hSp1 => ?_)
      try simp only [Act.put, List.setIfInBounds_toArray, List.set_cons_zero, List.set_cons_succ]
      refine wpAnyH_ready (rs := [3]) (by kernel_rfl) (by simp) ?_
      refine' AllReadyH.cons (by simp only [List.getElem?_toArray, List.getElem?_cons_succ, List.getElem?_cons_zero]; rfl) (fun K hK => ?_) AllReadyH.nil
      go_simp
      refine (HR2.out _ hSp1).mono ?_
      rintro e Vp2 ⟨rfl, q⟩
      have Bp2 := Lib.hid (Below.trans hSp1 (q.mono (hSp1).size))
      clear q
      go_simp
      refine hK.out _ _ Bp2.out (fun hSp2 => ?_)
      try simp only [Act.put, List.setIfInBounds_toArray, List.set_cons_zero, List.set_cons_succ]
      refine' wpAnyH_take (i := 4) (v := _) (by simp only [List.getElem?_toArray, List.getElem?_cons_succ, List.getElem?_cons_zero]; rfl) (by kernel_rfl) (by kernel_rfl) (by kernel_rfl) (by exact fun _ _ _ h => h) (Or.inl ⟨by rfl, ?hyp4⟩) hSp2 ?restp4
      case hyp4 => intro V hSw; clear hSw; go_simp; try with_reducible rfl
      try simp only [Act.put, List.setIfInBounds_toArray, List.set_cons_zero, List.set_cons_succ]
      refine' wpAnyH_take (i := 5) (v := _) (by simp only [List.getElem?_toArray, List.getElem?_cons_succ, List.getElem?_cons_zero]; rfl) (by kernel_rfl) (by kernel_rfl) (by kernel_rfl) (by exact fun _ _ _ h => h) (Or.inl ⟨by rfl, ?hyp5⟩) hSp2 ?restp5
      case hyp5 => intro V hSw; clear hSw; go_simp; try with_reducible rfl
      try simp only [Act.put, List.setIfInBounds_toArray, List.set_cons_zero, List.set_cons_succ]
      refine' wpAnyH_take (i := 6) (v := _) (by simp only [List.getElem?_toArray, List.getElem?_cons_succ, List.getElem?_cons_zero]; rfl) (by kernel_rfl) (by kernel_rfl) (by kernel_rfl) (by exact fun _ _ _ h => h) (Or.inl ⟨by rfl, ?hyp6⟩) hSp2 ?restp6
      case hyp6 => intro V hSw; clear hSw; go_simp; try with_reducible rfl
      try simp only [Act.put, List.setIfInBounds_toArray, List.set_cons_zero, List.set_cons_succ]
      refine' wpAnyH_take (i := 8) (v := _) (by simp only [List.getElem?_toArray, List.getElem?_cons_succ, List.getElem?_cons_zero]; rfl) (by kernel_rfl) (by kernel_rfl) (by kernel_rfl) (by exact fun _ _ _ h => h) (Or.inl ⟨by rfl, ?hyp8⟩) hSp2 ?restp8
      case hyp8 => intro V hSw; clear hSw; go_simp; try with_reducible rfl
      try simp only [Act.put, List.setIfInBounds_toArray, List.set_cons_zero, List.set_cons_succ]
      refine wpAnyH_ready (rs := [7]) (by kernel_rfl) (by simp) ?_
      refine' AllReadyH.cons (by simp only [List.getElem?_toArray, List.getElem?_cons_succ, List.getElem?_cons_zero]; rfl) (fun K hK => ?_) AllReadyH.nil
      go_simp
      refine (HN1.out _).mono ?_
      rintro e Vp3 ⟨rfl, q⟩
      have Bp3 := Lib.hid (Below.trans hSp2 (q.mono (hSp2).size))
      clear q
      go_simp
      refine hK.out _ _ Bp3.out (fun hSp3 => ?_)
      try simp only [Act.put, List.setIfInBounds_toArray, List.set_cons_zero, List.set_cons_succ]
      refine wpAnyH_ready (rs := [9]) (by kernel_rfl) (by simp) ?_
      refine' AllReadyH.cons (by simp only [List.getElem?_toArray, List.getElem?_cons_succ, List.getElem?_cons_zero]; rfl) (fun K hK => ?_) AllReadyH.nil
      go_simp
      refine (HN2.out _).mono ?_
      rintro e Vp4 ⟨rfl, q⟩
      have Bp4 := Lib.hid (Below.trans hSp3 (q.mono (hSp3).size))
      clear q
      go_simp
      refine hK.out _ _ Bp4.out (fun hSp4 => ?_)
      try simp only [Act.put, List.setIfInBounds_toArray, List.set_cons_zero, List.set_cons_succ]
      refine' wpAnyH_take (i := 10) (v := _) (by simp only [List.getElem?_toArray, List.getElem?_cons_succ, List.getElem?_cons_zero]; rfl) (by kernel_rfl) (by kernel_rfl) (by kernel_rfl) (by exact fun _ _ _ h => h) (Or.inl ⟨by rfl, ?hyp10⟩) hSp4 ?restp10
      case hyp10 => intro V hSw; clear hSw; go_simp; try with_reducible rfl
      try simp only [Act.put, List.setIfInBounds_toArray, List.set_cons_zero, List.set_cons_succ]
      refine' wpAnyH_take (i := 11) (v := _) (by simp only [List.getElem?_toArray, List.getElem?_cons_succ, List.getElem?_cons_zero]; rfl) (by kernel_rfl) (by kernel_rfl) (by kernel_rfl) (by exact fun _ _ _ h => h) (Or.inl ⟨by rfl, ?hyp11⟩) hSp4 ?restp11
      case hyp11 => intro V hSw; clear hSw; go_simp; try with_reducible rfl
      try simp only [Act.put, List.setIfInBounds_toArray, List.set_cons_zero, List.set_cons_succ]
      refine' wpAnyH_take (i := 12) (v := _) (by simp only [List.getElem?_toArray, List.getElem?_cons_succ, List.getElem?_cons_zero]; rfl) (by kernel_rfl) (by kernel_rfl) (by kernel_rfl) (by exact fun _ _ _ h => h) (Or.inl ⟨by rfl, ?hyp12⟩) hSp4 ?restp12
      case hyp12 => intro V hSw; clear hSw; go_simp; try with_reducible rfl
      try simp only [Act.put, List.setIfInBounds_toArray, List.set_cons_zero, List.set_cons_succ]
      refine' wpAnyH_take (i := 13) (v := _) (by simp only [List.getElem?_toArray, List.getElem?_cons_succ, List.getElem?_cons_zero]; rfl) (by kernel_rfl) (by kernel_rfl) (by kernel_rfl) (by exact fun _ _ _ h => h) (Or.inl ⟨by rfl, ?hyp13⟩) hSp4 ?restp13
      case hyp13 => intro V hSw; clear hSw; go_simp; try with_reducible rfl
      try simp only [Act.put, List.setIfInBounds_toArray, List.set_cons_zero, List.set_cons_succ]
      refine' wpAnyH_take (i := 14) (v := _) (by simp only [List.getElem?_toArray, List.getElem?_cons_succ, List.getElem?_cons_zero]; rfl) (by kernel_rfl) (by kernel_rfl) (by kernel_rfl) (by exact fun _ _ _ h => h) (Or.inl ⟨by rfl, ?hyp14⟩) hSp4 ?restp14
      case hyp14 => intro V hSw; clear hSw; go_simp; try with_reducible rfl
      try simp only [Act.put, List.setIfInBounds_toArray, List.set_cons_zero, List.set_cons_succ]
      refine' wpAnyH_take (i := 15) (v := _) (by simp only [List.getElem?_toArray, List.getElem?_cons_succ, List.getElem?_cons_zero]; rfl) (by kernel_rfl) (by kernel_rfl) (by kernel_rfl) (by exact fun _ _ _ h => h) (Or.inl ⟨by rfl, ?hyp15⟩) hSp4 ?restp15
      case hyp15 => intro V hSw; clear hSw; go_simp; try with_reducible rfl
      try simp only [Act.put, List.setIfInBounds_toArray, List.set_cons_zero, List.set_cons_succ]
      refine' wpAnyH_take (i := 16) (v := _) (by simp only [List.getElem?_toArray, List.getElem?_cons_succ, List.getElem?_cons_zero]; rfl) (by kernel_rfl) (by kernel_rfl) (by kernel_rfl) (by exact fun _ _ _ h => h) (Or.inl ⟨by rfl, ?hyp16⟩) hSp4 ?restp16
      case hyp16 => intro V hSw; clear hSw; go_simp; try with_reducible rfl
      try simp only [Act.put, List.setIfInBounds_toArray, List.set_cons_zero, List.set_cons_succ]
      refine' wpAnyH_take (i := 17) (v := _) (by simp only [List.getElem?_toArray, List.getElem?_cons_succ, List.getElem?_cons_zero]; rfl) (by kernel_rfl) (by kernel_rfl) (by kernel_rfl) (by exact fun _ _ _ h => h) (Or.inl ⟨by rfl, ?hyp17⟩) hSp4 ?restp17
      case hyp17 => intro V hSw; clear hSw; go_simp; try with_reducible rfl
      try simp only [Act.put, List.setIfInBounds_toArray, List.set_cons_zero, List.set_cons_succ]
      refine' wpAnyH_take (i := 18) (v := _) (by simp only [List.getElem?_toArray, List.getElem?_cons_succ, List.getElem?_cons_zero]; rfl) (by kernel_rfl) (by kernel_rfl) (by kernel_rfl) (by exact fun _ _ _ h => h) (Or.inl ⟨by rfl, ?hyp18⟩) hSp4 ?restp18
      case hyp18 => intro V hSw; clear hSw; go_simp; try with_reducible rfl
      try simp only [Act.put, List.setIfInBounds_toArray, List.set_cons_zero, List.set_cons_succ]
      refine' wpAnyH_take (i := 19) (v := _) (by simp only [List.getElem?_toArray, List.getElem?_cons_succ, List.getElem?_cons_zero]; rfl) (by kernel_rfl) (by kernel_rfl) (by kernel_rfl) (by exact fun _ _ _ h => h) (Or.inl ⟨by rfl, ?hyp19⟩) hSp4 ?restp19
      case hyp19 => intro V hSw; clear hSw; go_simp; try with_reducible rfl
      try simp only [Act.put, List.setIfInBounds_toArray, List.set_cons_zero, List.set_cons_succ]
      refine' wpAnyH_take (i := 20) (v := _) (by simp only [List.getElem?_toArray, List.getElem?_cons_succ, List.getElem?_cons_zero]; rfl) (by kernel_rfl) (by kernel_rfl) (by kernel_rfl) (by exact fun _ _ _ h => h) (Or.inl ⟨by rfl, ?hyp20⟩) hSp4 ?restp20
      case hyp20 => intro V hSw; clear hSw; go_simp; try with_reducible rfl
      try simp only [Act.put, List.setIfInBounds_toArray, List.set_cons_zero, List.set_cons_succ]
      refine' wpAnyH_take (i := 21) (v := undef) (by simp only [List.getElem?_toArray, List.getElem?_cons_succ, List.getElem?_cons_zero]; rfl) (by kernel_rfl) (by kernel_rfl) (by kernel_rfl) (by exact fun _ _ _ h => h) (Or.inr ⟨by rfl, rfl⟩) hSp4 ?restp21
      try simp only [Act.put, List.setIfInBounds_toArray, List.set_cons_zero, List.set_cons_succ]
      refine' wpAnyH_take (i := 22) (v := undef) (by simp only [List.getElem?_toArray, List.getElem?_cons_succ, List.getElem?_cons_zero]; rfl) (by kernel_rfl) (by kernel_rfl) (by kernel_rfl) (by exact fun _ _ _ h => h) (Or.inr ⟨by rfl, rfl⟩) hSp4 ?restp22
      try simp only [Act.put, List.setIfInBounds_toArray, List.set_cons_zero, List.set_cons_succ]
      refine' wpAnyH_take (i := 23) (v := undef) (by simp only [List.getElem?_toArray, List.getElem?_cons_succ, List.getElem?_cons_zero]; rfl) (by kernel_rfl) (by kernel_rfl) (by kernel_rfl) (by exact fun _ _ _ h => h) (Or.inr ⟨by rfl, rfl⟩) hSp4 ?restp23
      try simp only [Act.put, List.setIfInBounds_toArray, List.set_cons_zero, List.set_cons_succ]
      refine' wpAnyH_take (i := 24) (v := _) (by simp only [List.getElem?_toArray, List.getElem?_cons_succ, List.getElem?_cons_zero]; rfl) (by kernel_rfl) (by kernel_rfl) (by kernel_rfl) (by exact fun _ _ _ h => h) (Or.inl ⟨by rfl, ?hyp24⟩) hSp4 ?restp24
      case hyp24 => intro V hSw; clear hSw; go_simp; try with_reducible rfl
      try simp only [Act.put, List.setIfInBounds_toArray, List.set_cons_zero, List.set_cons_succ]
      refine' wpAnyH_take (i := 25) (v := _) (by simp only [List.getElem?_toArray, List.getElem?_cons_succ, List.getElem?_cons_zero]; rfl) (by kernel_rfl) (by kernel_rfl) (by kernel_rfl) (by exact fun _ _ _ h => h) (Or.inl ⟨by rfl, ?hyp25⟩) hSp4 ?restp25
      case hyp25 => intro V hSw; clear hSw; go_simp; try with_reducible rfl
      try simp only [Act.put, List.setIfInBounds_toArray, List.set_cons_zero, List.set_cons_succ]
      refine' wpAnyH_take (i := 26) (v := _) (by simp only [List.getElem?_toArray, List.getElem?_cons_succ, List.getElem?_cons_zero]; rfl) (by kernel_rfl) (by kernel_rfl) (by kernel_rfl) (by exact fun _ _ _ h => h) (Or.inl ⟨by rfl, ?hyp26⟩) hSp4 ?restp26
      case hyp26 => intro V hSw; clear hSw; go_simp; try with_reducible rfl
      try simp only [Act.put, List.setIfInBounds_toArray, List.set_cons_zero, List.set_cons_succ]
      refine' wpAnyH_take (i := 27) (v := _) (by simp only [List.getElem?_toArray, List.getElem?_cons_succ, List.getElem?_cons_zero]; rfl) (by kernel_rfl) (by kernel_rfl) (by kernel_rfl) (by exact fun _ _ _ h => h) (Or.inl ⟨by rfl, ?hyp27⟩) hSp4 ?restp27
      case hyp27 => intro V hSw; clear hSw; go_simp; try with_reducible rfl
      try simp only [Act.put, List.setIfInBounds_toArray, List.set_cons_zero, List.set_cons_succ]
      refine' wpAnyH_take (i := 28) (v := _) (by simp only [List.getElem?_toArray, List.getElem?_cons_succ, List.getElem?_cons_zero]; rfl) (by kernel_rfl) (by kernel_rfl) (by kernel_rfl) (by exact fun _ _ _ h => h) (Or.inl ⟨by rfl, ?hyp28⟩) hSp4 ?restp28
      case hyp28 => intro V hSw; clear hSw; go_simp; try with_reducible rfl
      try simp only [Act.put, List.setIfInBounds_toArray, List.set_cons_zero, List.set_cons_succ]
      refine' wpAnyH_take (i := 29) (v := _) (by simp only [List.getElem?_toArray, List.getElem?_cons_succ, List.getElem?_cons_zero]; rfl) (by kernel_rfl) (by kernel_rfl) (by kernel_rfl) (by exact fun _ _ _ h => h) (Or.inl ⟨by rfl, ?hyp29⟩) hSp4 ?restp29
      case hyp29 => intro V hSw; clear hSw; go_simp; try with_reducible rfl
      try simp only [Act.put, List.setIfInBounds_toArray, List.set_cons_zero, List.set_cons_succ]
      refine' wpAnyH_take (i := 30) (v := _) (by simp only [List.getElem?_toArray, List.getElem?_cons_succ, List.getElem?_cons_zero]; rfl) (by kernel_rfl) (by kernel_rfl) (by kernel_rfl) (by exact fun _ _ _ h => h) (Or.inl ⟨by rfl, ?hyp30⟩) hSp4 ?restp30
      case hyp30 => intro V hSw; clear hSw; go_simp; try with_reducible rfl
      try simp only [Act.put, List.setIfInBounds_toArray, List.set_cons_zero, List.set_cons_succ]
      refine' wpAnyH_take (i := 31) (v := _) (by simp only [List.getElem?_toArray, List.getElem?_cons_succ, List.getElem?_cons_zero]; rfl) (by kernel_rfl) (by kernel_rfl) (by kernel_rfl) (by exact fun _ _ _ h => h) (Or.inl ⟨by rfl, ?hyp31⟩) hSp4 ?restp31
      case hyp31 => intro V hSw; clear hSw; go_simp; try with_reducible rfl
      try simp only [Act.put, List.setIfInBounds_toArray, List.set_cons_zero, List.set_cons_succ]
      refine' wpAnyH_take (i := 32) (v := _) (by simp only [List.getElem?_toArray, List.getElem?_cons_succ, List.getElem?_cons_zero]; rfl) (by kernel_rfl) (by kernel_rfl) (by kernel_rfl) (by exact fun _ _ _ h => h) (Or.inl ⟨by rfl, ?hyp32⟩) hSp4 ?restp32
      case hyp32 => intro V hSw; clear hSw; go_simp; try with_reducible rfl
      try simp only [Act.put, List.setIfInBounds_toArray, List.set_cons_zero, List.set_cons_succ]
      refine' wpAnyH_take (i := 33) (v := _) (by simp only [List.getElem?_toArray, List.getElem?_cons_succ, List.getElem?_cons_zero]; rfl) (by kernel_rfl) (by kernel_rfl) (by kernel_rfl) (by exact fun _ _ _ h => h) (Or.inl ⟨by rfl, ?hyp33⟩) hSp4 ?restp33
      case hyp33 => intro V hSw; clear hSw; go_simp; try with_reducible rfl
      try simp only [Act.put, List.setIfInBounds_toArray, List.set_cons_zero, List.set_cons_succ]
      refine wpAnyH_done (by kernel_rfl) ?_ _
      go_wp2_with fail
      have BW4 : Hid (Below W.heap.size W Vp4.drew) := Lib.hid Bp4.out.drew
      refine wp_region_held_drew (S := fun V => Below W.heap.size W V) (by kernel_rfl) BW4.out (fun hSq0 => ?_)
      refine' wpAnyH_take (i := 0) (v := _) (by simp only [List.getElem?_toArray, List.getElem?_cons_zero]; rfl) (by kernel_rfl) (by kernel_rfl) (by kernel_rfl) (by exact fun _ _ _ h => h) (Or.inl ⟨by rfl, ?hyq0⟩) hSq0 ?restq0
      case hyq0 => intro V hSw; obtain ⟨f0, f1, f2, f3⟩ := SF.out V hSw; clear hSw; go_simp; try with_reducible rfl
      try simp only [Act.put, List.setIfInBounds_toArray, List.set_cons_zero, List.set_cons_succ]
      refine' wpAnyH_take (i := 1) (v := _) (by simp only [List.getElem?_toArray, List.getElem?_cons_succ, List.getElem?_cons_zero]; rfl) (by kernel_rfl) (by kernel_rfl) (by kernel_rfl) (by exact fun _ _ _ h => h) (Or.inl ⟨by rfl, ?hyq1⟩) hSq0 ?restq1
      case hyq1 => intro V hSw; obtain ⟨f0, f1, f2, f3⟩ := SF.out V hSw; clear hSw; go_simp; try with_reducible rfl
      try simp only [Act.put, List.setIfInBounds_toArray, List.set_cons_zero, List.set_cons_succ]
      refine' wpAnyH_take (i := 3) (v := _) (by simp only [List.getElem?_toArray, List.getElem?_cons_succ, List.getElem?_cons_zero]; rfl) (by kernel_rfl) (by kernel_rfl) (by kernel_rfl) (by exact fun _ _ _ h => h) (Or.inl ⟨by rfl, ?hyq3⟩) hSq0 ?restq3
      case hyq3 => intro V hSw; obtain ⟨f0, f1, f2, f3⟩ := SF.out V hSw; clear hSw; go_simp; try with_reducible rfl
      try simp only [Act.put, List.setIfInBounds_toArray, List.set_cons_zero, List.set_cons_succ]
      refine' wpAnyH_take (i := 4) (v := _) (by simp only [List.getElem?_toArray, List.getElem?_cons_succ, List.getElem?_cons_zero]; rfl) (by kernel_rfl) (by kernel_rfl) (by kernel_rfl) (by exact fun _ _ _ h => h) (Or.inl ⟨by rfl, ?hyq4⟩) hSq0 ?restq4
      case hyq4 => intro V hSw; obtain ⟨f0, f1, f2, f3⟩ := SF.out V hSw; clear hSw; go_simp; try with_reducible rfl
      try simp only [Act.put, List.setIfInBounds_toArray, List.set_cons_zero, List.set_cons_succ]
      refine wpAnyH_ready (rs := [2]) (by kernel_rfl) (by simp) ?_
      refine' AllReadyH.cons (by simp only [List.getElem?_toArray, List.getElem?_cons_succ, List.getElem?_cons_zero]; rfl) (fun K hK => ?_) AllReadyH.nil
      go_simp
      refine (HCS.out _ hSq0).mono ?_
      rintro e Vq1 ⟨va, rfl, ga, q⟩
      have Bq1 := Lib.hid (Below.trans hSq0 (q.mono (hSq0).size))
      have GA := Lib.hid ga; clear ga
      clear q
      go_simp
      refine hK.out _ _ Bq1.out (fun hSq1 => ?_)
      try simp only [Act.put, List.setIfInBounds_toArray, List.set_cons_zero, List.set_cons_succ]
      refine wpAnyH_ready (rs := [5]) (by kernel_rfl) (by simp) ?_
      refine' AllReadyH.cons (by simp only [List.getElem?_toArray, List.getElem?_cons_succ, List.getElem?_cons_zero]; rfl) (fun K hK => ?_) AllReadyH.nil
      go_simp
      refine (HR3.out _ hSq1).mono ?_
      rintro e Vq2 ⟨vb, rfl, gb, q⟩
      have Bq2 := Lib.hid (Below.trans hSq1 (q.mono (hSq1).size))
      have GB := Lib.hid gb; have GA2 := Lib.hid (At.below (S' := fun g => g < Vq2.heap.size) (At.keep (fun _ _ => rfl) (fun g h => h.2.lt) GA.out) q (fun g hg => Nat.lt_of_lt_of_le hg q.size)); clear gb
      clear q
      go_simp
      refine hK.out _ _ Bq2.out (fun hSq2 => ?_)
      try simp only [Act.put, List.setIfInBounds_toArray, List.set_cons_zero, List.set_cons_succ]
      refine wpAnyH_ready (rs := [6]) (by kernel_rfl) (by simp) ?_
      refine' AllReadyH.cons (by simp only [List.getElem?_toArray, List.getElem?_cons_succ, List.getElem?_cons_zero]; rfl) (fun K hK => ?_) AllReadyH.nil
      go_simp
      refine (HEQ.out va vb _ GA2.out (At.keep (fun _ _ => rfl) (fun g h => h.2.lt) GB.out)).mono ?_
      rintro e Vq3 ⟨rfl, q⟩
      have Bq3 := Lib.hid (Below.trans hSq2 (q.mono (hSq2).size))
      clear q
      go_simp
      refine hK.out _ _ Bq3.out (fun hSq3 => ?_)
      try simp only [Act.put, List.setIfInBounds_toArray, List.set_cons_zero, List.set_cons_succ]
      refine' wpAnyH_take (i := 7) (v := _) (by simp only [List.getElem?_toArray, List.getElem?_cons_succ, List.getElem?_cons_zero]; rfl) (by kernel_rfl) (by kernel_rfl) (by kernel_rfl) (by exact fun _ _ _ h => h) (Or.inl ⟨by rfl, ?hyq7⟩) hSq3 ?restq7
      case hyq7 => intro V hSw; clear hSw; go_simp; try with_reducible rfl
      try simp only [Act.put, List.setIfInBounds_toArray, List.set_cons_zero, List.set_cons_succ]
      refine' wpAnyH_take (i := 8) (v := _) (by simp only [List.getElem?_toArray, List.getElem?_cons_succ, List.getElem?_cons_zero]; rfl) (by kernel_rfl) (by kernel_rfl) (by kernel_rfl) (by exact fun _ _ _ h => h) (Or.inl ⟨by rfl, ?hyq8⟩) hSq3 ?restq8
      case hyq8 => intro V hSw; obtain ⟨f0, f1, f2, f3⟩ := SF.out V hSw; clear hSw; go_simp; try with_reducible rfl
      try simp only [Act.put, List.setIfInBounds_toArray, List.set_cons_zero, List.set_cons_succ]
      refine' wpAnyH_take (i := 9) (v := _) (by simp only [List.getElem?_toArray, List.getElem?_cons_succ, List.getElem?_cons_zero]; rfl) (by kernel_rfl) (by kernel_rfl) (by kernel_rfl) (by exact fun _ _ _ h => h) (Or.inl ⟨by rfl, ?hyq9⟩) hSq3 ?restq9
      case hyq9 => intro V hSw; obtain ⟨f0, f1, f2, f3⟩ := SF.out V hSw; clear hSw; go_simp; try with_reducible rfl
      try simp only [Act.put, List.setIfInBounds_toArray, List.set_cons_zero, List.set_cons_succ]
      refine wpAnyH_ready (rs := [10]) (by kernel_rfl) (by simp) ?_
      refine' AllReadyH.cons (by simp only [List.getElem?_toArray, List.getElem?_cons_succ, List.getElem?_cons_zero]; rfl) (fun K hK => ?_) AllReadyH.nil
      go_simp
      refine (HCK.out _ hSq3).mono ?_
      rintro e Vq4 ⟨rfl, q⟩
      have Bq4 := Lib.hid (Below.trans hSq3 (q.mono (hSq3).size))
      clear q
      go_simp
      refine hK.out _ _ Bq4.out (fun hSq4 => ?_)
      try simp only [Act.put, List.setIfInBounds_toArray, List.set_cons_zero, List.set_cons_succ]
      refine' wpAnyH_take (i := 11) (v := _) (by simp only [List.getElem?_toArray, List.getElem?_cons_succ, List.getElem?_cons_zero]; rfl) (by kernel_rfl) (by kernel_rfl) (by kernel_rfl) (by exact fun _ _ _ h => h) (Or.inl ⟨by rfl, ?hyq11⟩) hSq4 ?restq11
      case hyq11 => intro V hSw; clear hSw; go_simp; try with_reducible rfl
      try simp only [Act.put, List.setIfInBounds_toArray, List.set_cons_zero, List.set_cons_succ]
      refine' wpAnyH_take (i := 12) (v := _) (by simp only [List.getElem?_toArray, List.getElem?_cons_succ, List.getElem?_cons_zero]; rfl) (by kernel_rfl) (by kernel_rfl) (by kernel_rfl) (by exact fun _ _ _ h => h) (Or.inl ⟨by rfl, ?hyq12⟩) hSq4 ?restq12
      case hyq12 => intro V hSw; clear hSw; go_simp; try with_reducible rfl
      try simp only [Act.put, List.setIfInBounds_toArray, List.set_cons_zero, List.set_cons_succ]
      refine' wpAnyH_take (i := 13) (v := _) (by simp only [List.getElem?_toArray, List.getElem?_cons_succ, List.getElem?_cons_zero]; rfl) (by kernel_rfl) (by kernel_rfl) (by kernel_rfl) (by exact fun _ _ _ h => h) (Or.inl ⟨by rfl, ?hyq13⟩) hSq4 ?restq13
      case hyq13 => intro V hSw; obtain ⟨f0, f1, f2, f3⟩ := SF.out V hSw; clear hSw; go_simp; try with_reducible rfl
      try simp only [Act.put, List.setIfInBounds_toArray, List.set_cons_zero, List.set_cons_succ]
      refine' wpAnyH_take (i := 14) (v := _) (by simp only [List.getElem?_toArray, List.getElem?_cons_succ, List.getElem?_cons_zero]; rfl) (by kernel_rfl) (by kernel_rfl) (by kernel_rfl) (by exact fun _ _ _ h => h) (Or.inl ⟨by rfl, ?hyq14⟩) hSq4 ?restq14
      case hyq14 => intro V hSw; obtain ⟨f0, f1, f2, f3⟩ := SF.out V hSw; clear hSw; go_simp; try with_reducible rfl
      try simp only [Act.put, List.setIfInBounds_toArray, List.set_cons_zero, List.set_cons_succ]
      refine wpAnyH_ready (rs := [15]) (by kernel_rfl) (by simp) ?_
      refine' AllReadyH.cons (by simp only [List.getElem?_toArray, List.getElem?_cons_succ, List.getElem?_cons_zero]; rfl) (fun K hK => ?_) AllReadyH.nil
      go_simp
      refine (HCD.out _ hSq4).mono ?_
      rintro e Vq5 ⟨rfl, q⟩
      have Bq5 := Lib.hid (Below.trans hSq4 (q.mono (hSq4).size))
      clear q
      go_simp
      refine hK.out _ _ Bq5.out (fun hSq5 => ?_)
      try simp only [Act.put, List.setIfInBounds_toArray, List.set_cons_zero, List.set_cons_succ]
      refine' wpAnyH_take (i := 16) (v := _) (by simp only [List.getElem?_toArray, List.getElem?_cons_succ, List.getElem?_cons_zero]; rfl) (by kernel_rfl) (by kernel_rfl) (by kernel_rfl) (by exact fun _ _ _ h => h) (Or.inl ⟨by rfl, ?hyq16⟩) hSq5 ?restq16
      case hyq16 => intro V hSw; clear hSw; go_simp; try with_reducible rfl
      try simp only [Act.put, List.setIfInBounds_toArray, List.set_cons_zero, List.set_cons_succ]
      refine' wpAnyH_take (i := 17) (v := _) (by simp only [List.getElem?_toArray, List.getElem?_cons_succ, List.getElem?_cons_zero]; rfl) (by kernel_rfl) (by kernel_rfl) (by kernel_rfl) (by exact fun _ _ _ h => h) (Or.inl ⟨by rfl, ?hyq17⟩) hSq5 ?restq17
      case hyq17 => intro V hSw; clear hSw; go_simp; try with_reducible rfl
      try simp only [Act.put, List.setIfInBounds_toArray, List.set_cons_zero, List.set_cons_succ]
      refine wpAnyH_done (by kernel_rfl) ?_ _
      go_wp2_with fail
      go_ret
      exact ⟨rfl, HW.out.trans (Bq5.out.mono HW.out.size)⟩
    · skip
      have hge : decide ((0 : Int) ≤ z) = true := decide_eq_true hz0
      have hmx : max (0 : Int) z = z := by omega
      have hz1 : (z != z) = false := by simp
      rw [hmx, hge]
      go_wp2_with fail
      refine wp_region_held_drew (S := fun V => Below W.heap.size W V) (by kernel_rfl) BW2.out (fun hSr0 => ?_)
      refine' wpAnyH_take (i := 0) (v := _) (by simp only [List.getElem?_toArray, List.getElem?_cons_zero]; rfl) (by kernel_rfl) (by kernel_rfl) (by kernel_rfl) (by exact fun _ _ _ h => h) (Or.inl ⟨by rfl, ?hyr0⟩) hSr0 ?restr0
      case hyr0 => intro V hSw; obtain ⟨f0, f1, f2, f3⟩ := SF.out V hSw; clear hSw; go_simp; try with_reducible rfl
      try simp only [Act.put, List.setIfInBounds_toArray, List.set_cons_zero, List.set_cons_succ]
      refine' wpAnyH_take (i := 2) (v := _) (by simp only [List.getElem?_toArray, List.getElem?_cons_succ, List.getElem?_cons_zero]; rfl) (by kernel_rfl) (by kernel_rfl) (by kernel_rfl) (by exact fun _ _ _ h => h) (Or.inl ⟨by rfl, ?hyr2⟩) hSr0 ?restr2
      case hyr2 => intro V hSw; obtain ⟨f0, f1, f2, f3⟩ := SF.out V hSw; clear hSw; go_simp; try with_reducible rfl
      try simp only [Act.put, List.setIfInBounds_toArray, List.set_cons_zero, List.set_cons_succ]
      refine wpAnyH_ready (rs := [1]) (by kernel_rfl) (by simp) ?_
      refine' AllReadyH.cons (by simp only [List.getElem?_toArray, List.getElem?_cons_succ, List.getElem?_cons_zero]; rfl) (fun K hK => ?_) AllReadyH.nil
      go_simp
      refine (HCC.out _ hSr0).mono ?_
      rintro e Vr1 ⟨rfl, q⟩
      have Br1 := Lib.hid (Below.trans hSr0 (q.mono (hSr0).size))
      clear q
      go_simp
      refine hK.out _ _ Br1.out (fun hSr1 => ?_)
      try simp only [Act.put, List.setIfInBounds_toArray, List.set_cons_zero, List.set_cons_succ]
      refine wpAnyH_ready (rs := [3]) (by kernel_rfl) (by simp) ?_
      refine' AllReadyH.cons (by simp only [List.getElem?_toArray, List.getElem?_cons_succ, List.getElem?_cons_zero]; rfl) (fun K hK => ?_) AllReadyH.nil
      go_simp
      refine (HR2.out _ hSr1).mono ?_
      rintro e Vr2 ⟨rfl, q⟩
      have Br2 := Lib.hid (Below.trans hSr1 (q.mono (hSr1).size))
      clear q
      go_simp
      refine hK.out _ _ Br2.out (fun hSr2 => ?_)
      try simp only [Act.put, List.setIfInBounds_toArray, List.set_cons_zero, List.set_cons_succ]
      refine' wpAnyH_take (i := 4) (v := _) (by simp only [List.getElem?_toArray, List.getElem?_cons_succ, List.getElem?_cons_zero]; rfl) (by kernel_rfl) (by kernel_rfl) (by kernel_rfl) (by exact fun _ _ _ h => h) (Or.inl ⟨by rfl, ?hyr4⟩) hSr2 ?restr4
      case hyr4 => intro V hSw; clear hSw; go_simp; try with_reducible rfl
      try simp only [Act.put, List.setIfInBounds_toArray, List.set_cons_zero, List.set_cons_succ]
      refine' wpAnyH_take (i := 5) (v := _) (by simp only [List.getElem?_toArray, List.getElem?_cons_succ, List.getElem?_cons_zero]; rfl) (by kernel_rfl) (by kernel_rfl) (by kernel_rfl) (by exact fun _ _ _ h => h) (Or.inl ⟨by rfl, ?hyr5⟩) hSr2 ?restr5
      case hyr5 => intro V hSw; clear hSw; go_simp; try with_reducible rfl
      try simp only [Act.put, List.setIfInBounds_toArray, List.set_cons_zero, List.set_cons_succ]
      refine' wpAnyH_take (i := 6) (v := _) (by simp only [List.getElem?_toArray, List.getElem?_cons_succ, List.getElem?_cons_zero]; rfl) (by kernel_rfl) (by kernel_rfl) (by kernel_rfl) (by exact fun _ _ _ h => h) (Or.inl ⟨by rfl, ?hyr6⟩) hSr2 ?restr6
      case hyr6 => intro V hSw; clear hSw; go_simp; try with_reducible rfl
      try simp only [Act.put, List.setIfInBounds_toArray, List.set_cons_zero, List.set_cons_succ]
      refine' wpAnyH_take (i := 8) (v := _) (by simp only [List.getElem?_toArray, List.getElem?_cons_succ, List.getElem?_cons_zero]; rfl) (by kernel_rfl) (by kernel_rfl) (by kernel_rfl) (by exact fun _ _ _ h => h) (Or.inl ⟨by rfl, ?hyr8⟩) hSr2 ?restr8
      case hyr8 => intro V hSw; clear hSw; go_simp; try with_reducible rfl
      try simp only [Act.put, List.setIfInBounds_toArray, List.set_cons_zero, List.set_cons_succ]
      refine wpAnyH_ready (rs := [7]) (by kernel_rfl) (by simp) ?_
      refine' AllReadyH.cons (by simp only [List.getElem?_toArray, List.getElem?_cons_succ, List.getElem?_cons_zero]; rfl) (fun K hK => ?_) AllReadyH.nil
      go_simp
      refine (HN1.out _).mono ?_
      rintro e Vr3 ⟨rfl, q⟩
      have Br3 := Lib.hid (Below.trans hSr2 (q.mono (hSr2).size))
      clear q
      go_simp
      refine hK.out _ _ Br3.out (fun hSr3 => ?_)
      try simp only [Act.put, List.setIfInBounds_toArray, List.set_cons_zero, List.set_cons_succ]
      refine wpAnyH_ready (rs := [9]) (by kernel_rfl) (by simp) ?_
      refine' AllReadyH.cons (by simp only [List.getElem?_toArray, List.getElem?_cons_succ, List.getElem?_cons_zero]; rfl) (fun K hK => ?_) AllReadyH.nil
      go_simp
      refine (HN2.out _).mono ?_
      rintro e Vr4 ⟨rfl, q⟩
      have Br4 := Lib.hid (Below.trans hSr3 (q.mono (hSr3).size))
      clear q
      go_simp
      refine hK.out _ _ Br4.out (fun hSr4 => ?_)
      try simp only [Act.put, List.setIfInBounds_toArray, List.set_cons_zero, List.set_cons_succ]
      refine' wpAnyH_take (i := 10) (v := _) (by simp only [List.getElem?_toArray, List.getElem?_cons_succ, List.getElem?_cons_zero]; rfl) (by kernel_rfl) (by kernel_rfl) (by kernel_rfl) (by exact fun _ _ _ h => h) (Or.inl ⟨by rfl, ?hyr10⟩) hSr4 ?restr10
      case hyr10 => intro V hSw; clear hSw; go_simp; try with_reducible rfl
      try simp only [Act.put, List.setIfInBounds_toArray, List.set_cons_zero, List.set_cons_succ]
      refine' wpAnyH_take (i := 11) (v := _) (by simp only [List.getElem?_toArray, List.getElem?_cons_succ, List.getElem?_cons_zero]; rfl) (by kernel_rfl) (by kernel_rfl) (by kernel_rfl) (by exact fun _ _ _ h => h) (Or.inl ⟨by rfl, ?hyr11⟩) hSr4 ?restr11
      case hyr11 => intro V hSw; clear hSw; go_simp; try with_reducible rfl
      try simp only [Act.put, List.setIfInBounds_toArray, List.set_cons_zero, List.set_cons_succ]
      refine' wpAnyH_take (i := 12) (v := _) (by simp only [List.getElem?_toArray, List.getElem?_cons_succ, List.getElem?_cons_zero]; rfl) (by kernel_rfl) (by kernel_rfl) (by kernel_rfl) (by exact fun _ _ _ h => h) (Or.inl ⟨by rfl, ?hyr12⟩) hSr4 ?restr12
      case hyr12 => intro V hSw; clear hSw; go_simp; try with_reducible rfl
      try simp only [Act.put, List.setIfInBounds_toArray, List.set_cons_zero, List.set_cons_succ]
      refine' wpAnyH_take (i := 13) (v := _) (by simp only [List.getElem?_toArray, List.getElem?_cons_succ, List.getElem?_cons_zero]; rfl) (by kernel_rfl) (by kernel_rfl) (by kernel_rfl) (by exact fun _ _ _ h => h) (Or.inl ⟨by rfl, ?hyr13⟩) hSr4 ?restr13
      case hyr13 => intro V hSw; clear hSw; go_simp; try with_reducible rfl
      try simp only [Act.put, List.setIfInBounds_toArray, List.set_cons_zero, List.set_cons_succ]
      refine' wpAnyH_take (i := 14) (v := _) (by simp only [List.getElem?_toArray, List.getElem?_cons_succ, List.getElem?_cons_zero]; rfl) (by kernel_rfl) (by kernel_rfl) (by kernel_rfl) (by exact fun _ _ _ h => h) (Or.inl ⟨by rfl, ?hyr14⟩) hSr4 ?restr14
      case hyr14 => intro V hSw; clear hSw; go_simp; try with_reducible rfl
      try simp only [Act.put, List.setIfInBounds_toArray, List.set_cons_zero, List.set_cons_succ]
      refine' wpAnyH_take (i := 15) (v := _) (by simp only [List.getElem?_toArray, List.getElem?_cons_succ, List.getElem?_cons_zero]; rfl) (by kernel_rfl) (by kernel_rfl) (by kernel_rfl) (by exact fun _ _ _ h => h) (Or.inl ⟨by rfl, ?hyr15⟩) hSr4 ?restr15
      case hyr15 => intro V hSw; clear hSw; go_simp; try with_reducible rfl
      try simp only [Act.put, List.setIfInBounds_toArray, List.set_cons_zero, List.set_cons_succ]
      refine' wpAnyH_take (i := 16) (v := _) (by simp only [List.getElem?_toArray, List.getElem?_cons_succ, List.getElem?_cons_zero]; rfl) (by kernel_rfl) (by kernel_rfl) (by kernel_rfl) (by exact fun _ _ _ h => h) (Or.inl ⟨by rfl, ?hyr16⟩) hSr4 ?restr16
      case hyr16 => intro V hSw; clear hSw; go_simp; try with_reducible rfl
      try simp only [Act.put, List.setIfInBounds_toArray, List.set_cons_zero, List.set_cons_succ]
      refine' wpAnyH_take (i := 17) (v := _) (by simp only [List.getElem?_toArray, List.getElem?_cons_succ, List.getElem?_cons_zero]; rfl) (by kernel_rfl) (by kernel_rfl) (by kernel_rfl) (by exact fun _ _ _ h => h) (Or.inl ⟨by rfl, ?hyr17⟩) hSr4 ?restr17
      case hyr17 => intro V hSw; clear hSw; go_simp; try with_reducible rfl
      try simp only [Act.put, List.setIfInBounds_toArray, List.set_cons_zero, List.set_cons_succ]
      refine' wpAnyH_take (i := 18) (v := _) (by simp only [List.getElem?_toArray, List.getElem?_cons_succ, List.getElem?_cons_zero]; rfl) (by kernel_rfl) (by kernel_rfl) (by kernel_rfl) (by exact fun _ _ _ h => h) (Or.inl ⟨by rfl, ?hyr18⟩) hSr4 ?restr18
      case hyr18 => intro V hSw; clear hSw; go_simp; try with_reducible rfl
      try simp only [Act.put, List.setIfInBounds_toArray, List.set_cons_zero, List.set_cons_succ]
      refine' wpAnyH_take (i := 19) (v := _) (by simp only [List.getElem?_toArray, List.getElem?_cons_succ, List.getElem?_cons_zero]; rfl) (by kernel_rfl) (by kernel_rfl) (by kernel_rfl) (by exact fun _ _ _ h => h) (Or.inl ⟨by rfl, ?hyr19⟩) hSr4 ?restr19
      case hyr19 => intro V hSw; clear hSw; go_simp; try with_reducible rfl
      try simp only [Act.put, List.setIfInBounds_toArray, List.set_cons_zero, List.set_cons_succ]
      refine' wpAnyH_take (i := 20) (v := _) (by simp only [List.getElem?_toArray, List.getElem?_cons_succ, List.getElem?_cons_zero]; rfl) (by kernel_rfl) (by kernel_rfl) (by kernel_rfl) (by exact fun _ _ _ h => h) (Or.inl ⟨by rfl, ?hyr20⟩) hSr4 ?restr20
      case hyr20 => intro V hSw; clear hSw; go_simp; try with_reducible rfl
      try simp only [Act.put, List.setIfInBounds_toArray, List.set_cons_zero, List.set_cons_succ]
      refine' wpAnyH_take (i := 21) (v := _) (by simp only [List.getElem?_toArray, List.getElem?_cons_succ, List.getElem?_cons_zero]; rfl) (by kernel_rfl) (by kernel_rfl) (by kernel_rfl) (by exact fun _ _ _ h => h) (Or.inl ⟨by rfl, ?hyr21⟩) hSr4 ?restr21
      case hyr21 => intro V hSw; clear hSw; go_simp; try with_reducible rfl
      try simp only [Act.put, List.setIfInBounds_toArray, List.set_cons_zero, List.set_cons_succ]
      refine' wpAnyH_take (i := 22) (v := _) (by simp only [List.getElem?_toArray, List.getElem?_cons_succ, List.getElem?_cons_zero]; rfl) (by kernel_rfl) (by kernel_rfl) (by kernel_rfl) (by exact fun _ _ _ h => h) (Or.inl ⟨by rfl, ?hyr22⟩) hSr4 ?restr22
      case hyr22 => intro V hSw; clear hSw; go_simp; try with_reducible rfl
      try simp only [Act.put, List.setIfInBounds_toArray, List.set_cons_zero, List.set_cons_succ]
      refine' wpAnyH_take (i := 23) (v := _) (by simp only [List.getElem?_toArray, List.getElem?_cons_succ, List.getElem?_cons_zero]; rfl) (by kernel_rfl) (by kernel_rfl) (by kernel_rfl) (by exact fun _ _ _ h => h) (Or.inl ⟨by rfl, ?hyr23⟩) hSr4 ?restr23
      case hyr23 => intro V hSw; clear hSw; go_simp; try with_reducible rfl
      try simp only [Act.put, List.setIfInBounds_toArray, List.set_cons_zero, List.set_cons_succ]
      refine' wpAnyH_take (i := 24) (v := _) (by simp only [List.getElem?_toArray, List.getElem?_cons_succ, List.getElem?_cons_zero]; rfl) (by kernel_rfl) (by kernel_rfl) (by kernel_rfl) (by exact fun _ _ _ h => h) (Or.inl ⟨by rfl, ?hyr24⟩) hSr4 ?restr24
      case hyr24 => intro V hSw; clear hSw; go_simp; try with_reducible rfl
      try simp only [Act.put, List.setIfInBounds_toArray, List.set_cons_zero, List.set_cons_succ]
      refine' wpAnyH_take (i := 25) (v := _) (by simp only [List.getElem?_toArray, List.getElem?_cons_succ, List.getElem?_cons_zero]; rfl) (by kernel_rfl) (by kernel_rfl) (by kernel_rfl) (by exact fun _ _ _ h => h) (Or.inl ⟨by rfl, ?hyr25⟩) hSr4 ?restr25
      case hyr25 => intro V hSw; clear hSw; go_simp; try with_reducible rfl
      try simp only [Act.put, List.setIfInBounds_toArray, List.set_cons_zero, List.set_cons_succ]
      refine' wpAnyH_take (i := 26) (v := _) (by simp only [List.getElem?_toArray, List.getElem?_cons_succ, List.getElem?_cons_zero]; rfl) (by kernel_rfl) (by kernel_rfl) (by kernel_rfl) (by exact fun _ _ _ h => h) (Or.inl ⟨by rfl, ?hyr26⟩) hSr4 ?restr26
      case hyr26 => intro V hSw; clear hSw; go_simp; try with_reducible rfl
      try simp only [Act.put, List.setIfInBounds_toArray, List.set_cons_zero, List.set_cons_succ]
      refine' wpAnyH_take (i := 27) (v := _) (by simp only [List.getElem?_toArray, List.getElem?_cons_succ, List.getElem?_cons_zero]; rfl) (by kernel_rfl) (by kernel_rfl) (by kernel_rfl) (by exact fun _ _ _ h => h) (Or.inl ⟨by rfl, ?hyr27⟩) hSr4 ?restr27
      case hyr27 => intro V hSw; clear hSw; go_simp; try with_reducible rfl
      try simp only [Act.put, List.setIfInBounds_toArray, List.set_cons_zero, List.set_cons_succ]
      refine' wpAnyH_take (i := 28) (v := _) (by simp only [List.getElem?_toArray, List.getElem?_cons_succ, List.getElem?_cons_zero]; rfl) (by kernel_rfl) (by kernel_rfl) (by kernel_rfl) (by exact fun _ _ _ h => h) (Or.inl ⟨by rfl, ?hyr28⟩) hSr4 ?restr28
      case hyr28 => intro V hSw; clear hSw; go_simp; try with_reducible rfl
      try simp only [Act.put, List.setIfInBounds_toArray, List.set_cons_zero, List.set_cons_succ]
      refine' wpAnyH_take (i := 29) (v := _) (by simp only [List.getElem?_toArray, List.getElem?_cons_succ, List.getElem?_cons_zero]; rfl) (by kernel_rfl) (by kernel_rfl) (by kernel_rfl) (by exact fun _ _ _ h => h) (Or.inl ⟨by rfl, ?hyr29⟩) hSr4 ?restr29
      case hyr29 => intro V hSw; clear hSw; go_simp; try with_reducible rfl
      try simp only [Act.put, List.setIfInBounds_toArray, List.set_cons_zero, List.set_cons_succ]
      refine' wpAnyH_take (i := 30) (v := undef) (by simp only [List.getElem?_toArray, List.getElem?_cons_succ, List.getElem?_cons_zero]; rfl) (by kernel_rfl) (by kernel_rfl) (by kernel_rfl) (by exact fun _ _ _ h => h) (Or.inr ⟨by rfl, rfl⟩) hSr4 ?restr30
      try simp only [Act.put, List.setIfInBounds_toArray, List.set_cons_zero, List.set_cons_succ]
      refine' wpAnyH_take (i := 31) (v := undef) (by simp only [List.getElem?_toArray, List.getElem?_cons_succ, List.getElem?_cons_zero]; rfl) (by kernel_rfl) (by kernel_rfl) (by kernel_rfl) (by exact fun _ _ _ h => h) (Or.inr ⟨by rfl, rfl⟩) hSr4 ?restr31
      try simp only [Act.put, List.setIfInBounds_toArray, List.set_cons_zero, List.set_cons_succ]
      refine' wpAnyH_take (i := 32) (v := _) (by simp only [List.getElem?_toArray, List.getElem?_cons_succ, List.getElem?_cons_zero]; rfl) (by kernel_rfl) (by kernel_rfl) (by kernel_rfl) (by exact fun _ _ _ h => h) (Or.inl ⟨by rfl, ?hyr32⟩) hSr4 ?restr32
      case hyr32 => intro V hSw; clear hSw; go_simp; try with_reducible rfl
      try simp only [Act.put, List.setIfInBounds_toArray, List.set_cons_zero, List.set_cons_succ]
      refine' wpAnyH_take (i := 33) (v := _) (by simp only [List.getElem?_toArray, List.getElem?_cons_succ, List.getElem?_cons_zero]; rfl) (by kernel_rfl) (by kernel_rfl) (by kernel_rfl) (by exact fun _ _ _ h => h) (Or.inl ⟨by rfl, ?hyr33⟩) hSr4 ?restr33
      case hyr33 => intro V hSw; clear hSw; go_simp; try with_reducible rfl
      try simp only [Act.put, List.setIfInBounds_toArray, List.set_cons_zero, List.set_cons_succ]
      refine wpAnyH_done (by kernel_rfl) ?_ _
      go_wp2_with fail
      have BW4 : Hid (Below W.heap.size W Vr4.drew) := Lib.hid Br4.out.drew
      refine wp_region_held_drew (S := fun V => Below W.heap.size W V) (by kernel_rfl) BW4.out (fun hSs0 => ?_)
      refine' wpAnyH_take (i := 0) (v := _) (by simp only [List.getElem?_toArray, List.getElem?_cons_zero]; rfl) (by kernel_rfl) (by kernel_rfl) (by kernel_rfl) (by exact fun _ _ _ h => h) (Or.inl ⟨by rfl, ?hys0⟩) hSs0 ?rests0
      case hys0 => intro V hSw; obtain ⟨f0, f1, f2, f3⟩ := SF.out V hSw; clear hSw; go_simp; try with_reducible rfl
      try simp only [Act.put, List.setIfInBounds_toArray, List.set_cons_zero, List.set_cons_succ]
      refine' wpAnyH_take (i := 1) (v := _) (by simp only [List.getElem?_toArray, List.getElem?_cons_succ, List.getElem?_cons_zero]; rfl) (by kernel_rfl) (by kernel_rfl) (by kernel_rfl) (by exact fun _ _ _ h => h) (Or.inl ⟨by rfl, ?hys1⟩) hSs0 ?rests1
      case hys1 => intro V hSw; obtain ⟨f0, f1, f2, f3⟩ := SF.out V hSw; clear hSw; go_simp; try with_reducible rfl
      try simp only [Act.put, List.setIfInBounds_toArray, List.set_cons_zero, List.set_cons_succ]
      refine' wpAnyH_take (i := 3) (v := _) (by simp only [List.getElem?_toArray, List.getElem?_cons_succ, List.getElem?_cons_zero]; rfl) (by kernel_rfl) (by kernel_rfl) (by kernel_rfl) (by exact fun _ _ _ h => h) (Or.inl ⟨by rfl, ?hys3⟩) hSs0 ?rests3
      case hys3 => intro V hSw; obtain ⟨f0, f1, f2, f3⟩ := SF.out V hSw; clear hSw; go_simp; try with_reducible rfl
      try simp only [Act.put, List.setIfInBounds_toArray, List.set_cons_zero, List.set_cons_succ]
      refine' wpAnyH_take (i := 4) (v := _) (by simp only [List.getElem?_toArray, List.getElem?_cons_succ, List.getElem?_cons_zero]; rfl) (by kernel_rfl) (by kernel_rfl) (by kernel_rfl) (by exact fun _ _ _ h => h) (Or.inl ⟨by rfl, ?hys4⟩) hSs0 ?rests4
      case hys4 => intro V hSw; obtain ⟨f0, f1, f2, f3⟩ := SF.out V hSw; clear hSw; go_simp; try with_reducible rfl
      try simp only [Act.put, List.setIfInBounds_toArray, List.set_cons_zero, List.set_cons_succ]
      refine wpAnyH_ready (rs := [2]) (by kernel_rfl) (by simp) ?_
      refine' AllReadyH.cons (by simp only [List.getElem?_toArray, List.getElem?_cons_succ, List.getElem?_cons_zero]; rfl) (fun K hK => ?_) AllReadyH.nil
      go_simp
      refine (HCS.out _ hSs0).mono ?_
      rintro e Vs1 ⟨va, rfl, ga, q⟩
      have Bs1 := Lib.hid (Below.trans hSs0 (q.mono (hSs0).size))
      have GA := Lib.hid ga; clear ga
      clear q
      go_simp
      refine hK.out _ _ Bs1.out (fun hSs1 => ?_)
      try simp only [Act.put, List.setIfInBounds_toArray, List.set_cons_zero, List.set_cons_succ]
      refine wpAnyH_ready (rs := [5]) (by kernel_rfl) (by simp) ?_
      refine' AllReadyH.cons (by simp only [List.getElem?_toArray, List.getElem?_cons_succ, List.getElem?_cons_zero]; rfl) (fun K hK => ?_) AllReadyH.nil
      go_simp
      refine (HR3.out _ hSs1).mono ?_
      rintro e Vs2 ⟨vb, rfl, gb, q⟩
      have Bs2 := Lib.hid (Below.trans hSs1 (q.mono (hSs1).size))
      have GB := Lib.hid gb; have GA2 := Lib.hid (At.below (S' := fun g => g < Vs2.heap.size) (At.keep (fun _ _ => rfl) (fun g h => h.2.lt) GA.out) q (fun g hg => Nat.lt_of_lt_of_le hg q.size)); clear gb
      clear q
      go_simp
      refine hK.out _ _ Bs2.out (fun hSs2 => ?_)
      try simp only [Act.put, List.setIfInBounds_toArray, List.set_cons_zero, List.set_cons_succ]
      refine wpAnyH_ready (rs := [6]) (by kernel_rfl) (by simp) ?_
      refine' AllReadyH.cons (by simp only [List.getElem?_toArray, List.getElem?_cons_succ, List.getElem?_cons_zero]; rfl) (fun K hK => ?_) AllReadyH.nil
      go_simp
      refine (HEQ.out va vb _ GA2.out (At.keep (fun _ _ => rfl) (fun g h => h.2.lt) GB.out)).mono ?_
      rintro e Vs3 ⟨rfl, q⟩
      have Bs3 := Lib.hid (Below.trans hSs2 (q.mono (hSs2).size))
      clear q
      go_simp
      refine hK.out _ _ Bs3.out (fun hSs3 => ?_)
      try simp only [Act.put, List.setIfInBounds_toArray, List.set_cons_zero, List.set_cons_succ]
      refine' wpAnyH_take (i := 7) (v := _) (by simp only [List.getElem?_toArray, List.getElem?_cons_succ, List.getElem?_cons_zero]; rfl) (by kernel_rfl) (by kernel_rfl) (by kernel_rfl) (by exact fun _ _ _ h => h) (Or.inl ⟨by rfl, ?hys7⟩) hSs3 ?rests7
      case hys7 => intro V hSw; clear hSw; go_simp; try with_reducible rfl
      try simp only [Act.put, List.setIfInBounds_toArray, List.set_cons_zero, List.set_cons_succ]
      refine' wpAnyH_take (i := 8) (v := _) (by simp only [List.getElem?_toArray, List.getElem?_cons_succ, List.getElem?_cons_zero]; rfl) (by kernel_rfl) (by kernel_rfl) (by kernel_rfl) (by exact fun _ _ _ h => h) (Or.inl ⟨by rfl, ?hys8⟩) hSs3 ?rests8
      case hys8 => intro V hSw; obtain ⟨f0, f1, f2, f3⟩ := SF.out V hSw; clear hSw; go_simp; try with_reducible rfl
      try simp only [Act.put, List.setIfInBounds_toArray, List.set_cons_zero, List.set_cons_succ]
      refine' wpAnyH_take (i := 9) (v := _) (by simp only [List.getElem?_toArray, List.getElem?_cons_succ, List.getElem?_cons_zero]; rfl) (by kernel_rfl) (by kernel_rfl) (by kernel_rfl) (by exact fun _ _ _ h => h) (Or.inl ⟨by rfl, ?hys9⟩) hSs3 ?rests9
      case hys9 => intro V hSw; obtain ⟨f0, f1, f2, f3⟩ := SF.out V hSw; clear hSw; go_simp; try with_reducible rfl
      try simp only [Act.put, List.setIfInBounds_toArray, List.set_cons_zero, List.set_cons_succ]
      refine wpAnyH_ready (rs := [10]) (by kernel_rfl) (by simp) ?_
      refine' AllReadyH.cons (by simp only [List.getElem?_toArray, List.getElem?_cons_succ, List.getElem?_cons_zero]; rfl) (fun K hK => ?_) AllReadyH.nil
      go_simp
      refine (HCK.out _ hSs3).mono ?_
      rintro e Vs4 ⟨rfl, q⟩
      have Bs4 := Lib.hid (Below.trans hSs3 (q.mono (hSs3).size))
      clear q
      go_simp
      refine hK.out _ _ Bs4.out (fun hSs4 => ?_)
      try simp only [Act.put, List.setIfInBounds_toArray, List.set_cons_zero, List.set_cons_succ]
      refine' wpAnyH_take (i := 11) (v := _) (by simp only [List.getElem?_toArray, List.getElem?_cons_succ, List.getElem?_cons_zero]; rfl) (by kernel_rfl) (by kernel_rfl) (by kernel_rfl) (by exact fun _ _ _ h => h) (Or.inl ⟨by rfl, ?hys11⟩) hSs4 ?rests11
      case hys11 => intro V hSw; clear hSw; go_simp; try with_reducible rfl
      try simp only [Act.put, List.setIfInBounds_toArray, List.set_cons_zero, List.set_cons_succ]
      refine' wpAnyH_take (i := 12) (v := _) (by simp only [List.getElem?_toArray, List.getElem?_cons_succ, List.getElem?_cons_zero]; rfl) (by kernel_rfl) (by kernel_rfl) (by kernel_rfl) (by exact fun _ _ _ h => h) (Or.inl ⟨by rfl, ?hys12⟩) hSs4 ?rests12
      case hys12 => intro V hSw; clear hSw; go_simp; try with_reducible rfl
      try simp only [Act.put, List.setIfInBounds_toArray, List.set_cons_zero, List.set_cons_succ]
      refine' wpAnyH_take (i := 13) (v := _) (by simp only [List.getElem?_toArray, List.getElem?_cons_succ, List.getElem?_cons_zero]; rfl) (by kernel_rfl) (by kernel_rfl) (by kernel_rfl) (by exact fun _ _ _ h => h) (Or.inl ⟨by rfl, ?hys13⟩) hSs4 ?rests13
      case hys13 => intro V hSw; obtain ⟨f0, f1, f2, f3⟩ := SF.out V hSw; clear hSw; go_simp; try with_reducible rfl
      try simp only [Act.put, List.setIfInBounds_toArray, List.set_cons_zero, List.set_cons_succ]
      refine' wpAnyH_take (i := 14) (v := _) (by simp only [List.getElem?_toArray, List.getElem?_cons_succ, List.getElem?_cons_zero]; rfl) (by kernel_rfl) (by kernel_rfl) (by kernel_rfl) (by exact fun _ _ _ h => h) (Or.inl ⟨by rfl, ?hys14⟩) hSs4 ?rests14
      case hys14 => intro V hSw; obtain ⟨f0, f1, f2, f3⟩ := SF.out V hSw; clear hSw; go_simp; try with_reducible rfl
      try simp only [Act.put, List.setIfInBounds_toArray, List.set_cons_zero, List.set_cons_succ]
      refine wpAnyH_ready (rs := [15]) (by kernel_rfl) (by simp) ?_
      refine' AllReadyH.cons (by simp only [List.getElem?_toArray, List.getElem?_cons_succ, List.getElem?_cons_zero]; rfl) (fun K hK => ?_) AllReadyH.nil
      go_simp
      refine (HCD.out _ hSs4).mono ?_
      rintro e Vs5 ⟨rfl, q⟩
      have Bs5 := Lib.hid (Below.trans hSs4 (q.mono (hSs4).size))
      clear q
      go_simp
      refine hK.out _ _ Bs5.out (fun hSs5 => ?_)
      try simp only [Act.put, List.setIfInBounds_toArray, List.set_cons_zero, List.set_cons_succ]
      refine' wpAnyH_take (i := 16) (v := _) (by simp only [List.getElem?_toArray, List.getElem?_cons_succ, List.getElem?_cons_zero]; rfl) (by kernel_rfl) (by kernel_rfl) (by kernel_rfl) (by exact fun _ _ _ h => h) (Or.inl ⟨by rfl, ?hys16⟩) hSs5 ?rests16
      case hys16 => intro V hSw; clear hSw; go_simp; try with_reducible rfl
      try simp only [Act.put, List.setIfInBounds_toArray, List.set_cons_zero, List.set_cons_succ]
      refine' wpAnyH_take (i := 17) (v := _) (by simp only [List.getElem?_toArray, List.getElem?_cons_succ, List.getElem?_cons_zero]; rfl) (by kernel_rfl) (by kernel_rfl) (by kernel_rfl) (by exact fun _ _ _ h => h) (Or.inl ⟨by rfl, ?hys17⟩) hSs5 ?rests17
      case hys17 => intro V hSw; clear hSw; go_simp; try with_reducible rfl
      try simp only [Act.put, List.setIfInBounds_toArray, List.set_cons_zero, List.set_cons_succ]
      refine wpAnyH_done (by kernel_rfl) ?_ _
      go_wp2_with fail
      go_ret
      exact ⟨rfl, HW.out.trans (Bs5.out.mono HW.out.size)⟩
end Go.Proofs.YtfckomjbgopmaaaDoor.SchemaChecksWalk
