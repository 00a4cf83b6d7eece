/- The walk of SchemaBack. Written by gen_schback.py. -/
import Derived.Test.YtfckomjbgopmaaaGreatDoorPack50
import Derived.Deep.RegionHeld3
set_option linter.unusedVariables false
namespace Go.Proofs.YtfckomjbgopmaaaGreatDoor.SchemaBackWalk
open Go.RowKit Words Tree SchP Kit Owned Sch AnaP

/-- What is written is read again. -/
theorem dec_txt {f : FT} {s : ByteArray} {n : Int} (h : decO f s = some n) : decO f (txtO f n) = some n := by
  have hi := decO_i64 h
  unfold decO at h ⊢
  split at h
  · cases h
  · rename_i hs
    rw [if_neg hs]
    unfold txtO OrdLib.txtS
    rw [if_neg hs]
    have := OrdP.dec_text n f.scale.toNat hi.1 hi.2
    simpa [str] using this
theorem valueF_text {f : FT} {k : Nat} {e : ET} {c : CT × Nat} (h : valueF decO runO f k e = some c) : c.1.text.size ≤ e.text.size := by
  unfold valueF at h
  split at h
  · cases hr : runO f e.text with
    | none => rw [hr] at h; cases h
    | some n => rw [hr] at h; cases h; exact Nat.le_refl _
  · split at h
    · split at h
      · cases h; exact Nat.le_refl _
      · cases h
    · split at h
      · cases hr : decO f e.text with
        | none => rw [hr] at h; cases h
        | some n => rw [hr] at h; cases h; exact Nat.zero_le _
      · cases h; exact Nat.zero_le _
theorem cellsF_text {l : List FT} {d : List ET} {r : List CT} {N : Nat} (he : ∀ e ∈ d, e.text.size < N) (h : cellsF decO runO l d = .ok r) : ∀ c ∈ r, c.text.size < N := by
  obtain ⟨_, h64, cs, hm, rfl, _⟩ := cellsF_iff.1 h
  intro c hc
  obtain ⟨p, hp, rfl⟩ := List.mem_map.1 hc
  have : some p ∈ d.map (oneF decO runO l) := by rw [hm]; exact List.mem_map_of_mem hp
  obtain ⟨e, hed, ho⟩ := List.mem_map.1 this
  obtain ⟨k, f, g1, g2, _, g4, _⟩ := oneF_field ho
  exact Nat.lt_of_le_of_lt (valueF_text g4) (he e hed)
theorem backE_text {l : List FT} {c : CT} {e : ET} {N : Nat} (hN : 64 < N) (hc : COk c) (ht : c.text.size < N) (h : backE txtO l c = .ok e) : e.text.size < N := by
  unfold backE at h
  split at h
  · cases h
  · split at h
    · cases h
    · rename_i f hf
      split at h
      · cases h
      · rename_i hq
        split at h
        · rename_i h4
          injection h with h
          subst h
          have hw : wantC f = 1 := by unfold wantC; rw [if_pos (.inr h4)]
          rw [hw] at hq
          have hlen : c.nums.length = 1 := by
            have : (c.nums.length : Int) = 1 := Decidable.byContradiction fun e => hq (.inl e)
            exact_mod_cast this
          obtain ⟨n, hn1⟩ := List.length_eq_one_iff.1 hlen
          have hi := hc.nums.2 n (by rw [hn1]; simp)
          rw [hn1]
          have := txtO_size f n hi
          show (txtO f n).size < N
          omega
        · injection h with h
          subst h
          exact ht
theorem backGo_text {l : List FT} {N : Nat} (hN : 64 < N) : ∀ {cs : List CT} {es : List ET}, (∀ c ∈ cs, COk c ∧ c.text.size < N) → backGo txtO l cs = .ok es → ∀ e ∈ es, e.text.size < N
  | [], es, _, h, e, he => by
    simp only [backGo] at h
    injection h with h
    subst h
    cases he
  | c :: cs, es, hc, h, e, he => by
    simp only [backGo] at h
    split at h
    · cases h
    · rename_i e1 h1
      split at h
      · cases h
      · rename_i d hd
        injection h with h
        subst h
        rcases List.mem_cons.1 he with rfl | he
        · exact backE_text hN (hc c (by simp)).1 (hc c (by simp)).2 h1
        · exact backGo_text hN (fun c hh => hc c (List.mem_cons_of_mem _ hh)) hd e he
theorem backF_text {l : List FT} {N : Nat} (hN : 64 < N) {cs : List CT} {es : List ET} (hc : ∀ c ∈ cs, COk c ∧ c.text.size < N) (h : backF txtO l cs = .ok es) : ∀ e ∈ es, e.text.size < N := by
  unfold backF at h
  split at h
  · cases h
  · exact backGo_text hN hc h

set_option maxRecDepth 100000 in
set_option maxHeartbeats 100000000 in
theorem walk (u x : Value) (l : List FT) (d : List ET) (turn : Int) (w : World) (hu : T.At bare w (fun g => g < w.heap.size) (fieldsT l) u) (hl : l.length * 72 ≤ 140737488351232) (okf : ∀ f ∈ l, FOk f)
    (hx : T.At bare w (fun g => g < w.heap.size) (entriesT d) x) (hd : d.length * 56 ≤ 140737488351232) (oke : ∀ e ∈ d, EOk e) (hes : ∀ e ∈ d, e.text.size < 4294967281) (hT : FoldNext.Tabs w) (hO : OrdLib.OTabs w) :
    Calls Tryz.prog 5 #[.agg #[u], .agg #[x], .int .i64 turn] w (AnsB true w) := by
  have hlt : ∀ {V : World} {g : Nat}, Below w.heap.size w V → g < w.heap.size → g < V.heap.size := fun hV hg => Nat.lt_of_lt_of_le hg hV.size
  have HKN := Lib.hid (fun (V : World) (hV : Below w.heap.size w V) => known_any V (hT.next hV) (hO.next hV))
  have HL1 := Lib.hid (fun (V : World) (hV : Below w.heap.size w V) => lentSchema_any u l V (At.below hu hV (fun g hg => hlt hV hg)) hl okf)
  have HL2 := Lib.hid (fun (V : World) (hV : Below w.heap.size w V) => lentDoc_any x d V (At.below hx hV (fun g hg => hlt hV hg)) hd oke)
  have HCC := Lib.hid (fun (vi vd : Value) (V : World) (hi : T.At bare V (fun g => g < V.heap.size) (fieldsT l) vi) (hdd : T.At bare V (fun g => g < V.heap.size) (entriesT d) vd) (hw : Below w.heap.size w V) => cells_any vi vd l d V hi hl okf hdd hd oke hes (hT.next hw) (hO.next hw))
  have HC2 := Lib.hid (fun (d' : List ET) (vd : Value) (V : World) (hdl : d'.length ≤ d.length) (ho : ∀ e ∈ d', EOk e) (ht : ∀ e ∈ d', e.text.size < 4294967281) (hdd : T.At bare V (fun g => g < V.heap.size) (entriesT d') vd) (hw : Below w.heap.size w V) => cells_any u vd l d' V (At.below hu hw (fun g hg => hlt hw hg)) hl okf hdd (by omega) ho ht (hT.next hw) (hO.next hw))
  have HBK := Lib.hid (fun (cs : List CT) (vc : Value) (V : World) (hc : cs.length ≤ d.length) (ho : ∀ c ∈ cs, COk c) (hdd : T.At bare V (fun g => g < V.heap.size) (cellsT cs) vc) (hw : Below w.heap.size w V) => back_any u vc l cs V (At.below hu hw (fun g hg => hlt hw hg)) hl okf hdd (by omega) ho (OrdLib.pow_next hO.pow hw))
  have HOKF := Lib.hid okf
  have HOKE := Lib.hid oke
  have HES := Lib.hid hes
  obtain ⟨r, hr⟩ : ∃ r, cellsF decO runO l d = r := ⟨_, rfl⟩
  rw [hr] at HCC
  have HR := Lib.hid hr
  obtain ⟨A, cA, rfl, _, _⟩ := at_slice hu
  obtain ⟨D, cD, vs, hxe, hcD, hmD, hrd, hax⟩ := At.reads hx
  subst hxe
  have HRX := Lib.hid hrd; have HAX := Lib.hid hax
  clear hu hx hlt hT hO hr hrd hax okf oke hes
  go_enter Tryz.func5, Tryz.ntmps5
  go_wp2_with fail
  have hB0 := below2 (w := w) (.cells #[.slice A l.length cA] 24) (.cells #[.slice D d.length cD] 30)
  have BA0 := blk_a w #[.slice A l.length cA] #[.slice D d.length cD] 24 30
  have BB0 := blk_b w #[.slice A l.length cA] #[.slice D d.length cD] 24 30
  refine (HKN.out _ hB0).mono ?_
  rintro e W1 ⟨rfl, b1⟩
  have HB1 := Lib.hid (hB0.trans (b1.mono hB0.size))
  have BA1 := Lib.hid (BA0.below b1 BA0.lt); have BB1 := Lib.hid (BB0.below b1 BB0.lt)
  have q0 : W1.cell? ⟨w.heap.size, 0, none⟩ = some (.slice A l.length cA) := BA1.out.cell 0
  have q1 : W1.cell? ⟨w.heap.size + 1, 0, none⟩ = some (.slice D d.length cD) := BB1.out.cell 0
  clear b1 BA0 BB0 hB0 HKN
  go_upto_region 3 with fail
  clear q0 q1
  refine wp_region_held_drew (S := fun V => Below W1.heap.size W1 V) (by kernel_rfl) (Below.refl _ _).drew (fun hS0 => ?_)
  refine' wpAnyH_take (i := 0) (v := _) (by simp only [List.getElem?_toArray, List.getElem?_cons_zero]; rfl) (by kernel_rfl) (by kernel_rfl) (by kernel_rfl) (by exact fun _ _ _ h => h) (Or.inl ⟨by rfl, ?hma0⟩) hS0 ?rma0
  case hma0 => intro V hSw; have fq : V.cell? ⟨w.heap.size, 0, none⟩ = some (.slice A l.length cA) := (BA1.out.below hSw BA1.out.lt).cell 0; clear hSw; go_simp; try with_reducible rfl
  try simp only [Act.put, List.setIfInBounds_toArray, List.set_cons_zero, List.set_cons_succ]
  refine' wpAnyH_take (i := 2) (v := _) (by simp only [List.getElem?_toArray, List.getElem?_cons_succ, List.getElem?_cons_zero]; rfl) (by kernel_rfl) (by kernel_rfl) (by kernel_rfl) (by exact fun _ _ _ h => h) (Or.inl ⟨by rfl, ?hma2⟩) hS0 ?rma2
  case hma2 => intro V hSw; have fq : V.cell? ⟨w.heap.size + 1, 0, none⟩ = some (.slice D d.length cD) := (BB1.out.below hSw BB1.out.lt).cell 0; clear hSw; go_simp; try with_reducible rfl
  try simp only [Act.put, List.setIfInBounds_toArray, List.set_cons_zero, List.set_cons_succ]
  refine wpAnyH_ready (rs := [1]) (by kernel_rfl) (by simp) ?_
  refine' AllReadyH.cons (by simp only [List.getElem?_toArray, List.getElem?_cons_succ, List.getElem?_cons_zero]; rfl) (fun K hK => ?_) AllReadyH.nil
  go_simp
  refine (HL1.out _ (HB1.out.trans (hS0.mono HB1.out.size))).mono ?_
  rintro e V1 ⟨vi, rfl, ai, hb⟩
  have hS1 : Below W1.heap.size W1 V1 := hS0.trans (hb.mono hS0.size)
  obtain ⟨L, c1, rfl, _, _⟩ := at_slice ai
  have AI := Lib.hid (At.keep (S' := fun g => g < V1.heap.size) (fun _ _ => rfl) (fun g h => h.2) ai)
  clear hb ai
  go_simp
  refine hK.out _ _ hS1 (fun hT1 => ?_)
  clear hT1 hK K
  try simp only [Act.put, List.setIfInBounds_toArray, List.set_cons_zero, List.set_cons_succ]
  refine wpAnyH_ready (rs := [3]) (by kernel_rfl) (by simp) ?_
  refine' AllReadyH.cons (by simp only [List.getElem?_toArray, List.getElem?_cons_succ, List.getElem?_cons_zero]; rfl) (fun K hK => ?_) AllReadyH.nil
  go_simp
  refine (HL2.out _ (HB1.out.trans (hS1.mono HB1.out.size))).mono ?_
  rintro e V2 ⟨vd, rfl, ad, hb⟩
  have hS2 : Below W1.heap.size W1 V2 := hS1.trans (hb.mono hS1.size)
  obtain ⟨M, c2, rfl, _, _⟩ := at_slice ad
  have HQ := Lib.hid (HCC.out _ _ V2 (At.below (S' := fun g => g < V2.heap.size) (At.bare AI.out) hb (fun g hg => Nat.lt_of_lt_of_le hg hb.size)) (At.bare (At.keep (S' := fun g => g < V2.heap.size) (fun _ _ => rfl) (fun g h => h.2) ad)) (HB1.out.trans (hS2.mono HB1.out.size)))
  clear hb ad AI
  go_simp
  refine hK.out _ _ hS2 (fun hT2 => ?_)
  clear hT2 hK K
  try simp only [Act.put, List.setIfInBounds_toArray, List.set_cons_zero, List.set_cons_succ]
  refine wpAnyH_ready (rs := [4]) (by kernel_rfl) (by simp) ?_
  refine' AllReadyH.cons (by simp only [List.getElem?_toArray, List.getElem?_cons_succ, List.getElem?_cons_zero]; rfl) (fun K hK => ?_) AllReadyH.nil
  go_simp
  refine HQ.out.mono ?_
  intro e Wc h2
  obtain ⟨vc, rfl, gc, hb⟩ := bothC h2
  obtain ⟨C, cc, rfl, _, _⟩ := at_slice gc
  have hS3 : Below W1.heap.size W1 Wc := hS2.trans (hb.mono hS2.size)
  have HVC := Lib.hid (At.keep (S' := fun g => g < Wc.heap.size) (fun _ _ => rfl) (fun g h => h.2.lt) gc)
  clear hb gc h2 HQ
  go_simp
  refine hK.out _ _ hS3 (fun hT3 => ?_)
  clear hT3 hK K
  try simp only [Act.put, List.setIfInBounds_toArray, List.set_cons_zero, List.set_cons_succ]
  refine' wpAnyH_take (i := 5) (v := _) (by simp only [List.getElem?_toArray, List.getElem?_cons_succ, List.getElem?_cons_zero]; rfl) (by kernel_rfl) (by kernel_rfl) (by kernel_rfl) (by exact fun _ _ _ h => h) (Or.inl ⟨by rfl, ?hmb5⟩) hS3 ?rmb5
  case hmb5 => intro V hSw; clear hSw; go_simp; try with_reducible rfl
  try simp only [Act.put, List.setIfInBounds_toArray, List.set_cons_zero, List.set_cons_succ]
  refine' wpAnyH_take (i := 6) (v := _) (by simp only [List.getElem?_toArray, List.getElem?_cons_succ, List.getElem?_cons_zero]; rfl) (by kernel_rfl) (by kernel_rfl) (by kernel_rfl) (by exact fun _ _ _ h => h) (Or.inl ⟨by rfl, ?hmb6⟩) hS3 ?rmb6
  case hmb6 => intro V hSw; clear hSw; go_simp; try with_reducible rfl
  try simp only [Act.put, List.setIfInBounds_toArray, List.set_cons_zero, List.set_cons_succ]
  refine' wpAnyH_take (i := 7) (v := _) (by simp only [List.getElem?_toArray, List.getElem?_cons_succ, List.getElem?_cons_zero]; rfl) (by kernel_rfl) (by kernel_rfl) (by kernel_rfl) (by exact fun _ _ _ h => h) (Or.inl ⟨by rfl, ?hmb7⟩) hS3 ?rmb7
  case hmb7 => intro V hSw; clear hSw; go_simp; try with_reducible rfl
  try simp only [Act.put, List.setIfInBounds_toArray, List.set_cons_zero, List.set_cons_succ]
  refine' wpAnyH_take (i := 8) (v := _) (by simp only [List.getElem?_toArray, List.getElem?_cons_succ, List.getElem?_cons_zero]; rfl) (by kernel_rfl) (by kernel_rfl) (by kernel_rfl) (by exact fun _ _ _ h => h) (Or.inl ⟨by rfl, ?hmb8⟩) hS3 ?rmb8
  case hmb8 => intro V hSw; clear hSw; go_simp; try with_reducible rfl
  try simp only [Act.put, List.setIfInBounds_toArray, List.set_cons_zero, List.set_cons_succ]
  refine' wpAnyH_take (i := 9) (v := _) (by simp only [List.getElem?_toArray, List.getElem?_cons_succ, List.getElem?_cons_zero]; rfl) (by kernel_rfl) (by kernel_rfl) (by kernel_rfl) (by exact fun _ _ _ h => h) (Or.inl ⟨by rfl, ?hmb9⟩) hS3 ?rmb9
  case hmb9 => intro V hSw; clear hSw; go_simp; try with_reducible rfl
  try simp only [Act.put, List.setIfInBounds_toArray, List.set_cons_zero, List.set_cons_succ]
  refine wpAnyH_done (by kernel_rfl) ?_ _
  have HBc := Lib.hid (HB1.out.trans (hS3.mono HB1.out.size))
  have BAc := Lib.hid (BA1.out.below hS3 BA1.out.lt); have BBc := Lib.hid (BB1.out.below hS3 BB1.out.lt)
  clear hS0 hS1 hS2 hS3 HB1 BA1 BB1 HL1 HL2 HCC
  by_cases hc0 : codeC r = 0
  rotate_left
  · have hc1 : (codeC r != 0) = true := by simpa using hc0
    have hz1 : (((okC r).length : Int) == 0) = true := by
      cases r with
      | error n => rfl
      | ok cs => exact absurd rfl hc0
    clear hc0
    go_wp2_with fail
    go_ret
    exact ⟨by simp, HBc.out⟩
  have hc1 : (codeC r != 0) = false := by simpa using hc0
  obtain ⟨cs, hcs⟩ : ∃ cs, r = .ok cs := by
    have := HR.out
    rw [← this] at hc0
    obtain ⟨q, hq⟩ := codeC_zero.1 hc0
    exact ⟨q, this.symm.trans hq⟩
  subst hcs
  have hcl : cs.length = d.length := cellsF_len HR.out
  have h64 : cs.length ≤ 64 ∧ ∀ c ∈ cs, COk c := cellsF_ok hl HOKE.out HR.out
  obtain ⟨b, hb1, hb2, hb3⟩ := cellsF_back (dec := decO) (run := runO) txtO (fun f s n _ _ h => dec_txt h) HR.out
  have hbo := backF_ok HOKF.out h64.2 hb1
  have hbt := backF_text (N := 4294967281) (by omega) (fun c hc => ⟨h64.2 c hc, cellsF_text HES.out HR.out c hc⟩) hb1
  simp only [okC] at HVC ⊢
  simp only [codeC] at hc1 ⊢
  have HBQ := Lib.hid (HBK.out cs _ Wc (by omega) h64.2 HVC.out HBc.out)
  rw [hb1] at HBQ
  have HCB := Lib.hid (fun (vb : Value) (V : World) (hv : T.At bare V (fun g => g < V.heap.size) (entriesT b) vb) (hV : Below w.heap.size w V) => HC2.out b vb V (by omega) hbo.2 hbt hv hV)
  rw [hb2] at HCB
  have HOC := Lib.hid h64.2
  have HCL := Lib.hid hcl; have HBL := Lib.hid hb3
  have h64' := h64.1
  have hd64 : d.length ≤ 64 := by omega
  clear hc0 hb1 hb2 hbo hbt h64 HBK hb3 hcl
  have x0 : Wc.cell? ⟨w.heap.size, 0, none⟩ = some (.slice A l.length cA) := BAc.out.cell 0
  go_wp2_with fail
  refine HBQ.out.mono ?_
  rintro e W3 ⟨b3, vb, rfl, gb⟩
  obtain ⟨Bv, bc, rfl, _, _⟩ := at_slice gb
  have HB3 := Lib.hid (HBc.out.trans (b3.mono HBc.out.size))
  have BA3 := Lib.hid (BAc.out.below b3 BAc.out.lt); have BB3 := Lib.hid (BBc.out.below b3 BBc.out.lt)
  have HVB := Lib.hid (At.keep (S' := fun g => g < W3.heap.size) (fun _ _ => rfl) (fun g h => h.2.lt) gb)
  have HVC3 := Lib.hid (At.below (S' := fun g => g < W3.heap.size) HVC.out b3 (fun g hg => Nat.lt_of_lt_of_le hg b3.size))
  clear b3 gb x0 HBQ HVC BAc BBc
  go_upto_region 7 with fail
  have hb4 : Below W3.heap.size W3 (W3.alloc (.cells #[.slice Bv b.length bc] 30)) := (Below.refl _ _).alloc (Nat.le_refl _) _
  have BG4 := Lib.hid (Blk.new W3 30 #[.slice Bv b.length bc])
  generalize W3.alloc (.cells #[.slice Bv b.length bc] 30) = W4 at *
  have HB4 := Lib.hid (HB3.out.trans (hb4.mono HB3.out.size))
  have BA4 := Lib.hid (BA3.out.below hb4 BA3.out.lt); have BB4 := Lib.hid (BB3.out.below hb4 BB3.out.lt)
  have HVB4 := Lib.hid (At.below (S' := fun g => g < W4.heap.size) HVB.out hb4 (fun g hg => Nat.lt_of_lt_of_le hg hb4.size))
  have HVC4 := Lib.hid (At.below (S' := fun g => g < W4.heap.size) HVC3.out hb4 (fun g hg => Nat.lt_of_lt_of_le hg hb4.size))
  have HQ4 := Lib.hid (HCB.out _ W4 HVB4.out HB4.out)
  have x0 : W4.cell? ⟨w.heap.size, 0, none⟩ = some (.slice A l.length cA) := BA4.out.cell 0
  have x1 : W4.cell? ⟨W3.heap.size, 0, none⟩ = some (.slice Bv b.length bc) := BG4.out.cell 0
  clear hb4 HVB HVC3 BA3 BB3 HVB4 HCB
  go_wp2_with fail
  refine HQ4.out.mono ?_
  rintro e W5 ⟨b5, vx, rfl, gx⟩
  obtain ⟨Xa, xc, rfl, _, _⟩ := at_slice gx
  have HB5' := Lib.hid (HB4.out.trans (b5.mono HB4.out.size))
  have BA5 := Lib.hid (BA4.out.below b5 BA4.out.lt); have BB5 := Lib.hid (BB4.out.below b5 BB4.out.lt); have BG5 := Lib.hid (BG4.out.below b5 BG4.out.lt)
  have HVC5 := Lib.hid (At.below (S' := fun g => g < W5.heap.size) HVC4.out b5 (fun g hg => Nat.lt_of_lt_of_le hg b5.size))
  have HQ5 := Lib.hid (kitCells_any (.slice Xa cs.length xc) (.slice C cs.length cc) cs cs W5 (At.keep (fun _ _ => rfl) (fun g h => h.2.lt) gx) HVC5.out (by omega) (by omega) HOC.out HOC.out true (by simp))
  clear b5 gx x0 x1 HQ4 HVC4 BA4 BB4 BG4
  go_wp2_with fail
  refine HQ5.out.mono ?_
  rintro e W2 ⟨rfl, b2⟩
  have HB2 := Lib.hid (HB5'.out.trans (b2.mono HB5'.out.size))
  have BA2 := Lib.hid (BA5.out.below b2 BA5.out.lt); have BB2 := Lib.hid (BB5.out.below b2 BB5.out.lt); have BG2 := Lib.hid (BG5.out.below b2 BG5.out.lt)
  have HVC := Lib.hid (At.below (S' := fun g => g < W2.heap.size) HVC5.out b2 (fun g hg => Nat.lt_of_lt_of_le hg b2.size))
  have y0 : W2.cell? ⟨W3.heap.size, 0, none⟩ = some (.slice Bv b.length bc) := BG2.out.cell 0
  have y1 : W2.cell? ⟨w.heap.size + 1, 0, none⟩ = some (.slice D d.length cD) := BB2.out.cell 0
  have hbd : ((b.length : Int) != (d.length : Int)) = false := by rw [HBL.out]; simp
  clear b2 HQ5 BA5 BB5 BG5 HVC5
  by_cases hd0 : d.length = 0
  · have hz2 : ((d.length : Int) == 0) = true := by rw [hd0]; rfl
    clear hd0
    go_wp2_with fail
    go_ret
    exact ⟨rfl, HB2.out⟩
  have hz2 : ((d.length : Int) == 0) = false := by simpa using hd0
  have hdp : 0 < d.length := by omega
  have hm1 : turn.tmod d.length < d.length := Int.tmod_lt_of_pos _ (by omega)
  have hm2 : -(d.length : Int) < turn.tmod d.length := by
    have := Int.lt_tmod_of_pos turn (b := (d.length : Int)) (by omega)
    exact this
  clear hd0
  rcases (show 0 ≤ turn.tmod d.length ∨ turn.tmod d.length < 0 by omega) with hs | hs
  · obtain ⟨k, hk⟩ : ∃ k : Nat, turn.tmod d.length = (k : Int) := ⟨(turn.tmod d.length).toNat, by omega⟩
    have hsn : decide ((k : Int) < 0) = false := decide_eq_false (by omega)
    have hkl : k < d.length := by omega
    rw [hk] at hm1 hm2 hs
    have hkc : (k : Int) ≤ (cD : Int) := by omega
    have hkd : (k : Int) ≤ (d.length : Int) := by omega
    have hk1 : (k : Int) + 1 ≤ (cD : Int) := by omega
    have hk2 : (k : Int) + 1 ≤ (d.length : Int) := by omega
    have hk0 : (0 : Int) ≤ (k : Int) := by omega
    have hk3 : (0 : Int) ≤ (k : Int) + 1 := by omega
    have hk4 : k + 1 ≤ d.length := by omega
    have hk5 : k + 1 ≤ cD := by omega
    have hk6 : ((k : Int) + 1).toNat = k + 1 := by omega
    have hk7 : ¬ ((k : Int) + 1 < 0) := by omega
    have hkz : ¬ cD = 0 := by omega
    have hwk : IntKind.i64.wrap ((k : Int) + 1) = (k : Int) + 1 := IntWalk.i64_in _ (by omega)
    obtain ⟨ad, hDe, hadb, hcells⟩ := HRX.out.2 hdp
    subst hDe
    obtain ⟨A', hA'⟩ : ∃ A', (if cD = k + 1 then some ad else some (ad.add ((k + 1) * 3))) = A' := ⟨_, rfl⟩
    go_upto_region 17 with fail
    have hb5 : Below W2.heap.size W2 (W2.alloc (.cells #[.slice none 0 0] 30)) := (Below.refl _ _).alloc (Nat.le_refl _) _
    have BT5 := Lib.hid (Blk.new W2 30 #[.slice none 0 0])
    generalize W2.alloc (.cells #[.slice none 0 0] 30) = W5 at *
    have HB5 := Lib.hid hb5
    have hz5 : W2.heap.size < W5.heap.size := BT5.out.lt
    have cT : W5.cell? ⟨W2.heap.size, 0, none⟩ = some (.slice none 0 0) := BT5.out.cell 0
    have HRP : Hid (Reads w w.heap.size 3 A' (d.length - (k + 1)) (vs.drop ((k + 1) * 3))) := Lib.hid (by
      have := Reads.cut HRX.out (k := k + 1) (by omega) hcD
      rw [← hA']; exact this)
    have HRQ : Hid (Reads w w.heap.size 3 (some ad) k (vs.take (k * 3))) := Lib.hid (reads_part HRX.out (by omega))
    have HP := Lib.hid (atL_parts ecells_len HAX.out (k := k) (by omega)); have HPD := Lib.hid (atL_parts ecells_len HAX.out (k := k + 1) (by omega))
    clear hb5 hcells y0 y1
    refine wp_region_held_drew (S := fun V => Below W2.heap.size W2 V) (by kernel_rfl) (HB5.out).drew (fun hS0 => ?_)
    refine' wpAnyH_take (i := 0) (v := _) (by simp only [List.getElem?_toArray, List.getElem?_cons_zero]; rfl) (by kernel_rfl) (by kernel_rfl) (by kernel_rfl) (by exact fun _ _ _ h => h) (Or.inl ⟨by rfl, ?hmpa0⟩) hS0 ?rmpa0
    case hmpa0 => intro V hSw; clear hSw; go_simp; try with_reducible rfl
    try simp only [Act.put, List.setIfInBounds_toArray, List.set_cons_zero, List.set_cons_succ]
    refine' wpAnyH_take (i := 2) (v := _) (by simp only [List.getElem?_toArray, List.getElem?_cons_succ, List.getElem?_cons_zero]; rfl) (by kernel_rfl) (by kernel_rfl) (by kernel_rfl) (by exact fun _ _ _ h => h) (Or.inl ⟨by rfl, ?hmpa2⟩) hS0 ?rmpa2
    case hmpa2 => intro V hSw; clear hSw; go_simp; try with_reducible rfl
    try simp only [Act.put, List.setIfInBounds_toArray, List.set_cons_zero, List.set_cons_succ]
    refine' wpAnyH_take (i := 3) (v := _) (by simp only [List.getElem?_toArray, List.getElem?_cons_succ, List.getElem?_cons_zero]; rfl) (by kernel_rfl) (by kernel_rfl) (by kernel_rfl) (by exact fun _ _ _ h => h) (Or.inl ⟨by rfl, ?hmpa3⟩) hS0 ?rmpa3
    case hmpa3 => intro V hSw; have fq : V.cell? ⟨w.heap.size + 1, 0, none⟩ = some (.slice (some ad) d.length cD) := (BB2.out.below hSw BB2.out.lt).cell 0; clear hSw; go_simp; try with_reducible rfl
    try simp only [Act.put, List.setIfInBounds_toArray, List.set_cons_zero, List.set_cons_succ]
    refine' wpAnyH_take (i := 4) (v := _) (by simp only [List.getElem?_toArray, List.getElem?_cons_succ, List.getElem?_cons_zero]; rfl) (by kernel_rfl) (by kernel_rfl) (by kernel_rfl) (by exact fun _ _ _ h => h) (Or.inl ⟨by rfl, ?hmpa4⟩) hS0 ?rmpa4
    case hmpa4 => intro V hSw; clear hSw; go_simp; try with_reducible rfl
    try simp only [Act.put, List.setIfInBounds_toArray, List.set_cons_zero, List.set_cons_succ]
    refine' wpAnyH_take (i := 5) (v := _) (by simp only [List.getElem?_toArray, List.getElem?_cons_succ, List.getElem?_cons_zero]; rfl) (by kernel_rfl) (by kernel_rfl) (by kernel_rfl) (by exact fun _ _ _ h => h) (Or.inl ⟨by rfl, ?hmpa5⟩) hS0 ?rmpa5
    case hmpa5 => intro V hSw; clear hSw; go_simp; try with_reducible rfl
    try simp only [Act.put, List.setIfInBounds_toArray, List.set_cons_zero, List.set_cons_succ]
    refine wpAnyH_ready (rs := [1]) (by kernel_rfl) (by simp) ?_
    refine' AllReadyH.cons (by simp only [List.getElem?_toArray, List.getElem?_cons_succ, List.getElem?_cons_zero]; rfl) (fun K hK => ?_) AllReadyH.nil
    go_simp
    refine hK.out _ _ hS0 (fun hS1 => ?_)
    clear hK K
    try simp only [Act.put, List.setIfInBounds_toArray, List.set_cons_zero, List.set_cons_succ]
    refine wpAnyH_ready (rs := [6]) (by kernel_rfl) (by simp) ?_
    refine' AllReadyH.cons (by simp only [List.getElem?_toArray, List.getElem?_cons_succ, List.getElem?_cons_zero]; rfl) (fun K hK => ?_) AllReadyH.nil
    obtain ⟨j0, hj1, hj2, hj3, hj4⟩ := info_parts infoE
    refine step_append_any _ rfl (.tmp 81) (.tmp 85) 28 rfl W5.heap.size 68 j0 _ 3 56 Tryz.underlying28 hj1 hj2 hj3 hj4 rfl (by decide) (.slice none 0 0) 0 [] rfl (World.ownsRow_nil _ _ _ _) w.heap.size (some ad) k cD (vs.take (k * 3)) rfl ?epa1 ?epa2 ?epa3 ?epa4 ?epa5 ?_
    case epa1 => exact ((HRQ.out.below (HB2.out.trans (HB5.out.mono HB2.out.size))).drew)
    case epa2 => exact atL_one ecells_one _ HP.out.1
    case epa3 => unfold maxLen; omega
    case epa4 => omega
    case epa5 => exact Nat.le_refl _
    intro v1 w6 ho1 hg1 _
    replace ho1 : w6.ownsRow W5.heap.size 68 3 v1 k (vs.take (k * 3)) := by simpa using ho1
    have HO1 := Lib.hid ho1
    have hS2 : Below W2.heap.size W2 w6 := hS0.grown hg1 (by show W2.heap.size ≤ W5.heap.size; omega) (fun r e => by simp [Value.ownBlock] at e)
    have HB6 : Hid (Below W5.heap.size W5 w6) := Lib.hid ((Below.refl _ W5).drew.grown hg1 (Nat.le_refl _) (fun r e => by simp [Value.ownBlock] at e))
    have BT6 := Lib.hid (BT5.out.below HB6.out hz5)
    obtain ⟨av, ac, rfl⟩ := own_sl ho1
    have cT6 : w6.cell? ⟨W2.heap.size, 0, none⟩ = some (.slice none 0 0) := BT6.out.cell 0
    have cF6 : w6.frozen? ⟨W2.heap.size, 0, none⟩ = false := BT6.out.frozen 0
    have hz6 : W2.heap.size < w6.heap.size := BT6.out.lt
    clear ho1 hg1 cT
    refine hK.out _ _ hS2 (fun hS3 => ?_)
    clear hS3 hK K
    try simp only [Act.put, List.setIfInBounds_toArray, List.set_cons_zero, List.set_cons_succ]
    refine' wpAnyH_take (i := 7) (v := _) (by simp only [List.getElem?_toArray, List.getElem?_cons_succ, List.getElem?_cons_zero]; rfl) (by kernel_rfl) (by kernel_rfl) (by kernel_rfl) (by exact fun _ _ _ h => h) (Or.inl ⟨by rfl, ?hmpax7⟩) hS2 ?rmpax7
    case hmpax7 => intro V hSw; clear hSw; go_simp; try with_reducible rfl
    try simp only [Act.put, List.setIfInBounds_toArray, List.set_cons_zero, List.set_cons_succ]
    refine wpAnyH_ready (rs := [8]) (by kernel_rfl) (by simp) ?_
    refine' AllReadyH.cons (by simp only [List.getElem?_toArray, List.getElem?_cons_succ, List.getElem?_cons_zero]; rfl) (fun K hK => ?_) AllReadyH.nil
    go_simp
    refine hK.out _ _ (hS2.setCell (Nat.le_refl W2.heap.size) _) (fun hS3 => ?_)
    try simp only [Act.put, List.setIfInBounds_toArray, List.set_cons_zero, List.set_cons_succ]
    refine wpAnyH_done (by kernel_rfl) ?_ _
    clear hK K hS1 hS2 hS0 cT6 cF6
    have BT7 : Hid (Blk (w6.setCell ⟨W2.heap.size, 0, none⟩ (.slice av k ac)) W2.heap.size 30 #[.slice av k ac]) := Lib.hid (BT6.out.set_ 0 _)
    have HB7 : Hid (Below W2.heap.size W2 (w6.setCell ⟨W2.heap.size, 0, none⟩ (.slice av k ac))) := Lib.hid hS3
    have HO7 : Hid ((w6.setCell ⟨W2.heap.size, 0, none⟩ (.slice av k ac)).ownsRow W5.heap.size 68 3 (.slice av k ac) k (vs.take (k * 3))) := Lib.hid (HO1.out.kept (only_setCell (World.grownBy.refl w6 _) (.inl rfl) _) (.inr (own_blk_ne HO1.out BT6.out (by decide))))
    have hzb : W5.heap.size ≤ (w6.setCell ⟨W2.heap.size, 0, none⟩ (.slice av k ac)).heap.size := by simpa [World.setCell] using HB6.out.size
    clear hS3
    generalize w6.setCell ⟨W2.heap.size, 0, none⟩ (.slice av k ac) = W7 at *
    have hz7 : W2.heap.size < W7.heap.size := BT7.out.lt
    have cT7 : W7.cell? ⟨W2.heap.size, 0, none⟩ = some (.slice av k ac) := BT7.out.cell 0
    obtain ⟨m, hm⟩ : ∃ m, k + (d.length - (k + 1)) = m := ⟨_, rfl⟩
    have hmd : m ≤ d.length := by omega
    clear BT6 HO1 HB6 BT5
    go_upto_region 18 with fail
    refine wp_region_held_drew (S := fun V => Below W2.heap.size W2 V) (by kernel_rfl) (HB7.out).drew (fun hS0 => ?_)
    refine' wpAnyH_take (i := 0) (v := _) (by simp only [List.getElem?_toArray, List.getElem?_cons_zero]; rfl) (by kernel_rfl) (by kernel_rfl) (by kernel_rfl) (by exact fun _ _ _ h => h) (Or.inl ⟨by rfl, ?hmqa0⟩) hS0 ?rmqa0
    case hmqa0 => intro V hSw; clear hSw; go_simp; try with_reducible rfl
    try simp only [Act.put, List.setIfInBounds_toArray, List.set_cons_zero, List.set_cons_succ]
    refine' wpAnyH_take (i := 2) (v := _) (by simp only [List.getElem?_toArray, List.getElem?_cons_succ, List.getElem?_cons_zero]; rfl) (by kernel_rfl) (by kernel_rfl) (by kernel_rfl) (by exact fun _ _ _ h => h) (Or.inl ⟨by rfl, ?hmqa2⟩) hS0 ?rmqa2
    case hmqa2 => intro V hSw; clear hSw; go_simp; try with_reducible rfl
    try simp only [Act.put, List.setIfInBounds_toArray, List.set_cons_zero, List.set_cons_succ]
    refine' wpAnyH_take (i := 3) (v := _) (by simp only [List.getElem?_toArray, List.getElem?_cons_succ, List.getElem?_cons_zero]; rfl) (by kernel_rfl) (by kernel_rfl) (by kernel_rfl) (by exact fun _ _ _ h => h) (Or.inl ⟨by rfl, ?hmqa3⟩) hS0 ?rmqa3
    case hmqa3 => intro V hSw; have fq : V.cell? ⟨w.heap.size + 1, 0, none⟩ = some (.slice (some ad) d.length cD) := (BB2.out.below hSw BB2.out.lt).cell 0; clear hSw; go_simp; try with_reducible rfl
    try simp only [Act.put, List.setIfInBounds_toArray, List.set_cons_zero, List.set_cons_succ]
    refine' wpAnyH_take (i := 4) (v := _) (by simp only [List.getElem?_toArray, List.getElem?_cons_succ, List.getElem?_cons_zero]; rfl) (by kernel_rfl) (by kernel_rfl) (by kernel_rfl) (by exact fun _ _ _ h => h) (Or.inl ⟨by rfl, ?hmqa4⟩) hS0 ?rmqa4
    case hmqa4 => intro V hSw; clear hSw; go_simp; try with_reducible rfl
    try simp only [Act.put, List.setIfInBounds_toArray, List.set_cons_zero, List.set_cons_succ]
    refine' wpAnyH_take (i := 5) (v := _) (by simp only [List.getElem?_toArray, List.getElem?_cons_succ, List.getElem?_cons_zero]; rfl) (by kernel_rfl) (by kernel_rfl) (by kernel_rfl) (by exact fun _ _ _ h => h) (Or.inl ⟨by rfl, ?hmqa5⟩) hS0 ?rmqa5
    case hmqa5 => intro V hSw; clear hSw; go_simp; try with_reducible rfl
    try simp only [Act.put, List.setIfInBounds_toArray, List.set_cons_zero, List.set_cons_succ]
    refine' wpAnyH_take (i := 6) (v := _) (by simp only [List.getElem?_toArray, List.getElem?_cons_succ, List.getElem?_cons_zero]; rfl) (by kernel_rfl) (by kernel_rfl) (by kernel_rfl) (by exact fun _ _ _ h => h) (Or.inl ⟨by rfl, ?hmqa6⟩) hS0 ?rmqa6
    case hmqa6 => intro V hSw; clear hSw; go_simp; try with_reducible rfl
    try simp only [Act.put, List.setIfInBounds_toArray, List.set_cons_zero, List.set_cons_succ]
    refine wpAnyH_ready (rs := [1]) (by kernel_rfl) (by simp) ?_
    refine' AllReadyH.cons (by simp only [List.getElem?_toArray, List.getElem?_cons_succ, List.getElem?_cons_zero]; rfl) (fun K hK => ?_) AllReadyH.nil
    go_simp
    refine hK.out _ _ hS0 (fun hS1 => ?_)
    clear hK K
    try simp only [Act.put, List.setIfInBounds_toArray, List.set_cons_zero, List.set_cons_succ]
    refine wpAnyH_ready (rs := [7]) (by kernel_rfl) (by simp) ?_
    refine' AllReadyH.cons (by simp only [List.getElem?_toArray, List.getElem?_cons_succ, List.getElem?_cons_zero]; rfl) (fun K hK => ?_) AllReadyH.nil
    obtain ⟨j0, hj1, hj2, hj3, hj4⟩ := info_parts infoE
    refine step_append_any _ rfl (.tmp 89) (.tmp 94) 28 rfl W5.heap.size 68 j0 _ 3 56 Tryz.underlying28 hj1 hj2 hj3 hj4 rfl (by decide) (.slice av k ac) k (vs.take (k * 3)) rfl (by exact HO7.out) w.heap.size A' (d.length - (k + 1)) (cD - (k + 1)) (vs.drop ((k + 1) * 3)) rfl ?eqa1 ?eqa2 ?eqa3 ?eqa4 ?eqa5 ?_
    case eqa1 => exact ((HRP.out.below (HB2.out.trans (HB7.out.mono HB2.out.size))).drew)
    case eqa2 => exact atL_one ecells_one _ HPD.out.2
    case eqa3 => unfold maxLen; omega
    case eqa4 => omega
    case eqa5 => exact hzb
    intro v2 w8 ho2 hg2 hv2
    rw [hm] at ho2
    have HO2 := Lib.hid ho2
    have hS2 : Below W2.heap.size W2 w8 := hS0.grown hg2 (by show W2.heap.size ≤ W7.heap.size; omega) (fun r e => by have := (HO7.out.lt r e).1; omega)
    have BT8 : Hid (Blk w8 W2.heap.size 30 #[.slice av k ac]) := Lib.hid (BT7.out.drew.grown hg2 (fun e => own_blk_ne HO7.out BT7.out (by decide) e.symm))
    obtain ⟨bv, bq, rfl⟩ := own_sl ho2
    have cT8 : w8.cell? ⟨W2.heap.size, 0, none⟩ = some (.slice av k ac) := BT8.out.cell 0
    have cF8 : w8.frozen? ⟨W2.heap.size, 0, none⟩ = false := BT8.out.frozen 0
    have hz8 : W2.heap.size < w8.heap.size := BT8.out.lt
    clear ho2 hg2 hv2 cT7
    refine hK.out _ _ hS2 (fun hS3 => ?_)
    clear hS3 hK K
    try simp only [Act.put, List.setIfInBounds_toArray, List.set_cons_zero, List.set_cons_succ]
    refine' wpAnyH_take (i := 8) (v := _) (by simp only [List.getElem?_toArray, List.getElem?_cons_succ, List.getElem?_cons_zero]; rfl) (by kernel_rfl) (by kernel_rfl) (by kernel_rfl) (by exact fun _ _ _ h => h) (Or.inl ⟨by rfl, ?hmqax8⟩) hS2 ?rmqax8
    case hmqax8 => intro V hSw; clear hSw; go_simp; try with_reducible rfl
    try simp only [Act.put, List.setIfInBounds_toArray, List.set_cons_zero, List.set_cons_succ]
    refine wpAnyH_ready (rs := [9]) (by kernel_rfl) (by simp) ?_
    refine' AllReadyH.cons (by simp only [List.getElem?_toArray, List.getElem?_cons_succ, List.getElem?_cons_zero]; rfl) (fun K hK => ?_) AllReadyH.nil
    go_simp
    refine hK.out _ _ (hS2.setCell (Nat.le_refl W2.heap.size) _) (fun hS3 => ?_)
    try simp only [Act.put, List.setIfInBounds_toArray, List.set_cons_zero, List.set_cons_succ]
    refine wpAnyH_done (by kernel_rfl) ?_ _
    clear hK K hS1 hS2 hS0 cT8 cF8
    have BT9 : Hid (Blk (w8.setCell ⟨W2.heap.size, 0, none⟩ (.slice bv m bq)) W2.heap.size 30 #[.slice bv m bq]) := Lib.hid (BT8.out.set_ 0 _)
    have HB9 : Hid (Below W2.heap.size W2 (w8.setCell ⟨W2.heap.size, 0, none⟩ (.slice bv m bq))) := Lib.hid hS3
    have HO9 : Hid ((w8.setCell ⟨W2.heap.size, 0, none⟩ (.slice bv m bq)).ownsRow W5.heap.size 68 3 (.slice bv m bq) m (vs.take (k * 3) ++ vs.drop ((k + 1) * 3))) := Lib.hid (HO2.out.kept (only_setCell (World.grownBy.refl w8 _) (.inl rfl) _) (.inr (own_blk_ne HO2.out BT8.out (by decide))))
    clear hS3 BT8 HO2 BT7 HO7 hz7 hz8 hzb
    generalize w8.setCell ⟨W2.heap.size, 0, none⟩ (.slice bv m bq) = W9 at *
    have hz9 : W2.heap.size < W9.heap.size := BT9.out.lt
    obtain ⟨d', hd'⟩ : ∃ d', d.take k ++ d.drop (k + 1) = d' := ⟨_, rfl⟩
    have hdl : d'.length = m := by rw [← hd', List.length_append, List.length_drop, List.length_take]; omega
    have hdm : ∀ e ∈ d', e ∈ d := fun e he => by
      rw [← hd'] at he
      rcases List.mem_append.1 he with h | h
      · exact List.mem_of_mem_take h
      · exact List.mem_of_mem_drop h
    have HBW := Lib.hid (HB2.out.trans (HB9.out.mono HB2.out.size))
    have HAT : Hid (T.At bare W9 (fun g => g < W9.heap.size) (entriesT d') (.slice bv m bq)) := Lib.hid (by
      refine own_atS (xs := d') ecells_len (by rw [hdl]; exact HO9.out) ?_ (fun g hg => (HO9.out.lt g hg).2)
      rw [← hd', List.flatMap_append]
      exact AtL.below (AtL.append HP.out.1 HPD.out.2) HBW.out (fun g hg => Nat.lt_of_lt_of_le hg HBW.out.size))
    have HCE : Hid (cellsF decO runO l d' = .ok (cs.take k ++ cs.drop (k + 1))) := Lib.hid (by rw [← hd']; exact cellsF_less k HR.out)
    have HAT9 := HAT
    have HDL : Hid (d'.length ≤ d.length) := Lib.hid (by omega)
    have HDM := Lib.hid hdm
    have q1 : W9.cell? ⟨w.heap.size, 0, none⟩ = some (.slice A l.length cA) := (BA2.out.below HB9.out BA2.out.lt).cell 0
    have q2 : W9.cell? ⟨W2.heap.size, 0, none⟩ = some (.slice bv m bq) := BT9.out.cell 0
    have hcl := HCL.out
    obtain ⟨Ca, cca, us, hce, hcc, hcm, hcr, hca⟩ := At.reads HVC.out
    injection hce with hce1 _ hce3
    subst hce1 hce3
    have HCR := Lib.hid hcr; have HCA := Lib.hid (atL_parts ccells_len hca (k := k) (by omega)); have HCD := Lib.hid (atL_parts ccells_len hca (k := k + 1) (by omega))
    have hccz : ¬ cc = 0 := by omega
    have hkc3 : (k : Int) ≤ (cc : Int) := by omega
    have hkc4 : (k : Int) ≤ (cs.length : Int) := by omega
    have hkc5 : (k : Int) + 1 ≤ (cc : Int) := by omega
    have hkc6 : (k : Int) + 1 ≤ (cs.length : Int) := by omega
    have hkc7 : k + 1 ≤ cs.length := by omega
    have hkc8 : k + 1 ≤ cc := by omega
    have hln : (cs.take k ++ cs.drop (k + 1)).length = m := by rw [List.length_append, List.length_drop, List.length_take]; omega
    have hmc : k + (cs.length - (k + 1)) = m := by omega
    obtain ⟨cad, hCe, hcadb, _⟩ := hcr.2 (by omega)
    subst hCe
    obtain ⟨C', hC'⟩ : ∃ C', (if cc = k + 1 then some cad else some (cad.add ((k + 1) * 3))) = C' := ⟨_, rfl⟩
    have HCP : Hid (Reads W2 W2.heap.size 3 C' (cs.length - (k + 1)) (us.drop ((k + 1) * 3))) := Lib.hid (by
      have := Reads.cut HCR.out (k := k + 1) (by omega) hcc
      rw [← hC']; exact this)
    have HCQ : Hid (Reads W2 W2.heap.size 3 (some cad) k (us.take (k * 3))) := Lib.hid (reads_part HCR.out (by omega))
    have HOM : Hid (∀ c ∈ cs.take k ++ cs.drop (k + 1), COk c) := Lib.hid (fun c hc => HOC.out c (by
      rcases List.mem_append.1 hc with h | h
      · exact List.mem_of_mem_take h
      · exact List.mem_of_mem_drop h))
    have HLN := Lib.hid hln
    have HMC := Lib.hid hmc
    obtain ⟨j0, hj1, hj2, hj3, hj4⟩ := info_parts infoC
    clear hdl hdm HAT HO9 hd' hcr hca hcl hln hmc hm
    go_wp2_with (at_builtin; refine wpList_append_any _ rfl (.tmp 97) (.tmp 100) 25 rfl W9.heap.size 57 j0 _ 3 48 Tryz.underlying25 hj1 hj2 hj3 hj4 rfl (by decide) _ 0 [] rfl (World.ownsRow_nil _ _ _ _) W2.heap.size (some cad) k cc (us.take (k * 3)) rfl ?fa1 ?fa2 ?fa3 ?fa4 (Nat.le_refl _) ?_)
    case fa1 => exact HCQ.out.below HB9.out
    case fa2 => exact atL_one ccells_one _ HCA.out.1
    case fa3 => unfold maxLen; omega
    case fa4 => omega
    intro w1v w11 hp1 hg1 _
    replace hp1 : w11.ownsRow W9.heap.size 57 3 w1v k (us.take (k * 3)) := by simpa using hp1
    have HB11 : Hid (Below W9.heap.size W9 w11) := Lib.hid ((Below.refl _ W9).grown hg1 (Nat.le_refl _) (fun r e => by simp [Value.ownBlock] at e))
    obtain ⟨ev, ec, rfl⟩ := own_sl hp1
    have hz11 := HB11.out.size
    clear hg1
    go_wp2_with (at_builtin; refine wpList_append_any _ rfl (.tmp 102) (.tmp 106) 25 rfl W9.heap.size 57 j0 _ 3 48 Tryz.underlying25 hj1 hj2 hj3 hj4 rfl (by decide) _ k (us.take (k * 3)) rfl hp1 W2.heap.size C' (cs.length - (k + 1)) (cc - (k + 1)) (us.drop ((k + 1) * 3)) rfl ?ga1 ?ga2 ?ga3 ?ga4 ?ga5 ?_)
    case ga1 => exact HCP.out.below (HB9.out.trans (HB11.out.mono (by omega)))
    case ga2 => exact atL_one ccells_one _ HCD.out.2
    case ga3 => unfold maxLen; omega
    case ga4 => omega
    case ga5 => omega
    intro w2v w12 hp2 hg2 _
    rw [HMC.out] at hp2
    have HB12 : Hid (Below W9.heap.size W9 w12) := Lib.hid (HB11.out.grown hg2 hz11 (fun r e => (hp1.lt r e).1))
    obtain ⟨fv, fc, rfl⟩ := own_sl hp2
    have HO12 := Lib.hid hp2
    have HQ12 := Lib.hid HB12.out.size
    have x0 : w12.cell? ⟨w.heap.size, 0, none⟩ = some (.slice A l.length cA) := (BA2.out.below (HB9.out.trans (HB12.out.mono (by omega))) BA2.out.lt).cell 0
    have x1 : w12.cell? ⟨W2.heap.size, 0, none⟩ = some (.slice bv m bq) := (BT9.out.below HB12.out hz9).cell 0
    have HQ' := Lib.hid (HC2.out d' (.slice bv m bq) w12 (by have := HDL.out; omega) (fun e he => HOKE.out e (HDM.out e he)) (fun e he => HES.out e (HDM.out e he)) (At.below (S' := fun g => g < w12.heap.size) HAT9.out HB12.out (fun g hg => Nat.lt_of_lt_of_le hg HB12.out.size)) (HBW.out.trans (HB12.out.mono HBW.out.size)))
    rw [HCE.out] at HQ'
    clear hp1 hp2 hg2
    go_wp2_with fail
    refine HQ'.out.mono ?_
    rintro e W13 ⟨b13, vy, rfl, gy⟩
    obtain ⟨Ya, yc, rfl, _, _⟩ := at_slice gy
    have HB13 := Lib.hid (HB12.out.trans (b13.mono (by have := HQ12.out; omega)))
    have HWT : Hid (Calls Tryz.prog 22 #[.slice Ya m yc, .slice fv m fc] W13 (AnsB true W13)) := Lib.hid (by
      have hy : T.At bare W13 (fun g => g < W13.heap.size) (cellsT (cs.take k ++ cs.drop (k + 1))) (.slice Ya m yc) := by
        have := At.keep (S' := fun g => g < W13.heap.size) (fun _ _ => rfl) (fun g h => h.2.lt) gy
        rwa [HLN.out] at this
      have hwant : T.At bare w12 (fun g => g < w12.heap.size) (cellsT (cs.take k ++ cs.drop (k + 1))) (.slice fv m fc) := by
        refine own_atS (xs := cs.take k ++ cs.drop (k + 1)) ccells_len (by rw [HLN.out]; exact HO12.out) ?_ (fun g hg => (HO12.out.lt g hg).2)
        rw [List.flatMap_append]
        have hq := HB9.out.trans (HB12.out.mono (by omega))
        exact AtL.below (AtL.append HCA.out.1 HCD.out.2) hq (fun g hg => Nat.lt_of_lt_of_le hg hq.size)
      exact kitCells_any _ _ (cs.take k ++ cs.drop (k + 1)) (cs.take k ++ cs.drop (k + 1)) W13 hy (At.below hwant b13 (fun g hg => Nat.lt_of_lt_of_le hg b13.size)) (by have := HLN.out; omega) (by have := HLN.out; omega) HOM.out HOM.out true (by simp))
    rw [HLN.out]
    clear b13 gy x0 x1 HQ'
    go_wp2_with fail
    refine HWT.out.mono ?_
    rintro e W14 ⟨rfl, b14⟩
    have HB14 := Lib.hid (HB13.out.trans (b14.mono HB13.out.size))
    clear b14
    go_wp2_with fail
    go_ret
    exact ⟨rfl, HB2.out.trans ((HB9.out.trans (HB14.out.mono (by omega))).mono HB2.out.size)⟩
  · obtain ⟨k, hk⟩ : ∃ k : Nat, turn.tmod d.length + (d.length : Int) = (k : Int) := ⟨(turn.tmod d.length + (d.length : Int)).toNat, by omega⟩
    have hsn : decide (turn.tmod d.length < 0) = true := decide_eq_true hs
    have hwr : wrap64 (turn.tmod d.length + (d.length : Int)) = (k : Int) := by rw [← hk]; unfold wrap64; omega
    have hkl : k < d.length := by omega
    clear hs
    have hkc : (k : Int) ≤ (cD : Int) := by omega
    have hkd : (k : Int) ≤ (d.length : Int) := by omega
    have hk1 : (k : Int) + 1 ≤ (cD : Int) := by omega
    have hk2 : (k : Int) + 1 ≤ (d.length : Int) := by omega
    have hk0 : (0 : Int) ≤ (k : Int) := by omega
    have hk3 : (0 : Int) ≤ (k : Int) + 1 := by omega
    have hk4 : k + 1 ≤ d.length := by omega
    have hk5 : k + 1 ≤ cD := by omega
    have hk6 : ((k : Int) + 1).toNat = k + 1 := by omega
    have hk7 : ¬ ((k : Int) + 1 < 0) := by omega
    have hkz : ¬ cD = 0 := by omega
    have hwk : IntKind.i64.wrap ((k : Int) + 1) = (k : Int) + 1 := IntWalk.i64_in _ (by omega)
    obtain ⟨ad, hDe, hadb, hcells⟩ := HRX.out.2 hdp
    subst hDe
    obtain ⟨A', hA'⟩ : ∃ A', (if cD = k + 1 then some ad else some (ad.add ((k + 1) * 3))) = A' := ⟨_, rfl⟩
    go_upto_region 17 with fail
    have hb5 : Below W2.heap.size W2 (W2.alloc (.cells #[.slice none 0 0] 30)) := (Below.refl _ _).alloc (Nat.le_refl _) _
    have BT5 := Lib.hid (Blk.new W2 30 #[.slice none 0 0])
    generalize W2.alloc (.cells #[.slice none 0 0] 30) = W5 at *
    have HB5 := Lib.hid hb5
    have hz5 : W2.heap.size < W5.heap.size := BT5.out.lt
    have cT : W5.cell? ⟨W2.heap.size, 0, none⟩ = some (.slice none 0 0) := BT5.out.cell 0
    have HRP : Hid (Reads w w.heap.size 3 A' (d.length - (k + 1)) (vs.drop ((k + 1) * 3))) := Lib.hid (by
      have := Reads.cut HRX.out (k := k + 1) (by omega) hcD
      rw [← hA']; exact this)
    have HRQ : Hid (Reads w w.heap.size 3 (some ad) k (vs.take (k * 3))) := Lib.hid (reads_part HRX.out (by omega))
    have HP := Lib.hid (atL_parts ecells_len HAX.out (k := k) (by omega)); have HPD := Lib.hid (atL_parts ecells_len HAX.out (k := k + 1) (by omega))
    clear hb5 hcells y0 y1
    refine wp_region_held_drew (S := fun V => Below W2.heap.size W2 V) (by kernel_rfl) (HB5.out).drew (fun hS0 => ?_)
    refine' wpAnyH_take (i := 0) (v := _) (by simp only [List.getElem?_toArray, List.getElem?_cons_zero]; rfl) (by kernel_rfl) (by kernel_rfl) (by kernel_rfl) (by exact fun _ _ _ h => h) (Or.inl ⟨by rfl, ?hmpb0⟩) hS0 ?rmpb0
    case hmpb0 => intro V hSw; clear hSw; go_simp; try with_reducible rfl
    try simp only [Act.put, List.setIfInBounds_toArray, List.set_cons_zero, List.set_cons_succ]
    refine' wpAnyH_take (i := 2) (v := _) (by simp only [List.getElem?_toArray, List.getElem?_cons_succ, List.getElem?_cons_zero]; rfl) (by kernel_rfl) (by kernel_rfl) (by kernel_rfl) (by exact fun _ _ _ h => h) (Or.inl ⟨by rfl, ?hmpb2⟩) hS0 ?rmpb2
    case hmpb2 => intro V hSw; clear hSw; go_simp; try with_reducible rfl
    try simp only [Act.put, List.setIfInBounds_toArray, List.set_cons_zero, List.set_cons_succ]
    refine' wpAnyH_take (i := 3) (v := _) (by simp only [List.getElem?_toArray, List.getElem?_cons_succ, List.getElem?_cons_zero]; rfl) (by kernel_rfl) (by kernel_rfl) (by kernel_rfl) (by exact fun _ _ _ h => h) (Or.inl ⟨by rfl, ?hmpb3⟩) hS0 ?rmpb3
    case hmpb3 => intro V hSw; have fq : V.cell? ⟨w.heap.size + 1, 0, none⟩ = some (.slice (some ad) d.length cD) := (BB2.out.below hSw BB2.out.lt).cell 0; clear hSw; go_simp; try with_reducible rfl
    try simp only [Act.put, List.setIfInBounds_toArray, List.set_cons_zero, List.set_cons_succ]
    refine' wpAnyH_take (i := 4) (v := _) (by simp only [List.getElem?_toArray, List.getElem?_cons_succ, List.getElem?_cons_zero]; rfl) (by kernel_rfl) (by kernel_rfl) (by kernel_rfl) (by exact fun _ _ _ h => h) (Or.inl ⟨by rfl, ?hmpb4⟩) hS0 ?rmpb4
    case hmpb4 => intro V hSw; clear hSw; go_simp; try with_reducible rfl
    try simp only [Act.put, List.setIfInBounds_toArray, List.set_cons_zero, List.set_cons_succ]
    refine' wpAnyH_take (i := 5) (v := _) (by simp only [List.getElem?_toArray, List.getElem?_cons_succ, List.getElem?_cons_zero]; rfl) (by kernel_rfl) (by kernel_rfl) (by kernel_rfl) (by exact fun _ _ _ h => h) (Or.inl ⟨by rfl, ?hmpb5⟩) hS0 ?rmpb5
    case hmpb5 => intro V hSw; clear hSw; go_simp; try with_reducible rfl
    try simp only [Act.put, List.setIfInBounds_toArray, List.set_cons_zero, List.set_cons_succ]
    refine wpAnyH_ready (rs := [1]) (by kernel_rfl) (by simp) ?_
    refine' AllReadyH.cons (by simp only [List.getElem?_toArray, List.getElem?_cons_succ, List.getElem?_cons_zero]; rfl) (fun K hK => ?_) AllReadyH.nil
    go_simp
    refine hK.out _ _ hS0 (fun hS1 => ?_)
    clear hK K
    try simp only [Act.put, List.setIfInBounds_toArray, List.set_cons_zero, List.set_cons_succ]
    refine wpAnyH_ready (rs := [6]) (by kernel_rfl) (by simp) ?_
    refine' AllReadyH.cons (by simp only [List.getElem?_toArray, List.getElem?_cons_succ, List.getElem?_cons_zero]; rfl) (fun K hK => ?_) AllReadyH.nil
    obtain ⟨j0, hj1, hj2, hj3, hj4⟩ := info_parts infoE
    refine step_append_any _ rfl (.tmp 81) (.tmp 85) 28 rfl W5.heap.size 68 j0 _ 3 56 Tryz.underlying28 hj1 hj2 hj3 hj4 rfl (by decide) (.slice none 0 0) 0 [] rfl (World.ownsRow_nil _ _ _ _) w.heap.size (some ad) k cD (vs.take (k * 3)) rfl ?epb1 ?epb2 ?epb3 ?epb4 ?epb5 ?_
    case epb1 => exact ((HRQ.out.below (HB2.out.trans (HB5.out.mono HB2.out.size))).drew)
    case epb2 => exact atL_one ecells_one _ HP.out.1
    case epb3 => unfold maxLen; omega
    case epb4 => omega
    case epb5 => exact Nat.le_refl _
    intro v1 w6 ho1 hg1 _
    replace ho1 : w6.ownsRow W5.heap.size 68 3 v1 k (vs.take (k * 3)) := by simpa using ho1
    have HO1 := Lib.hid ho1
    have hS2 : Below W2.heap.size W2 w6 := hS0.grown hg1 (by show W2.heap.size ≤ W5.heap.size; omega) (fun r e => by simp [Value.ownBlock] at e)
    have HB6 : Hid (Below W5.heap.size W5 w6) := Lib.hid ((Below.refl _ W5).drew.grown hg1 (Nat.le_refl _) (fun r e => by simp [Value.ownBlock] at e))
    have BT6 := Lib.hid (BT5.out.below HB6.out hz5)
    obtain ⟨av, ac, rfl⟩ := own_sl ho1
    have cT6 : w6.cell? ⟨W2.heap.size, 0, none⟩ = some (.slice none 0 0) := BT6.out.cell 0
    have cF6 : w6.frozen? ⟨W2.heap.size, 0, none⟩ = false := BT6.out.frozen 0
    have hz6 : W2.heap.size < w6.heap.size := BT6.out.lt
    clear ho1 hg1 cT
    refine hK.out _ _ hS2 (fun hS3 => ?_)
    clear hS3 hK K
    try simp only [Act.put, List.setIfInBounds_toArray, List.set_cons_zero, List.set_cons_succ]
    refine' wpAnyH_take (i := 7) (v := _) (by simp only [List.getElem?_toArray, List.getElem?_cons_succ, List.getElem?_cons_zero]; rfl) (by kernel_rfl) (by kernel_rfl) (by kernel_rfl) (by exact fun _ _ _ h => h) (Or.inl ⟨by rfl, ?hmpbx7⟩) hS2 ?rmpbx7
    case hmpbx7 => intro V hSw; clear hSw; go_simp; try with_reducible rfl
    try simp only [Act.put, List.setIfInBounds_toArray, List.set_cons_zero, List.set_cons_succ]
    refine wpAnyH_ready (rs := [8]) (by kernel_rfl) (by simp) ?_
    refine' AllReadyH.cons (by simp only [List.getElem?_toArray, List.getElem?_cons_succ, List.getElem?_cons_zero]; rfl) (fun K hK => ?_) AllReadyH.nil
    go_simp
    refine hK.out _ _ (hS2.setCell (Nat.le_refl W2.heap.size) _) (fun hS3 => ?_)
    try simp only [Act.put, List.setIfInBounds_toArray, List.set_cons_zero, List.set_cons_succ]
    refine wpAnyH_done (by kernel_rfl) ?_ _
    clear hK K hS1 hS2 hS0 cT6 cF6
    have BT7 : Hid (Blk (w6.setCell ⟨W2.heap.size, 0, none⟩ (.slice av k ac)) W2.heap.size 30 #[.slice av k ac]) := Lib.hid (BT6.out.set_ 0 _)
    have HB7 : Hid (Below W2.heap.size W2 (w6.setCell ⟨W2.heap.size, 0, none⟩ (.slice av k ac))) := Lib.hid hS3
    have HO7 : Hid ((w6.setCell ⟨W2.heap.size, 0, none⟩ (.slice av k ac)).ownsRow W5.heap.size 68 3 (.slice av k ac) k (vs.take (k * 3))) := Lib.hid (HO1.out.kept (only_setCell (World.grownBy.refl w6 _) (.inl rfl) _) (.inr (own_blk_ne HO1.out BT6.out (by decide))))
    have hzb : W5.heap.size ≤ (w6.setCell ⟨W2.heap.size, 0, none⟩ (.slice av k ac)).heap.size := by simpa [World.setCell] using HB6.out.size
    clear hS3
    generalize w6.setCell ⟨W2.heap.size, 0, none⟩ (.slice av k ac) = W7 at *
    have hz7 : W2.heap.size < W7.heap.size := BT7.out.lt
    have cT7 : W7.cell? ⟨W2.heap.size, 0, none⟩ = some (.slice av k ac) := BT7.out.cell 0
    obtain ⟨m, hm⟩ : ∃ m, k + (d.length - (k + 1)) = m := ⟨_, rfl⟩
    have hmd : m ≤ d.length := by omega
    clear BT6 HO1 HB6 BT5
    go_upto_region 18 with fail
    refine wp_region_held_drew (S := fun V => Below W2.heap.size W2 V) (by kernel_rfl) (HB7.out).drew (fun hS0 => ?_)
    refine' wpAnyH_take (i := 0) (v := _) (by simp only [List.getElem?_toArray, List.getElem?_cons_zero]; rfl) (by kernel_rfl) (by kernel_rfl) (by kernel_rfl) (by exact fun _ _ _ h => h) (Or.inl ⟨by rfl, ?hmqb0⟩) hS0 ?rmqb0
    case hmqb0 => intro V hSw; clear hSw; go_simp; try with_reducible rfl
    try simp only [Act.put, List.setIfInBounds_toArray, List.set_cons_zero, List.set_cons_succ]
    refine' wpAnyH_take (i := 2) (v := _) (by simp only [List.getElem?_toArray, List.getElem?_cons_succ, List.getElem?_cons_zero]; rfl) (by kernel_rfl) (by kernel_rfl) (by kernel_rfl) (by exact fun _ _ _ h => h) (Or.inl ⟨by rfl, ?hmqb2⟩) hS0 ?rmqb2
    case hmqb2 => intro V hSw; clear hSw; go_simp; try with_reducible rfl
    try simp only [Act.put, List.setIfInBounds_toArray, List.set_cons_zero, List.set_cons_succ]
    refine' wpAnyH_take (i := 3) (v := _) (by simp only [List.getElem?_toArray, List.getElem?_cons_succ, List.getElem?_cons_zero]; rfl) (by kernel_rfl) (by kernel_rfl) (by kernel_rfl) (by exact fun _ _ _ h => h) (Or.inl ⟨by rfl, ?hmqb3⟩) hS0 ?rmqb3
    case hmqb3 => intro V hSw; have fq : V.cell? ⟨w.heap.size + 1, 0, none⟩ = some (.slice (some ad) d.length cD) := (BB2.out.below hSw BB2.out.lt).cell 0; clear hSw; go_simp; try with_reducible rfl
    try simp only [Act.put, List.setIfInBounds_toArray, List.set_cons_zero, List.set_cons_succ]
    refine' wpAnyH_take (i := 4) (v := _) (by simp only [List.getElem?_toArray, List.getElem?_cons_succ, List.getElem?_cons_zero]; rfl) (by kernel_rfl) (by kernel_rfl) (by kernel_rfl) (by exact fun _ _ _ h => h) (Or.inl ⟨by rfl, ?hmqb4⟩) hS0 ?rmqb4
    case hmqb4 => intro V hSw; clear hSw; go_simp; try with_reducible rfl
    try simp only [Act.put, List.setIfInBounds_toArray, List.set_cons_zero, List.set_cons_succ]
    refine' wpAnyH_take (i := 5) (v := _) (by simp only [List.getElem?_toArray, List.getElem?_cons_succ, List.getElem?_cons_zero]; rfl) (by kernel_rfl) (by kernel_rfl) (by kernel_rfl) (by exact fun _ _ _ h => h) (Or.inl ⟨by rfl, ?hmqb5⟩) hS0 ?rmqb5
    case hmqb5 => intro V hSw; clear hSw; go_simp; try with_reducible rfl
    try simp only [Act.put, List.setIfInBounds_toArray, List.set_cons_zero, List.set_cons_succ]
    refine' wpAnyH_take (i := 6) (v := _) (by simp only [List.getElem?_toArray, List.getElem?_cons_succ, List.getElem?_cons_zero]; rfl) (by kernel_rfl) (by kernel_rfl) (by kernel_rfl) (by exact fun _ _ _ h => h) (Or.inl ⟨by rfl, ?hmqb6⟩) hS0 ?rmqb6
    case hmqb6 => intro V hSw; clear hSw; go_simp; try with_reducible rfl
    try simp only [Act.put, List.setIfInBounds_toArray, List.set_cons_zero, List.set_cons_succ]
    refine wpAnyH_ready (rs := [1]) (by kernel_rfl) (by simp) ?_
    refine' AllReadyH.cons (by simp only [List.getElem?_toArray, List.getElem?_cons_succ, List.getElem?_cons_zero]; rfl) (fun K hK => ?_) AllReadyH.nil
    go_simp
    refine hK.out _ _ hS0 (fun hS1 => ?_)
    clear hK K
    try simp only [Act.put, List.setIfInBounds_toArray, List.set_cons_zero, List.set_cons_succ]
    refine wpAnyH_ready (rs := [7]) (by kernel_rfl) (by simp) ?_
    refine' AllReadyH.cons (by simp only [List.getElem?_toArray, List.getElem?_cons_succ, List.getElem?_cons_zero]; rfl) (fun K hK => ?_) AllReadyH.nil
    obtain ⟨j0, hj1, hj2, hj3, hj4⟩ := info_parts infoE
    refine step_append_any _ rfl (.tmp 89) (.tmp 94) 28 rfl W5.heap.size 68 j0 _ 3 56 Tryz.underlying28 hj1 hj2 hj3 hj4 rfl (by decide) (.slice av k ac) k (vs.take (k * 3)) rfl (by exact HO7.out) w.heap.size A' (d.length - (k + 1)) (cD - (k + 1)) (vs.drop ((k + 1) * 3)) rfl ?eqb1 ?eqb2 ?eqb3 ?eqb4 ?eqb5 ?_
    case eqb1 => exact ((HRP.out.below (HB2.out.trans (HB7.out.mono HB2.out.size))).drew)
    case eqb2 => exact atL_one ecells_one _ HPD.out.2
    case eqb3 => unfold maxLen; omega
    case eqb4 => omega
    case eqb5 => exact hzb
    intro v2 w8 ho2 hg2 hv2
    rw [hm] at ho2
    have HO2 := Lib.hid ho2
    have hS2 : Below W2.heap.size W2 w8 := hS0.grown hg2 (by show W2.heap.size ≤ W7.heap.size; omega) (fun r e => by have := (HO7.out.lt r e).1; omega)
    have BT8 : Hid (Blk w8 W2.heap.size 30 #[.slice av k ac]) := Lib.hid (BT7.out.drew.grown hg2 (fun e => own_blk_ne HO7.out BT7.out (by decide) e.symm))
    obtain ⟨bv, bq, rfl⟩ := own_sl ho2
    have cT8 : w8.cell? ⟨W2.heap.size, 0, none⟩ = some (.slice av k ac) := BT8.out.cell 0
    have cF8 : w8.frozen? ⟨W2.heap.size, 0, none⟩ = false := BT8.out.frozen 0
    have hz8 : W2.heap.size < w8.heap.size := BT8.out.lt
    clear ho2 hg2 hv2 cT7
    refine hK.out _ _ hS2 (fun hS3 => ?_)
    clear hS3 hK K
    try simp only [Act.put, List.setIfInBounds_toArray, List.set_cons_zero, List.set_cons_succ]
    refine' wpAnyH_take (i := 8) (v := _) (by simp only [List.getElem?_toArray, List.getElem?_cons_succ, List.getElem?_cons_zero]; rfl) (by kernel_rfl) (by kernel_rfl) (by kernel_rfl) (by exact fun _ _ _ h => h) (Or.inl ⟨by rfl, ?hmqbx8⟩) hS2 ?rmqbx8
    case hmqbx8 => intro V hSw; clear hSw; go_simp; try with_reducible rfl
    try simp only [Act.put, List.setIfInBounds_toArray, List.set_cons_zero, List.set_cons_succ]
    refine wpAnyH_ready (rs := [9]) (by kernel_rfl) (by simp) ?_
    refine' AllReadyH.cons (by simp only [List.getElem?_toArray, List.getElem?_cons_succ, List.getElem?_cons_zero]; rfl) (fun K hK => ?_) AllReadyH.nil
    go_simp
    refine hK.out _ _ (hS2.setCell (Nat.le_refl W2.heap.size) _) (fun hS3 => ?_)
    try simp only [Act.put, List.setIfInBounds_toArray, List.set_cons_zero, List.set_cons_succ]
    refine wpAnyH_done (by kernel_rfl) ?_ _
    clear hK K hS1 hS2 hS0 cT8 cF8
    have BT9 : Hid (Blk (w8.setCell ⟨W2.heap.size, 0, none⟩ (.slice bv m bq)) W2.heap.size 30 #[.slice bv m bq]) := Lib.hid (BT8.out.set_ 0 _)
    have HB9 : Hid (Below W2.heap.size W2 (w8.setCell ⟨W2.heap.size, 0, none⟩ (.slice bv m bq))) := Lib.hid hS3
    have HO9 : Hid ((w8.setCell ⟨W2.heap.size, 0, none⟩ (.slice bv m bq)).ownsRow W5.heap.size 68 3 (.slice bv m bq) m (vs.take (k * 3) ++ vs.drop ((k + 1) * 3))) := Lib.hid (HO2.out.kept (only_setCell (World.grownBy.refl w8 _) (.inl rfl) _) (.inr (own_blk_ne HO2.out BT8.out (by decide))))
    clear hS3 BT8 HO2 BT7 HO7 hz7 hz8 hzb
    generalize w8.setCell ⟨W2.heap.size, 0, none⟩ (.slice bv m bq) = W9 at *
    have hz9 : W2.heap.size < W9.heap.size := BT9.out.lt
    obtain ⟨d', hd'⟩ : ∃ d', d.take k ++ d.drop (k + 1) = d' := ⟨_, rfl⟩
    have hdl : d'.length = m := by rw [← hd', List.length_append, List.length_drop, List.length_take]; omega
    have hdm : ∀ e ∈ d', e ∈ d := fun e he => by
      rw [← hd'] at he
      rcases List.mem_append.1 he with h | h
      · exact List.mem_of_mem_take h
      · exact List.mem_of_mem_drop h
    have HBW := Lib.hid (HB2.out.trans (HB9.out.mono HB2.out.size))
    have HAT : Hid (T.At bare W9 (fun g => g < W9.heap.size) (entriesT d') (.slice bv m bq)) := Lib.hid (by
      refine own_atS (xs := d') ecells_len (by rw [hdl]; exact HO9.out) ?_ (fun g hg => (HO9.out.lt g hg).2)
      rw [← hd', List.flatMap_append]
      exact AtL.below (AtL.append HP.out.1 HPD.out.2) HBW.out (fun g hg => Nat.lt_of_lt_of_le hg HBW.out.size))
    have HCE : Hid (cellsF decO runO l d' = .ok (cs.take k ++ cs.drop (k + 1))) := Lib.hid (by rw [← hd']; exact cellsF_less k HR.out)
    have HAT9 := HAT
    have HDL : Hid (d'.length ≤ d.length) := Lib.hid (by omega)
    have HDM := Lib.hid hdm
    have q1 : W9.cell? ⟨w.heap.size, 0, none⟩ = some (.slice A l.length cA) := (BA2.out.below HB9.out BA2.out.lt).cell 0
    have q2 : W9.cell? ⟨W2.heap.size, 0, none⟩ = some (.slice bv m bq) := BT9.out.cell 0
    have hcl := HCL.out
    obtain ⟨Ca, cca, us, hce, hcc, hcm, hcr, hca⟩ := At.reads HVC.out
    injection hce with hce1 _ hce3
    subst hce1 hce3
    have HCR := Lib.hid hcr; have HCA := Lib.hid (atL_parts ccells_len hca (k := k) (by omega)); have HCD := Lib.hid (atL_parts ccells_len hca (k := k + 1) (by omega))
    have hccz : ¬ cc = 0 := by omega
    have hkc3 : (k : Int) ≤ (cc : Int) := by omega
    have hkc4 : (k : Int) ≤ (cs.length : Int) := by omega
    have hkc5 : (k : Int) + 1 ≤ (cc : Int) := by omega
    have hkc6 : (k : Int) + 1 ≤ (cs.length : Int) := by omega
    have hkc7 : k + 1 ≤ cs.length := by omega
    have hkc8 : k + 1 ≤ cc := by omega
    have hln : (cs.take k ++ cs.drop (k + 1)).length = m := by rw [List.length_append, List.length_drop, List.length_take]; omega
    have hmc : k + (cs.length - (k + 1)) = m := by omega
    obtain ⟨cad, hCe, hcadb, _⟩ := hcr.2 (by omega)
    subst hCe
    obtain ⟨C', hC'⟩ : ∃ C', (if cc = k + 1 then some cad else some (cad.add ((k + 1) * 3))) = C' := ⟨_, rfl⟩
    have HCP : Hid (Reads W2 W2.heap.size 3 C' (cs.length - (k + 1)) (us.drop ((k + 1) * 3))) := Lib.hid (by
      have := Reads.cut HCR.out (k := k + 1) (by omega) hcc
      rw [← hC']; exact this)
    have HCQ : Hid (Reads W2 W2.heap.size 3 (some cad) k (us.take (k * 3))) := Lib.hid (reads_part HCR.out (by omega))
    have HOM : Hid (∀ c ∈ cs.take k ++ cs.drop (k + 1), COk c) := Lib.hid (fun c hc => HOC.out c (by
      rcases List.mem_append.1 hc with h | h
      · exact List.mem_of_mem_take h
      · exact List.mem_of_mem_drop h))
    have HLN := Lib.hid hln
    have HMC := Lib.hid hmc
    obtain ⟨j0, hj1, hj2, hj3, hj4⟩ := info_parts infoC
    clear hdl hdm HAT HO9 hd' hcr hca hcl hln hmc hm
    go_wp2_with (at_builtin; refine wpList_append_any _ rfl (.tmp 97) (.tmp 100) 25 rfl W9.heap.size 57 j0 _ 3 48 Tryz.underlying25 hj1 hj2 hj3 hj4 rfl (by decide) _ 0 [] rfl (World.ownsRow_nil _ _ _ _) W2.heap.size (some cad) k cc (us.take (k * 3)) rfl ?fb1 ?fb2 ?fb3 ?fb4 (Nat.le_refl _) ?_)
    case fb1 => exact HCQ.out.below HB9.out
    case fb2 => exact atL_one ccells_one _ HCA.out.1
    case fb3 => unfold maxLen; omega
    case fb4 => omega
    intro w1v w11 hp1 hg1 _
    replace hp1 : w11.ownsRow W9.heap.size 57 3 w1v k (us.take (k * 3)) := by simpa using hp1
    have HB11 : Hid (Below W9.heap.size W9 w11) := Lib.hid ((Below.refl _ W9).grown hg1 (Nat.le_refl _) (fun r e => by simp [Value.ownBlock] at e))
    obtain ⟨ev, ec, rfl⟩ := own_sl hp1
    have hz11 := HB11.out.size
    clear hg1
    go_wp2_with (at_builtin; refine wpList_append_any _ rfl (.tmp 102) (.tmp 106) 25 rfl W9.heap.size 57 j0 _ 3 48 Tryz.underlying25 hj1 hj2 hj3 hj4 rfl (by decide) _ k (us.take (k * 3)) rfl hp1 W2.heap.size C' (cs.length - (k + 1)) (cc - (k + 1)) (us.drop ((k + 1) * 3)) rfl ?gb1 ?gb2 ?gb3 ?gb4 ?gb5 ?_)
    case gb1 => exact HCP.out.below (HB9.out.trans (HB11.out.mono (by omega)))
    case gb2 => exact atL_one ccells_one _ HCD.out.2
    case gb3 => unfold maxLen; omega
    case gb4 => omega
    case gb5 => omega
    intro w2v w12 hp2 hg2 _
    rw [HMC.out] at hp2
    have HB12 : Hid (Below W9.heap.size W9 w12) := Lib.hid (HB11.out.grown hg2 hz11 (fun r e => (hp1.lt r e).1))
    obtain ⟨fv, fc, rfl⟩ := own_sl hp2
    have HO12 := Lib.hid hp2
    have HQ12 := Lib.hid HB12.out.size
    have x0 : w12.cell? ⟨w.heap.size, 0, none⟩ = some (.slice A l.length cA) := (BA2.out.below (HB9.out.trans (HB12.out.mono (by omega))) BA2.out.lt).cell 0
    have x1 : w12.cell? ⟨W2.heap.size, 0, none⟩ = some (.slice bv m bq) := (BT9.out.below HB12.out hz9).cell 0
    have HQ' := Lib.hid (HC2.out d' (.slice bv m bq) w12 (by have := HDL.out; omega) (fun e he => HOKE.out e (HDM.out e he)) (fun e he => HES.out e (HDM.out e he)) (At.below (S' := fun g => g < w12.heap.size) HAT9.out HB12.out (fun g hg => Nat.lt_of_lt_of_le hg HB12.out.size)) (HBW.out.trans (HB12.out.mono HBW.out.size)))
    rw [HCE.out] at HQ'
    clear hp1 hp2 hg2
    go_wp2_with fail
    refine HQ'.out.mono ?_
    rintro e W13 ⟨b13, vy, rfl, gy⟩
    obtain ⟨Ya, yc, rfl, _, _⟩ := at_slice gy
    have HB13 := Lib.hid (HB12.out.trans (b13.mono (by have := HQ12.out; omega)))
    have HWT : Hid (Calls Tryz.prog 22 #[.slice Ya m yc, .slice fv m fc] W13 (AnsB true W13)) := Lib.hid (by
      have hy : T.At bare W13 (fun g => g < W13.heap.size) (cellsT (cs.take k ++ cs.drop (k + 1))) (.slice Ya m yc) := by
        have := At.keep (S' := fun g => g < W13.heap.size) (fun _ _ => rfl) (fun g h => h.2.lt) gy
        rwa [HLN.out] at this
      have hwant : T.At bare w12 (fun g => g < w12.heap.size) (cellsT (cs.take k ++ cs.drop (k + 1))) (.slice fv m fc) := by
        refine own_atS (xs := cs.take k ++ cs.drop (k + 1)) ccells_len (by rw [HLN.out]; exact HO12.out) ?_ (fun g hg => (HO12.out.lt g hg).2)
        rw [List.flatMap_append]
        have hq := HB9.out.trans (HB12.out.mono (by omega))
        exact AtL.below (AtL.append HCA.out.1 HCD.out.2) hq (fun g hg => Nat.lt_of_lt_of_le hg hq.size)
      exact kitCells_any _ _ (cs.take k ++ cs.drop (k + 1)) (cs.take k ++ cs.drop (k + 1)) W13 hy (At.below hwant b13 (fun g hg => Nat.lt_of_lt_of_le hg b13.size)) (by have := HLN.out; omega) (by have := HLN.out; omega) HOM.out HOM.out true (by simp))
    rw [HLN.out]
    clear b13 gy x0 x1 HQ'
    go_wp2_with fail
    refine HWT.out.mono ?_
    rintro e W14 ⟨rfl, b14⟩
    have HB14 := Lib.hid (HB13.out.trans (b14.mono HB13.out.size))
    clear b14
    go_wp2_with fail
    go_ret
    exact ⟨rfl, HB2.out.trans ((HB9.out.trans (HB14.out.mono (by omega))).mono HB2.out.size)⟩
end Go.Proofs.YtfckomjbgopmaaaGreatDoor.SchemaBackWalk
