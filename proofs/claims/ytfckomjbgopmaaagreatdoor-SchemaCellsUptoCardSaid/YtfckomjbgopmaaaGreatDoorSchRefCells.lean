/- Contract: the document's Cells. Written by gen_refcells.py. -/
import Derived.Test.YtfckomjbgopmaaaGreatDoorPack18
import Derived.Test.YtfckomjbgopmaaaGreatDoorPack20
import Derived.Test.YtfckomjbgopmaaaGreatDoorPack44
import Derived.Test.YtfckomjbgopmaaaGreatDoorAnaRefRun
import Derived.Test.YtfckomjbgopmaaaGreatDoorPack36
import Derived.Test.YtfckomjbgopmaaaGreatDoorOrdRefDec
set_option linter.unusedVariables false
namespace Go.Proofs.YtfckomjbgopmaaaGreatDoor.Sch
open Go.RowKit Words Tree SchP Kit Owned AnaP

/-- What holds when k entries have been taken. -/
def CellSr (W1 : World) (l : List FT) (d : List ET) (R : Except Int (List (CT × Nat))) (k : Nat) (vo vm : Value) (wr : World) : Prop :=
  ∃ outs, goF decO runO l outs (d.drop k) = R ∧ RowG bare 57 3 ccells vm.ownBlock W1.heap.size wr vo (outs.map (·.1)) ∧ wr.ownsRow W1.heap.size 3 1 vm k (outs.map fun c => Value.int .i64 ((c.2 : Nat) : Int)) ∧
    Below W1.heap.size W1 wr ∧ outs.length = k ∧ ∀ j, sumK j outs ≤ 4096
theorem ofK_take_succ {outs : List (CT × Nat)} {n i : Nat} (h : n < outs.length) : ofK i (outs.take (n + 1)) = ofK i (outs.take n) ++ (if outs[n].1.field = i then [outs[n]] else []) := by
  rw [List.take_succ_eq_append_getElem h]
  exact ofK_snoc i _ outs[n].1 outs[n].2
theorem sumK_take_succ {outs : List (CT × Nat)} {n i : Nat} (h : n < outs.length) : sumK i (outs.take (n + 1)) = sumK i (outs.take n) + (if outs[n].1.field = i then outs[n].2 else 0) := by
  rw [List.take_succ_eq_append_getElem h]
  exact sumK_snoc i _ outs[n].1 outs[n].2
theorem sumK_take_le (outs : List (CT × Nat)) (n i : Nat) : sumK i (outs.take n) ≤ sumK i outs := by
  have := sumK_append i (outs.take n) (outs.drop n)
  rw [List.take_append_drop] at this
  omega
/-- Element n of the row of cells, as it lies. -/
theorem outs_cell {w : World} {B : Nat} {box : Option Nat} {A : Option Addr} {c : Nat} {outs : List CT} (h : RowG bare 57 3 ccells box B w (.slice A outs.length c) outs) {n : Nat} (hn : n < outs.length) :
    ∃ g, A = some ⟨g, 0, none⟩ ∧ g < w.heap.size ∧ w.cell? ⟨g, n * 3, none⟩ = some (.int .i64 outs[n].field) := by
  obtain ⟨cs, ho, ha⟩ := h
  obtain ⟨g, cap, hv, _, hlt⟩ := ho.form (by omega)
  injection hv with h1 h2 h3
  subst h1
  refine ⟨g, rfl, hlt, ?_⟩
  obtain ⟨us, hul, hus, hj⟩ := AtL.elem ccells_len ha n hn
  obtain ⟨v, rfl, _⟩ := at_ccells hus
  have hc := ho.cells (g := g) rfl (n * 3) (.int .i64 outs[n].field) (by have := hj 0 (by omega); simpa using this)
  have hadd : (⟨g, 0, none⟩ : Addr).add (n * 3) = ⟨g, n * 3, none⟩ := by unfold Addr.add; split <;> simp_all
  rwa [hadd] at hc
theorem many_cell {w : World} {B : Nat} {A : Option Addr} {k c : Nat} {outs : List (CT × Nat)} (h : w.ownsRow B 3 1 (.slice A k c) k (outs.map fun c => Value.int .i64 ((c.2 : Nat) : Int))) {n : Nat} (hn : n < outs.length) (hk : outs.length = k) :
    ∃ g, A = some ⟨g, 0, none⟩ ∧ w.cell? ⟨g, n, none⟩ = some (.int .i64 ((outs[n].2 : Nat) : Int)) := by
  obtain ⟨g, e, _, _, hc⟩ := own_cell h (i := n) (by omega)
  exact ⟨g, e, hc n _ (by simp [hn])⟩

/-- Two rows of a call's own of other elements lie apart. -/
theorem own_apart {w : World} {B n m n' m' : Nat} {e e' : TypeId} {v v' : Value} {xs xs' : List Value} (h : w.ownsRow B e m v n xs) (h' : w.ownsRow B e' m' v' n' xs') (hne : e ≠ e') : v.ownBlock = none ∨ v.ownBlock ≠ v'.ownBlock := by
  rcases h.2 with ⟨rfl, _⟩ | ⟨g, cap, cur, rfl, _, h2, _⟩
  · exact .inl rfl
  · rcases h'.2 with ⟨rfl, _⟩ | ⟨g', cap', cur', rfl, _, h2', _⟩
    · exact .inr (by intro h; cases h)
    · refine .inr fun he => ?_
      have : g = g' := by simpa [Value.ownBlock] using he
      subst this
      rw [h2] at h2'
      injection h2' with h2'
      injection h2' with _ h3
      exact hne h3
/-- The row in the box has grown, and lies elsewhere, it may be. -/
theorem rowG_push {sent : Nat → List (List Value)} {X : Type} {f : X → List T} {s : Nat} {et : TypeId} {box box' : Option Nat} {N : Nat} {wr w' : World} {v : Value} {xs : List X} (h : RowG sent et s f box N wr v xs) (hg : wr.grownBy w' box) (hv : v.ownBlock = none ∨ v.ownBlock ≠ box) (hb : box' = box ∨ box' = some wr.heap.size) : RowG sent et s f box' N w' v xs := by
  obtain ⟨cs, ho, ha⟩ := h
  refine ⟨cs, ho.kept hg hv, AtL.keep (fun p hp => World.cell?_of_block (hg.block p.block hp.2.1.lt (fun e => hp.2.2.2 e.symm))) (fun g hg' => ⟨hg'.1, hg'.2.1.grown hg (fun e => hg'.2.2.2 e.symm), hg'.2.2.1, ?_⟩) ha⟩
  rcases hb with rfl | rfl
  · exact hg'.2.2.2
  · intro e; injection e with e; have := hg'.2.1.lt; omega

theorem neq_ways (n : Nat) (k : Int) : ((n : Int) = k ∧ ((n : Int) != k) = false) ∨ ((n : Int) ≠ k ∧ ((n : Int) != k) = true) := by
  by_cases h : (n : Int) = k
  · exact .inl ⟨h, by simpa using h⟩
  · exact .inr ⟨h, by simpa using h⟩

set_option maxRecDepth 100000 in
set_option maxHeartbeats 100000000 in
theorem refCells_any (u x : Value) (l : List FT) (d : List ET) (w : World) (hu : T.At bare w (fun g => g < w.heap.size) (fieldsT l) u) (hl : l.length * 72 ≤ 140737488351232) (hf : ∀ f ∈ l, FOk f)
    (hx : T.At bare w (fun g => g < w.heap.size) (entriesT d) x) (hd : d.length * 56 ≤ 140737488351232) (he : ∀ e ∈ d, EOk e) :
    Calls Tryz.prog 21 #[.agg #[u], .agg #[x]] w (CellsRet (cellsF decO runO l d) w) := by
  have HCK := Lib.hid (fun (W : World) (hW : Below w.heap.size w W) => refCheckS_any u l W (At.below hu hW (fun g hg => Nat.lt_of_lt_of_le hg hW.size)) hl hf)
  have HFI := Lib.hid (fun (s : ByteArray) (W : World) (hW : Below w.heap.size w W) => refFind_any u l s W (At.below hu hW (fun g hg => Nat.lt_of_lt_of_le hg hW.size)) hl)
  obtain ⟨A, cA, rfl, hcA, hmA, eA⟩ := at_row fcells_len hu
  obtain ⟨D, cD, rfl, hcD, hmD, eD⟩ := at_row ecells_len hx
  have EA := Lib.hid eA; have ED := Lib.hid eD; have HF := Lib.hid hf; have HE := Lib.hid he
  clear hu hx eA eD hf he
  cases hck : checkS l with
  | false =>
    rw [hck] at HCK
    have HCF : Hid (cellsF decO runO l d = .error 80) := Lib.hid (by unfold cellsF; rw [if_pos hck])
    have herr : errS false = 80 := rfl
    rw [herr] at HCK
    go_enter Tryz.func21, Tryz.ntmps21
    go_wp2_with fail
    refine (HCK.out _ (below2 _ _)).mono ?_
    rintro e' W1 ⟨rfl, b1⟩
    have HB1 := Lib.hid ((below2 _ _).trans (b1.mono (by simp; omega)) : Below w.heap.size w W1)
    clear b1
    go_wp2_with fail
    go_ret2
    rw [HCF.out]
    exact ⟨HB1.out, rfl⟩
  | true =>
  have herr : errS true = 0 := rfl
  rw [hck, herr] at HCK
  by_cases h64 : 64 < d.length
  · have HCF : Hid (cellsF decO runO l d = .error 84) := Lib.hid (by unfold cellsF; rw [if_neg (by rw [hck]; decide), if_pos h64])
    have h64' : decide ((64 : Int) < d.length) = true := decide_eq_true (by omega)
    go_enter Tryz.func21, Tryz.ntmps21
    go_wp2_with fail
    refine (HCK.out _ (below2 _ _)).mono ?_
    rintro e' W1 ⟨rfl, b1⟩
    have HB1 := Lib.hid ((below2 _ _).trans (b1.mono (by simp; omega)) : Below w.heap.size w W1)
    have BB := Lib.hid ((blk_b w #[.slice A l.length cA] #[.slice D d.length cD] 24 30).below b1 (by simp))
    have hD : W1.cell? ⟨w.heap.size + 1, 0, none⟩ = some (.slice D d.length cD) := BB.out.cell 0
    clear b1
    go_wp2_with fail
    go_ret2
    rw [HCF.out]
    exact ⟨HB1.out, rfl⟩
  go_enter Tryz.func21, Tryz.ntmps21
  go_wp2_with fail
  refine (HCK.out _ (below2 _ _)).mono ?_
  rintro e' W1 ⟨rfl, b1⟩
  have HB1 := Lib.hid ((below2 _ _).trans (b1.mono (by simp; omega)) : Below w.heap.size w W1)
  have BA := Lib.hid ((blk_a w #[.slice A l.length cA] #[.slice D d.length cD] 24 30).below b1 (by simp; omega))
  have BB := Lib.hid ((blk_b w #[.slice A l.length cA] #[.slice D d.length cD] 24 30).below b1 (by simp))
  have hz1 : w.heap.size + 2 ≤ W1.heap.size := BB.out.lt
  have hD : W1.cell? ⟨w.heap.size + 1, 0, none⟩ = some (.slice D d.length cD) := BB.out.cell 0
  have h64' : decide ((64 : Int) < d.length) = false := by rw [decide_eq_false_iff_not]; omega
  obtain ⟨R, hR⟩ : ∃ R, goF decO runO l [] d = R := ⟨_, rfl⟩
  have HCF : Hid (cellsF decO runO l d = R.map fun o => o.map (·.1)) := Lib.hid (by unfold cellsF; rw [if_neg (by rw [hck]; decide), if_neg h64, hR])
  have HS0 : Hid (CellSr W1 l d R 0 (.slice none 0 0) (.slice none 0 0) W1) := Lib.hid ⟨[], hR, rowG_nil _, World.ownsRow_nil _ _ _ _, Below.refl _ _, rfl, fun j => by simp [sumK, ofK]⟩
  clear b1 hR
  go_wp2_with fail
  clear hD
  go_loopw [6, 7, 8] (fun vo vm i wr => ∃ k : Nat, k ≤ d.length ∧ i = .int .i64 k ∧ Hid (CellSr W1 l d R k vo vm wr)) (fun _ _ i _ => d.length - (intOf i).toNat)
  case atStart => exact ⟨0, by omega, rfl, HS0⟩
  case round =>
    obtain ⟨k, hk, rfl, HS⟩ := hrel
    obtain ⟨wo, hwo⟩ : ∃ wo : World, wo = wr := ⟨_, rfl⟩
    subst hwo
    obtain ⟨outs, hgo, hrow, hmany, hbel, hol, hsum⟩ := HS.out
    have HBW := Lib.hid hbel
    have HWR : Hid (Below w.heap.size w wo) := Lib.hid (HB1.out.trans (hbel.mono HB1.out.size))
    have hzr := hbel.size
    have hDo : wo.cell? ⟨w.heap.size + 1, 0, none⟩ = some (.slice D d.length cD) := (BB.out.below hbel BB.out.lt).cell 0
    obtain ⟨Ao, co, rfl, _, _⟩ := at_slice (rowG_at ccells_len hrow)
    obtain ⟨Am, cm, rfl⟩ := own_slice hmany
    have HOL := Lib.hid hol
    have hln : (outs.map (·.1)).length = k := by rw [List.length_map, hol]
    clear HS
    rw [hln] at hrow ⊢
    clear hol hln
    by_cases hlt : k < d.length
    · have HGO2 : Hid (goF decO runO l outs (d.drop k) = R) := Lib.hid hgo
      have HROW := Lib.hid hrow; have HMANY := Lib.hid hmany; have HSUM := Lib.hid hsum
      obtain ⟨ad, us, rfl, hba, au, lu, cu⟩ := ED.out k hlt
      replace cu := cu.keep (w' := wo) (fun p hp => HWR.out.cell (by rw [hp, block_of_add]; exact hba))
      have hab : (ad.add (k * 3)).block < wo.heap.size := by rw [block_of_add]; omega
      have HEO := Lib.hid (HE.out _ (List.getElem_mem hlt))
      have HGO : Hid (∀ outs, goF decO runO l outs (d.drop k) = match stepF decO runO l outs (d[k]'hlt) with | .error n => .error n | .ok c => goF decO runO l (outs ++ [c]) (d.drop (k + 1))) := Lib.hid (fun outs => by rw [List.drop_eq_getElem_cons hlt]; rfl)
      have HFZ := Lib.hid (findZ_eq l (d[k]'hlt).field)
      generalize d[k] = e at *
      obtain ⟨vc, rfl, gc⟩ := at_ecells au
      obtain ⟨Y, z2, rfl, hz2, hmz2⟩ := at_slice gc
      have HEC := Lib.hid gc
      have HF1 := Lib.hid (fun (V : World) (hV : Below w.heap.size w V) => HFI.out e.field V hV)
      obtain ⟨a0, a1, a2⟩ := three cu
      have hA' : wo.cell? ⟨w.heap.size, 0, none⟩ = some (.slice A l.length cA) := (BA.out.below HBW.out BA.out.lt).cell 0
      have hsl : w.heap.size < wo.heap.size := by omega
      have hst : (match stepF decO runO l outs e with | .error n => .error n | .ok c => goF decO runO l (outs ++ [c]) (d.drop (k + 1))) = R := by rw [← HGO.out outs]; exact HGO2.out
      have HST := Lib.hid hst
      clear cu au lu gc hgo hrow hmany hbel hsum hst
      go_wp2_with fail
      refine (HF1.out _ (HWR.out.alloc HWR.out.size _)).mono ?_
      rintro e' W3 ⟨rfl, b3⟩
      have HB3 := Lib.hid ((Below.refl _ wo).alloc (Nat.le_refl _) _ |>.trans (b3.mono (by simp)) : Below wo.heap.size wo W3)
      have BE := Lib.hid ((Blk.new wo 68 #[.string e.field, .string e.text, .slice Y e.nums.length z2]).below b3 (by simp))
      have hz3 : wo.heap.size + 1 ≤ W3.heap.size := by have := b3.size; simpa using this
      have HW3 := Lib.hid (HWR.out.trans (HB3.out.mono HWR.out.size))
      clear b3 a0 a1 a2 hA' hDo
      rw [HFZ.out]
      cases hfi : findF l e.field with
      | none =>
        have HE81 : Hid (R = .error 81) := Lib.hid (by have := HST.out; rw [stepF_none hfi] at this; exact this.symm)
        clear hfi
        dsimp only [zOf]
        go_wp2_with fail
        go_ret2
        rw [HCF.out, HE81.out]
        exact ⟨HW3.out, rfl⟩
      | some i =>
        obtain ⟨hil, -, -⟩ := findF_some hfi
        obtain ⟨sd, us2, rfl, hbs, asx, ls, cs⟩ := EA.out i hil
        replace cs := cs.keep (w' := W3) (fun p hp => HW3.out.cell (by rw [hp, block_of_add]; exact hbs))
        have hli : l[i]? = some l[i] := List.getElem?_eq_getElem hil
        have HFO := Lib.hid (HF.out _ (List.getElem_mem hil))
        generalize l[i] = f at *
        obtain ⟨vs, rfl, gs⟩ := at_fcells asx
        obtain ⟨X, z1, rfl, hz1', hmz1⟩ := at_slice gs
        have HFC := Lib.hid gs
        obtain ⟨s0, s1, s2, s3, s4, s5, s6⟩ := seven cs
        have hneg : decide ((i : Int) < 0) = false := by rw [decide_eq_false_iff_not]; omega
        have hil2 : (i : Int) < (l.length : Int) := by omega
        have hsb : (sd.add (i * 7)).block < W3.heap.size := by rw [block_of_add]; omega
        have hA3 : W3.cell? ⟨w.heap.size, 0, none⟩ = some (.slice (some sd) l.length cA) := (BA.out.below (HBW.out.trans (HB3.out.mono HBW.out.size)) BA.out.lt).cell 0
        have hmay : mayB f = true := may_of hck hli
        have hkd := kind_of hmay
        have HLI := Lib.hid hli; have HFI' := Lib.hid hfi
        clear hli hfi cs asx ls gs hmay
        dsimp only [zOf]
        go_upto_region 15 with fail
        have BF := Lib.hid (Blk.new W3 54 #[.string f.name, .int .i64 f.kind, .slice X f.chain.length z1, .int .i64 f.scale, .int .i64 f.dims, .bool f.many, .bool f.stored])
        have HB4 := Lib.hid ((Below.refl _ W3).alloc (Nat.le_refl _) (.cells #[.string f.name, .int .i64 f.kind, .slice X f.chain.length z1, .int .i64 f.scale, .int .i64 f.dims, .bool f.many, .bool f.stored] 54))
        have hz4 : W3.heap.size + 1 ≤ (W3.alloc (.cells #[.string f.name, .int .i64 f.kind, .slice X f.chain.length z1, .int .i64 f.scale, .int .i64 f.dims, .bool f.many, .bool f.stored] 54)).heap.size := by simp
        generalize W3.alloc (.cells #[.string f.name, .int .i64 f.kind, .slice X f.chain.length z1, .int .i64 f.scale, .int .i64 f.dims, .bool f.many, .bool f.stored] 54) = W4 at *
        have HOB : Hid (Below wo.heap.size wo W4) := Lib.hid (HB3.out.trans (HB4.out.mono (by omega)))
        have HW4 : Hid (Below w.heap.size w W4) := Lib.hid (HWR.out.trans (HOB.out.mono HWR.out.size))
        have BE4 := Lib.hid (BE.out.below HB4.out (by omega))
        have hnm := BE4.out.cell 2
        have htx : W4.cell? ⟨wo.heap.size, 1, none⟩ = some (.string e.text) := BE4.out.cell 1
        replace hnm : W4.cell? ⟨wo.heap.size, 2, none⟩ = some (.slice Y e.nums.length z2) := hnm
        obtain ⟨p0, p1, p2, p3, p4, p5, p6⟩ := blk7 BF.out
        clear s0 s1 s2 s3 s4 s5 s6 hA3 hneg
        obtain ⟨f0, fk, f2, f3, f4, f5, f6⟩ := f
        dsimp only at *
        have hrw4 := rowG_below HROW.out HOB.out
        have hmy4 := own_below HMANY.out HOB.out
        have HRW4 := Lib.hid hrw4; have HMY4 := Lib.hid hmy4
        clear hrw4 hmy4
        rcases hkd with rfl | rfl | rfl | rfl | ⟨rfl, hd1, hd4⟩
        · skip
          have hw : wantN ⟨f0, 1, f2, f3, f4, f5, f6⟩ = 0 := rfl
          obtain ⟨hn0, hn1⟩ | ⟨hn0, hn1⟩ := neq_ways e.nums.length 0
          rotate_left
          · have HKO : Hid (SchP.kindOk ⟨f0, 1, f2, f3, f4, f5, f6⟩ e.text e.nums = false) := Lib.hid (by unfold SchP.kindOk; rw [hw, decide_eq_false hn0]; rfl)
            clear hn0
            have HER : Hid (R = .error 82) := Lib.hid (by have := HST.out; rw [stepF_82 HFI'.out HLI.out HKO.out] at this; exact this.symm)
            clear HST
            go_wp2_with fail
            go_ret2
            rw [HCF.out, HER.out]
            exact ⟨HW4.out, rfl⟩
          have HKO : Hid (SchP.kindOk ⟨f0, 1, f2, f3, f4, f5, f6⟩ e.text e.nums = true) := Lib.hid (by unfold SchP.kindOk; rw [hw, decide_eq_true hn0, decide_eq_true (p := ((0 : Int) ≤ 0)) (by omega)]; simp)
          have HN0 := Lib.hid hn0
          clear hn0
          go_wp2_with fail
          clear hn1 hnm htx
          go_loopw [13, 14] (fun a n wq => ∃ m : Nat, m ≤ k ∧ n = .int .i64 m ∧ a = .int .i64 ((sumK i (outs.take m) : Nat) : Int) ∧ Hid (f5 = false → ofK i (outs.take m) = []) ∧ wq = W4) (fun _ n _ => k - (intOf n).toNat)
          case atStart => exact ⟨0, by omega, rfl, by simp [sumK, ofK], Lib.hid (by simp [ofK]), rfl⟩
          case round =>
            obtain ⟨m, hmk, rfl, rfl, HFL, rfl⟩ := hrel
            by_cases hmlt : m < k
            · have hmo : m < outs.length := by have := HOL.out; omega
              obtain ⟨g, rfl, hgl, hcell⟩ := outs_cell (outs := outs.map (·.1)) (by rw [List.length_map, HOL.out]; exact HRW4.out) (n := m) (by rw [List.length_map]; exact hmo)
              obtain ⟨g', rfl, hmc⟩ := many_cell HMY4.out hmo HOL.out
              rw [List.getElem_map] at hcell
              have HT1 := Lib.hid (ofK_take_succ (i := i) hmo)
              have HT2 := Lib.hid (sumK_take_succ (i := i) hmo)
              have hs1 : sumK i (outs.take m) ≤ 4096 := Nat.le_trans (sumK_take_le outs m i) (HSUM.out i)
              have hs2 : sumK i (outs.take (m + 1)) ≤ 4096 := Nat.le_trans (sumK_take_le outs (m + 1) i) (HSUM.out i)
              have HMEM : Hid (outs[m] ∈ outs) := Lib.hid (List.getElem_mem hmo)
              generalize outs[m] = oc at *
              obtain ⟨oc, on⟩ := oc
              obtain ⟨o1, o2, o3⟩ := oc
              dsimp only at *
              have hml2 : (m : Int) < (k : Int) := by omega
              by_cases hfe : o1 = i
              · have hbe : (o1 == (i : Int)) = true := by simpa using hfe
                cases f5 with
                | true =>
                  have HS3 : Hid (((sumK i (outs.take m) : Nat) : Int) + (on : Int) = ((sumK i (outs.take (m + 1)) : Nat) : Int)) := Lib.hid (by rw [HT2.out, if_pos hfe]; push_cast; rfl)
                  have hon : sumK i (outs.take m) + on ≤ 4096 := by have := HT2.out; rw [if_pos hfe] at this; omega
                  clear hfe
                  go_wp2_with fail
                  rw [HS3.out]
                  go_roundw
                  case rel => exact ⟨m + 1, by omega, by go_num, rfl, Lib.hid (fun h => by cases h), trivial⟩
                  case measure => simp [intOf]; omega
                | false =>
                  have HMF : Hid ((false || decide ((ofK i outs).length = 0)) = false) := Lib.hid (by
                    rw [Bool.false_or, decide_eq_false_iff_not]
                    intro h0
                    have hmem : (({ field := o1, text := o2, nums := o3 } : CT), on) ∈ ofK i outs := List.mem_filter.2 ⟨HMEM.out, by simpa using hfe⟩
                    rw [List.eq_nil_of_length_eq_zero h0] at hmem
                    cases hmem)
                  clear hfe hs2
                  have HER : Hid (R = .error 84) := Lib.hid (by have := HST.out; rw [stepF_84 HFI'.out HLI.out HKO.out HMF.out] at this; exact this.symm)
                  clear HST
                  go_wp2_with fail
                  go_ret2
                  rw [HCF.out, HER.out]
                  exact ⟨HW4.out, rfl⟩
              · have hbe : (o1 == (i : Int)) = false := by simpa using hfe
                have HS3 : Hid (sumK i (outs.take (m + 1)) = sumK i (outs.take m)) := Lib.hid (by rw [HT2.out, if_neg hfe]; rfl)
                have HS4 : Hid (f5 = false → ofK i (outs.take (m + 1)) = []) := Lib.hid (fun h => by rw [HT1.out, HFL.out h, if_neg hfe]; rfl)
                clear hfe hs2
                go_wp2_with fail
                go_roundw
                case rel => exact ⟨m + 1, by omega, by go_num, by rw [HS3.out], HS4, trivial⟩
                case measure => simp [intOf]; omega
            · obtain rfl : m = k := by omega
              have HMN : Hid ((f5 || decide ((ofK i outs).length = 0)) = true) := Lib.hid (by
                cases h5 : f5 with
                | true => rfl
                | false =>
                  have := HFL.out h5
                  rw [List.take_of_length_le (by have := HOL.out; omega)] at this
                  rw [this]; rfl)
              have htk : outs.take m = outs := List.take_of_length_le (by have := HOL.out; omega)
              have hsi := HSUM.out i
              rw [htk]
              have hsi2 := hsi
              go_upto_region 31 with fail
              have BC := Lib.hid (Blk.new wr 57 #[.int .i64 i, .string ⟨#[]⟩, .slice none 0 0])
              have HB5 := Lib.hid ((Below.refl _ wr).alloc (Nat.le_refl _) (.cells #[.int .i64 i, .string ⟨#[]⟩, .slice none 0 0] 57))
              have hz5 : wr.heap.size + 1 ≤ (wr.alloc (.cells #[.int .i64 i, .string ⟨#[]⟩, .slice none 0 0] 57)).heap.size := by simp
              generalize wr.alloc (.cells #[.int .i64 i, .string ⟨#[]⟩, .slice none 0 0] 57) = W5 at *
              have HW5 : Hid (Below w.heap.size w W5) := Lib.hid (HW4.out.trans (HB5.out.mono HW4.out.size))
              have BE5 := Lib.hid (BE4.out.below HB5.out (by omega))
              have x1 : W5.cell? ⟨wo.heap.size, 1, none⟩ = some (.string e.text) := BE5.out.cell 1
              have x2 : W5.cell? ⟨wo.heap.size, 2, none⟩ = some (.slice Y e.nums.length z2) := BE5.out.cell 2
              obtain ⟨p0, p1, p2, p3, p4, p5, p6⟩ := blk7 (BF.out.below HB5.out (by omega))
              obtain ⟨_, _, he, hz, hm, hrd⟩ := at_nums HFC.out
              injection he with e1 _ e3
              subst e1 e3
              have HRUN := Lib.hid (Ana.refRun_any X f2.length z1 f2 e.text W5 rfl ((hrd.below HW5.out).more HW5.out.size) hz hm (by have := HEO.out.text; omega))
              obtain ⟨r, hr⟩ : ∃ r, runF f2 e.text = r := ⟨_, rfl⟩
              rw [hr] at HRUN
              have hrl : r.1.length ≤ 4096 := by rw [← hr]; exact runF_len _ _
              have HVF : Hid (valueF decO runO ⟨f0, 1, f2, f3, f4, f5, f6⟩ i e = if r.2 = 0 then some (⟨i, e.text, []⟩, r.1.length) else none) := Lib.hid (by
                unfold valueF runO
                rw [if_pos rfl, hr]
                split <;> rfl)
              clear hrd hr
              obtain ⟨ts, er⟩ := r
              dsimp only at *
              go_wp2_with fail
              refine HRUN.out.mono ?_
              rintro e' W6 ⟨ao, c0, rfl, hown, hb⟩
              dsimp only at hown ⊢
              have HB6 := Lib.hid (HB5.out.trans (hb.mono (by omega)) : Below wr.heap.size wr W6)
              have BC6 := Lib.hid (BC.out.below hb BC.out.lt)
              have HW6 : Hid (Below w.heap.size w W6) := Lib.hid (HW4.out.trans (HB6.out.mono HW4.out.size))
              have y1 : W6.cell? ⟨wo.heap.size, 1, none⟩ = some (.string e.text) := (BE5.out.below hb BE5.out.lt).cell 1
              have hz6 := hb.size
              clear x1 x2 p0 p1 p2 p3 p4 p5 p6 hb hown
              obtain ⟨hrc, hrn⟩ | hrc : ((er != 0) = true ∧ er ≠ 0) ∨ er = 0 := by
                by_cases h : er = 0
                · exact .inr h
                · exact .inl ⟨by simpa using h, h⟩
              · have HRN := Lib.hid hrn
                clear hrn
                have HER : Hid (R = .error 83) := Lib.hid (by have := HST.out; rw [stepF_83 HFI'.out HLI.out HKO.out HMN.out (fun c n h => by rw [HVF.out, if_neg HRN.out] at h; cases h)] at this; exact this.symm)
                clear HST
                go_wp2_with fail
                go_ret2
                rw [HCF.out, HER.out]
                exact ⟨HW6.out, rfl⟩
              subst hrc
              by_cases hbig : 4096 < sumK i outs + ts.length
              · have hbd : decide ((4096 : Int) < (sumK i outs : Int) + (ts.length : Int)) = true := decide_eq_true (by omega)
                have HBIG := Lib.hid hbig
                clear hbig
                have HER : Hid (R = .error 83) := Lib.hid (by have := HST.out; rw [stepF_83 HFI'.out HLI.out HKO.out HMN.out (fun c n h => by rw [HVF.out, if_pos rfl] at h; injection h with h; injection h with h1 h2; subst h2; exact ⟨rfl, HBIG.out⟩)] at this; exact this.symm)
                clear HST
                go_wp2_with fail
                go_ret2
                rw [HCF.out, HER.out]
                exact ⟨HW6.out, rfl⟩
              have hbd : decide ((4096 : Int) < (sumK i outs : Int) + (ts.length : Int)) = false := decide_eq_false (by omega)
              have HV : Hid (valueF decO runO ⟨f0, 1, f2, f3, f4, f5, f6⟩ i e = some (⟨i, e.text, []⟩, ts.length)) := Lib.hid (by rw [HVF.out, if_pos rfl])
              have hn1 : sumK i outs + ts.length ≤ 4096 := by omega
              have c1 : W6.cell? ⟨wr.heap.size, 1, none⟩ = some (.string ⟨#[]⟩) := BC6.out.cell 1
              have c2 : W6.frozen? ⟨wr.heap.size, 1, none⟩ = false := BC6.out.frozen 1
              have hc3 : wr.heap.size < W6.heap.size := by omega
              go_upto_region 49 with fail
              have BC8 : Hid (Blk (W6.setCell ⟨wr.heap.size, 1, none⟩ (.string e.text)) wr.heap.size 57 #[.int .i64 i, .string e.text, .slice none 0 0]) := Lib.hid (BC6.out.set_ 1 _)
              have HB8 : Hid (Below wr.heap.size wr (W6.setCell ⟨wr.heap.size, 1, none⟩ (.string e.text))) := Lib.hid (HB6.out.setCell (Nat.le_refl _) _)
              have HN8 : Hid (T.At bare (W6.setCell ⟨wr.heap.size, 1, none⟩ (.string e.text)) (fun g => wr.heap.size ≤ g ∧ CellsAt (W6.setCell ⟨wr.heap.size, 1, none⟩ (.string e.text)) g) (numsT .i64 []) (.slice none 0 0)) := Lib.hid (nums_none rfl)
              clear HB6 BC6 c1 c2 hc3
              generalize W6.setCell ⟨wr.heap.size, 1, none⟩ (.string e.text) = W8 at *
              have HST2 : Hid (goF decO runO l (outs ++ [((⟨i, e.text, ([] : List Int)⟩ : CT), ts.length)]) (d.drop (m + 1)) = R) := Lib.hid (by have := HST.out; rw [stepF_ok HFI'.out HLI.out HKO.out HMN.out HV.out (fun _ => hn1)] at this; exact this)
              obtain ⟨xs, hco, hcl, hca⟩ := rowM_of HRW4.out HB8.out
              have HCA := Lib.hid hca; have HCL := Lib.hid hcl
              rw [List.length_map, HOL.out] at hco
              have HAP := Lib.hid (own_apart HRW4.out.choose_spec.1 HMY4.out (by decide))
              have HAQ := Lib.hid (own_apart HMY4.out HRW4.out.choose_spec.1 (by decide))
              have y0 : W8.cell? ⟨wr.heap.size, 0, none⟩ = some (.int .i64 i) := BC8.out.cell 0
              have y1 : W8.cell? ⟨wr.heap.size, 1, none⟩ = some (.string e.text) := BC8.out.cell 1
              have y2 : W8.cell? ⟨wr.heap.size, 2, none⟩ = some (.slice none 0 0) := BC8.out.cell 2
              obtain ⟨i0, hi1, hi2, hi3, hi4⟩ := info_parts infoC
              clear hca hcl HST
              go_wp2_with (at_builtin; refine wpList_append_any _ rfl (.tmp 161) (.tmp 163) 25 rfl W1.heap.size 57 i0 _ 3 48 Tryz.underlying25 hi1 hi2 hi3 hi4 rfl (by decide) _ _ xs rfl (hco.alloc _) (W8.heap.size + 1) (some ⟨W8.heap.size, 0, none⟩) 1 1 [.int .i64 i, .string e.text, .slice none 0 0] rfl ?dk11 ?dk12 ?dk13 ?dk14 ?dk15 ?_)
              case dk11 => exact ⟨rfl, fun _ => ⟨_, rfl, by simp, fun j u hu => cells_new W8 [.int .i64 i, .string e.text, .slice none 0 0] _ j u hu⟩⟩
              case dk12 => first | (intro u hu; simp only [List.mem_cons, List.not_mem_nil, or_false] at hu; rcases hu with rfl | rfl | rfl <;> rfl) | simp [Value.oneCell']
              case dk13 => unfold maxLen; omega
              case dk14 => omega
              case dk15 => have := HB8.out.size; simp; omega
              intro v' w9 ho hg hv
              have hlt5 : ∀ r, (Value.slice Ao m co).ownBlock = some r → W1.heap.size ≤ r := fun r h => (hco.lt r h).1
              have HB9 : Hid (Below wr.heap.size wr (W8.alloc (.cells ([.int .i64 i, .string e.text, .slice none 0 0] : List Value).toArray 57))) := Lib.hid (HB8.out.alloc HB8.out.size _)
              have HRG : Hid (RowG bare 57 3 ccells (Value.slice Am m cm).ownBlock W1.heap.size w9 v' ((outs ++ [((⟨i, e.text, ([] : List Int)⟩ : CT), ts.length)]).map (fun c : CT × Nat => c.1))) := Lib.hid (by
                rw [List.map_append]
                refine rowM_step (us := [.int .i64 i, .string e.text, .slice none 0 0]) (wr := W8) (m := wr.heap.size) (w3 := W8.alloc (.cells ([.int .i64 i, .string e.text, .slice none 0 0] : List Value).toArray 57)) (by omega) HB8.out.size (fun b h => (HMY4.out.lt b h).2) HCL.out HCA.out ?_ ((Below.refl _ _).alloc HB8.out.size _) (by rw [List.length_map, HOL.out]; exact ho) hg (by simpa using hv)
                refine ccells_mk (c := (⟨i, e.text, ([] : List Int)⟩ : CT)) (At.keep (fun p hp => World.cell?_alloc_lt _ _ _ hp.2.lt) (fun g h => ⟨h.1, h.2.below (Below.alloc (Below.refl _ _) (Nat.le_refl _) _) h.2.lt⟩) HN8.out))
              have HMY9 : Hid (w9.ownsRow W1.heap.size 3 1 (.slice Am m cm) m (outs.map fun c => Value.int .i64 ((c.2 : Nat) : Int))) := Lib.hid ((own_below HMY4.out HB9.out).kept hg HAQ.out)
              have hob : v'.ownBlock = none ∨ v'.ownBlock ≠ (Value.slice Am m cm).ownBlock := by
                rcases hv with h | h
                · rw [h]; exact HAP.out
                · rw [h]
                  refine .inr fun e => ?_
                  have h9 := (HMY4.out.lt _ e.symm).2
                  have h8 := HB8.out.size
                  omega
              have HB10 : Hid (But (fun g => W1.heap.size ≤ g) W1 w9) := Lib.hid (((But.of_below (HBW.out.trans ((HOB.out.mono hzr).trans (HB9.out.mono (by omega))))).mono (fun g h => h)).trans (But.grown hg (fun r h => hlt5 r h)))
              have hz9 : W1.heap.size ≤ w9.heap.size := HB10.out.size
              have HOB' := Lib.hid hob
              obtain ⟨j0, hj1, hj2, hj3, hj4⟩ := info_parts infoInt
              have hmy9 := HMY9.out
              clear ho hg hv hob hco hi1 hi2 hi3 hi4 y0 y1 y2 hlt5
              go_wp2_with (at_builtin; refine wpList_append_any _ rfl (.tmp 165) (.tmp 167) 52 rfl W1.heap.size 3 j0 _ 1 8 Tryz.underlying52 hj1 hj2 hj3 hj4 rfl (by decide) _ _ (outs.map fun c => Value.int .i64 ((c.2 : Nat) : Int)) rfl (hmy9.alloc _) (w9.heap.size + 1) (some ⟨w9.heap.size, 0, none⟩) 1 1 [.int .i64 ((ts.length : Nat) : Int)] rfl ?ek11 ?ek12 ?ek13 ?ek14 ?ek15 ?_)
              case ek11 => exact ⟨rfl, fun _ => ⟨_, rfl, by simp, fun j u hu => cells_new w9 [.int .i64 ((ts.length : Nat) : Int)] _ j u hu⟩⟩
              case ek12 => intro u hu; simp only [List.mem_cons, List.not_mem_nil, or_false] at hu; rw [hu]; rfl
              case ek13 => unfold maxLen; omega
              case ek14 => omega
              case ek15 => simp; omega
              intro vm wA ho2 hg2 hv2
              have HRG2 : Hid (RowG bare 57 3 ccells vm.ownBlock W1.heap.size wA v' ((outs ++ [((⟨i, e.text, ([] : List Int)⟩ : CT), ts.length)]).map (fun c : CT × Nat => c.1))) := Lib.hid (rowG_push (rowG_below HRG.out ((Below.refl _ w9).alloc (Nat.le_refl _) _)) hg2 HOB'.out (by simpa using hv2))
              have HBF : Hid (Below W1.heap.size W1 wA) := Lib.hid (((HB10.out.alloc _).trans (But.grown hg2 (fun r h => (hmy9.lt r h).1))).below (Nat.le_refl _) (fun g hg h => by omega))
              have HS2 : Hid (CellSr W1 l d R (m + 1) v' vm wA) := Lib.hid ⟨outs ++ [((⟨i, e.text, ([] : List Int)⟩ : CT), ts.length)], HST2.out, HRG2.out, (by rw [List.map_append]; exact ho2), HBF.out, (by simp [HOL.out]), fun j => by
                rw [sumK_snoc]
                split
                · rename_i h
                  dsimp only at h
                  have : j = i := by exact_mod_cast h.symm
                  subst this; exact hn1
                · have := HSUM.out j; omega⟩
              clear ho2 hg2 hv2 hmy9 hj1 hj2 hj3 hj4
              go_wp2_with fail
              go_roundw
              case rel => exact ⟨m + 1, by omega, by go_num, HS2⟩
              case measure => simp [intOf]; omega
        · skip
          have hw : wantN ⟨f0, 2, f2, f3, f4, f5, f6⟩ = 0 := rfl
          obtain ⟨hn0, hn1⟩ | ⟨hn0, hn1⟩ := neq_ways e.nums.length 0
          rotate_left
          · have HKO : Hid (SchP.kindOk ⟨f0, 2, f2, f3, f4, f5, f6⟩ e.text e.nums = false) := Lib.hid (by unfold SchP.kindOk; rw [hw, decide_eq_false hn0]; rfl)
            clear hn0
            have HER : Hid (R = .error 82) := Lib.hid (by have := HST.out; rw [stepF_82 HFI'.out HLI.out HKO.out] at this; exact this.symm)
            clear HST
            go_wp2_with fail
            go_ret2
            rw [HCF.out, HER.out]
            exact ⟨HW4.out, rfl⟩
          have HKO : Hid (SchP.kindOk ⟨f0, 2, f2, f3, f4, f5, f6⟩ e.text e.nums = true) := Lib.hid (by unfold SchP.kindOk; rw [hw, decide_eq_true hn0, decide_eq_true (p := ((0 : Int) ≤ 0)) (by omega)]; simp)
          have HN0 := Lib.hid hn0
          clear hn0
          go_wp2_with fail
          clear hn1 hnm htx
          go_loopw [13, 14] (fun a n wq => ∃ m : Nat, m ≤ k ∧ n = .int .i64 m ∧ a = .int .i64 ((sumK i (outs.take m) : Nat) : Int) ∧ Hid (f5 = false → ofK i (outs.take m) = []) ∧ wq = W4) (fun _ n _ => k - (intOf n).toNat)
          case atStart => exact ⟨0, by omega, rfl, by simp [sumK, ofK], Lib.hid (by simp [ofK]), rfl⟩
          case round =>
            obtain ⟨m, hmk, rfl, rfl, HFL, rfl⟩ := hrel
            by_cases hmlt : m < k
            · have hmo : m < outs.length := by have := HOL.out; omega
              obtain ⟨g, rfl, hgl, hcell⟩ := outs_cell (outs := outs.map (·.1)) (by rw [List.length_map, HOL.out]; exact HRW4.out) (n := m) (by rw [List.length_map]; exact hmo)
              obtain ⟨g', rfl, hmc⟩ := many_cell HMY4.out hmo HOL.out
              rw [List.getElem_map] at hcell
              have HT1 := Lib.hid (ofK_take_succ (i := i) hmo)
              have HT2 := Lib.hid (sumK_take_succ (i := i) hmo)
              have hs1 : sumK i (outs.take m) ≤ 4096 := Nat.le_trans (sumK_take_le outs m i) (HSUM.out i)
              have hs2 : sumK i (outs.take (m + 1)) ≤ 4096 := Nat.le_trans (sumK_take_le outs (m + 1) i) (HSUM.out i)
              have HMEM : Hid (outs[m] ∈ outs) := Lib.hid (List.getElem_mem hmo)
              generalize outs[m] = oc at *
              obtain ⟨oc, on⟩ := oc
              obtain ⟨o1, o2, o3⟩ := oc
              dsimp only at *
              have hml2 : (m : Int) < (k : Int) := by omega
              by_cases hfe : o1 = i
              · have hbe : (o1 == (i : Int)) = true := by simpa using hfe
                cases f5 with
                | true =>
                  have HS3 : Hid (((sumK i (outs.take m) : Nat) : Int) + (on : Int) = ((sumK i (outs.take (m + 1)) : Nat) : Int)) := Lib.hid (by rw [HT2.out, if_pos hfe]; push_cast; rfl)
                  have hon : sumK i (outs.take m) + on ≤ 4096 := by have := HT2.out; rw [if_pos hfe] at this; omega
                  clear hfe
                  go_wp2_with fail
                  rw [HS3.out]
                  go_roundw
                  case rel => exact ⟨m + 1, by omega, by go_num, rfl, Lib.hid (fun h => by cases h), trivial⟩
                  case measure => simp [intOf]; omega
                | false =>
                  have HMF : Hid ((false || decide ((ofK i outs).length = 0)) = false) := Lib.hid (by
                    rw [Bool.false_or, decide_eq_false_iff_not]
                    intro h0
                    have hmem : (({ field := o1, text := o2, nums := o3 } : CT), on) ∈ ofK i outs := List.mem_filter.2 ⟨HMEM.out, by simpa using hfe⟩
                    rw [List.eq_nil_of_length_eq_zero h0] at hmem
                    cases hmem)
                  clear hfe hs2
                  have HER : Hid (R = .error 84) := Lib.hid (by have := HST.out; rw [stepF_84 HFI'.out HLI.out HKO.out HMF.out] at this; exact this.symm)
                  clear HST
                  go_wp2_with fail
                  go_ret2
                  rw [HCF.out, HER.out]
                  exact ⟨HW4.out, rfl⟩
              · have hbe : (o1 == (i : Int)) = false := by simpa using hfe
                have HS3 : Hid (sumK i (outs.take (m + 1)) = sumK i (outs.take m)) := Lib.hid (by rw [HT2.out, if_neg hfe]; rfl)
                have HS4 : Hid (f5 = false → ofK i (outs.take (m + 1)) = []) := Lib.hid (fun h => by rw [HT1.out, HFL.out h, if_neg hfe]; rfl)
                clear hfe hs2
                go_wp2_with fail
                go_roundw
                case rel => exact ⟨m + 1, by omega, by go_num, by rw [HS3.out], HS4, trivial⟩
                case measure => simp [intOf]; omega
            · obtain rfl : m = k := by omega
              have HMN : Hid ((f5 || decide ((ofK i outs).length = 0)) = true) := Lib.hid (by
                cases h5 : f5 with
                | true => rfl
                | false =>
                  have := HFL.out h5
                  rw [List.take_of_length_le (by have := HOL.out; omega)] at this
                  rw [this]; rfl)
              have htk : outs.take m = outs := List.take_of_length_le (by have := HOL.out; omega)
              have hsi := HSUM.out i
              rw [htk]
              have hsi2 := hsi
              go_upto_region 31 with fail
              have BC := Lib.hid (Blk.new wr 57 #[.int .i64 i, .string ⟨#[]⟩, .slice none 0 0])
              have HB5 := Lib.hid ((Below.refl _ wr).alloc (Nat.le_refl _) (.cells #[.int .i64 i, .string ⟨#[]⟩, .slice none 0 0] 57))
              have hz5 : wr.heap.size + 1 ≤ (wr.alloc (.cells #[.int .i64 i, .string ⟨#[]⟩, .slice none 0 0] 57)).heap.size := by simp
              generalize wr.alloc (.cells #[.int .i64 i, .string ⟨#[]⟩, .slice none 0 0] 57) = W5 at *
              have HW5 : Hid (Below w.heap.size w W5) := Lib.hid (HW4.out.trans (HB5.out.mono HW4.out.size))
              have BE5 := Lib.hid (BE4.out.below HB5.out (by omega))
              have x1 : W5.cell? ⟨wo.heap.size, 1, none⟩ = some (.string e.text) := BE5.out.cell 1
              have x2 : W5.cell? ⟨wo.heap.size, 2, none⟩ = some (.slice Y e.nums.length z2) := BE5.out.cell 2
              obtain ⟨p0, p1, p2, p3, p4, p5, p6⟩ := blk7 (BF.out.below HB5.out (by omega))
              by_cases hbig : 256 < e.text.size
              · have hbd : decide ((256 : Int) < (e.text.size : Int)) = true := decide_eq_true (by omega)
                have HVF : Hid (valueF decO runO ⟨f0, 2, f2, f3, f4, f5, f6⟩ i e = none) := Lib.hid (by unfold valueF; rw [if_neg (by dsimp only; decide), if_pos rfl, if_neg (by omega)])
                clear hbig
                have HER : Hid (R = .error 83) := Lib.hid (by have := HST.out; rw [stepF_83 HFI'.out HLI.out HKO.out HMN.out (fun c n h => by rw [HVF.out] at h; cases h)] at this; exact this.symm)
                clear HST
                go_wp2_with fail
                go_ret2
                rw [HCF.out, HER.out]
                exact ⟨HW5.out, rfl⟩
              have hbd : decide ((256 : Int) < (e.text.size : Int)) = false := decide_eq_false (by omega)
              have HV : Hid (valueF decO runO ⟨f0, 2, f2, f3, f4, f5, f6⟩ i e = some (⟨i, e.text, []⟩, 0)) := Lib.hid (by unfold valueF; rw [if_neg (by dsimp only; decide), if_pos rfl, if_pos (by omega)])
              have hn1 : sumK i outs + 0 ≤ 4096 := by omega
              have c1 : W5.cell? ⟨wr.heap.size, 1, none⟩ = some (.string ⟨#[]⟩) := BC.out.cell 1
              have c2 : W5.frozen? ⟨wr.heap.size, 1, none⟩ = false := BC.out.frozen 1
              have hc3 : wr.heap.size < W5.heap.size := by omega
              have HB6 := HB5
              have BC6 := BC
              go_upto_region 49 with fail
              have BC8 : Hid (Blk (W5.setCell ⟨wr.heap.size, 1, none⟩ (.string e.text)) wr.heap.size 57 #[.int .i64 i, .string e.text, .slice none 0 0]) := Lib.hid (BC6.out.set_ 1 _)
              have HB8 : Hid (Below wr.heap.size wr (W5.setCell ⟨wr.heap.size, 1, none⟩ (.string e.text))) := Lib.hid (HB6.out.setCell (Nat.le_refl _) _)
              have HN8 : Hid (T.At bare (W5.setCell ⟨wr.heap.size, 1, none⟩ (.string e.text)) (fun g => wr.heap.size ≤ g ∧ CellsAt (W5.setCell ⟨wr.heap.size, 1, none⟩ (.string e.text)) g) (numsT .i64 []) (.slice none 0 0)) := Lib.hid (nums_none rfl)
              clear HB6 BC6 c1 c2 hc3
              generalize W5.setCell ⟨wr.heap.size, 1, none⟩ (.string e.text) = W8 at *
              have HST2 : Hid (goF decO runO l (outs ++ [((⟨i, e.text, ([] : List Int)⟩ : CT), 0)]) (d.drop (m + 1)) = R) := Lib.hid (by have := HST.out; rw [stepF_ok HFI'.out HLI.out HKO.out HMN.out HV.out (fun _ => hn1)] at this; exact this)
              obtain ⟨xs, hco, hcl, hca⟩ := rowM_of HRW4.out HB8.out
              have HCA := Lib.hid hca; have HCL := Lib.hid hcl
              rw [List.length_map, HOL.out] at hco
              have HAP := Lib.hid (own_apart HRW4.out.choose_spec.1 HMY4.out (by decide))
              have HAQ := Lib.hid (own_apart HMY4.out HRW4.out.choose_spec.1 (by decide))
              have y0 : W8.cell? ⟨wr.heap.size, 0, none⟩ = some (.int .i64 i) := BC8.out.cell 0
              have y1 : W8.cell? ⟨wr.heap.size, 1, none⟩ = some (.string e.text) := BC8.out.cell 1
              have y2 : W8.cell? ⟨wr.heap.size, 2, none⟩ = some (.slice none 0 0) := BC8.out.cell 2
              obtain ⟨i0, hi1, hi2, hi3, hi4⟩ := info_parts infoC
              clear hca hcl HST
              go_wp2_with (at_builtin; refine wpList_append_any _ rfl (.tmp 161) (.tmp 163) 25 rfl W1.heap.size 57 i0 _ 3 48 Tryz.underlying25 hi1 hi2 hi3 hi4 rfl (by decide) _ _ xs rfl (hco.alloc _) (W8.heap.size + 1) (some ⟨W8.heap.size, 0, none⟩) 1 1 [.int .i64 i, .string e.text, .slice none 0 0] rfl ?dk21 ?dk22 ?dk23 ?dk24 ?dk25 ?_)
              case dk21 => exact ⟨rfl, fun _ => ⟨_, rfl, by simp, fun j u hu => cells_new W8 [.int .i64 i, .string e.text, .slice none 0 0] _ j u hu⟩⟩
              case dk22 => first | (intro u hu; simp only [List.mem_cons, List.not_mem_nil, or_false] at hu; rcases hu with rfl | rfl | rfl <;> rfl) | simp [Value.oneCell']
              case dk23 => unfold maxLen; omega
              case dk24 => omega
              case dk25 => have := HB8.out.size; simp; omega
              intro v' w9 ho hg hv
              have hlt5 : ∀ r, (Value.slice Ao m co).ownBlock = some r → W1.heap.size ≤ r := fun r h => (hco.lt r h).1
              have HB9 : Hid (Below wr.heap.size wr (W8.alloc (.cells ([.int .i64 i, .string e.text, .slice none 0 0] : List Value).toArray 57))) := Lib.hid (HB8.out.alloc HB8.out.size _)
              have HRG : Hid (RowG bare 57 3 ccells (Value.slice Am m cm).ownBlock W1.heap.size w9 v' ((outs ++ [((⟨i, e.text, ([] : List Int)⟩ : CT), 0)]).map (fun c : CT × Nat => c.1))) := Lib.hid (by
                rw [List.map_append]
                refine rowM_step (us := [.int .i64 i, .string e.text, .slice none 0 0]) (wr := W8) (m := wr.heap.size) (w3 := W8.alloc (.cells ([.int .i64 i, .string e.text, .slice none 0 0] : List Value).toArray 57)) (by omega) HB8.out.size (fun b h => (HMY4.out.lt b h).2) HCL.out HCA.out ?_ ((Below.refl _ _).alloc HB8.out.size _) (by rw [List.length_map, HOL.out]; exact ho) hg (by simpa using hv)
                refine ccells_mk (c := (⟨i, e.text, ([] : List Int)⟩ : CT)) (At.keep (fun p hp => World.cell?_alloc_lt _ _ _ hp.2.lt) (fun g h => ⟨h.1, h.2.below (Below.alloc (Below.refl _ _) (Nat.le_refl _) _) h.2.lt⟩) HN8.out))
              have HMY9 : Hid (w9.ownsRow W1.heap.size 3 1 (.slice Am m cm) m (outs.map fun c => Value.int .i64 ((c.2 : Nat) : Int))) := Lib.hid ((own_below HMY4.out HB9.out).kept hg HAQ.out)
              have hob : v'.ownBlock = none ∨ v'.ownBlock ≠ (Value.slice Am m cm).ownBlock := by
                rcases hv with h | h
                · rw [h]; exact HAP.out
                · rw [h]
                  refine .inr fun e => ?_
                  have h9 := (HMY4.out.lt _ e.symm).2
                  have h8 := HB8.out.size
                  omega
              have HB10 : Hid (But (fun g => W1.heap.size ≤ g) W1 w9) := Lib.hid (((But.of_below (HBW.out.trans ((HOB.out.mono hzr).trans (HB9.out.mono (by omega))))).mono (fun g h => h)).trans (But.grown hg (fun r h => hlt5 r h)))
              have hz9 : W1.heap.size ≤ w9.heap.size := HB10.out.size
              have HOB' := Lib.hid hob
              obtain ⟨j0, hj1, hj2, hj3, hj4⟩ := info_parts infoInt
              have hmy9 := HMY9.out
              clear ho hg hv hob hco hi1 hi2 hi3 hi4 y0 y1 y2 hlt5
              go_wp2_with (at_builtin; refine wpList_append_any _ rfl (.tmp 165) (.tmp 167) 52 rfl W1.heap.size 3 j0 _ 1 8 Tryz.underlying52 hj1 hj2 hj3 hj4 rfl (by decide) _ _ (outs.map fun c => Value.int .i64 ((c.2 : Nat) : Int)) rfl (hmy9.alloc _) (w9.heap.size + 1) (some ⟨w9.heap.size, 0, none⟩) 1 1 [.int .i64 ((0 : Nat) : Int)] rfl ?ek21 ?ek22 ?ek23 ?ek24 ?ek25 ?_)
              case ek21 => exact ⟨rfl, fun _ => ⟨_, rfl, by simp, fun j u hu => cells_new w9 [.int .i64 ((0 : Nat) : Int)] _ j u hu⟩⟩
              case ek22 => intro u hu; simp only [List.mem_cons, List.not_mem_nil, or_false] at hu; rw [hu]; rfl
              case ek23 => unfold maxLen; omega
              case ek24 => omega
              case ek25 => simp; omega
              intro vm wA ho2 hg2 hv2
              have HRG2 : Hid (RowG bare 57 3 ccells vm.ownBlock W1.heap.size wA v' ((outs ++ [((⟨i, e.text, ([] : List Int)⟩ : CT), 0)]).map (fun c : CT × Nat => c.1))) := Lib.hid (rowG_push (rowG_below HRG.out ((Below.refl _ w9).alloc (Nat.le_refl _) _)) hg2 HOB'.out (by simpa using hv2))
              have HBF : Hid (Below W1.heap.size W1 wA) := Lib.hid (((HB10.out.alloc _).trans (But.grown hg2 (fun r h => (hmy9.lt r h).1))).below (Nat.le_refl _) (fun g hg h => by omega))
              have HS2 : Hid (CellSr W1 l d R (m + 1) v' vm wA) := Lib.hid ⟨outs ++ [((⟨i, e.text, ([] : List Int)⟩ : CT), 0)], HST2.out, HRG2.out, (by rw [List.map_append]; exact ho2), HBF.out, (by simp [HOL.out]), fun j => by
                rw [sumK_snoc]
                split
                · rename_i h
                  dsimp only at h
                  have : j = i := by exact_mod_cast h.symm
                  subst this; exact hn1
                · have := HSUM.out j; omega⟩
              clear ho2 hg2 hv2 hmy9 hj1 hj2 hj3 hj4
              go_wp2_with fail
              go_roundw
              case rel => exact ⟨m + 1, by omega, by go_num, HS2⟩
              case measure => simp [intOf]; omega
        · skip
          have hw : wantN ⟨f0, 3, f2, f3, f4, f5, f6⟩ = 1 := rfl
          obtain ⟨hn0, hn1⟩ | ⟨hn0, hn1⟩ := neq_ways e.nums.length 1
          rotate_left
          · have HKO : Hid (SchP.kindOk ⟨f0, 3, f2, f3, f4, f5, f6⟩ e.text e.nums = false) := Lib.hid (by unfold SchP.kindOk; rw [hw, decide_eq_false hn0]; rfl)
            clear hn0
            have HER : Hid (R = .error 82) := Lib.hid (by have := HST.out; rw [stepF_82 HFI'.out HLI.out HKO.out] at this; exact this.symm)
            clear HST
            go_wp2_with fail
            go_ret2
            rw [HCF.out, HER.out]
            exact ⟨HW4.out, rfl⟩
          obtain ⟨t0, t1⟩ | ⟨t0, t1⟩ := empty_ways e.text
          rotate_left
          · have HKO : Hid (SchP.kindOk ⟨f0, 3, f2, f3, f4, f5, f6⟩ e.text e.nums = false) := Lib.hid (by unfold SchP.kindOk; rw [hw, decide_eq_false t0, decide_eq_false (p := ((_ : Int) ≤ 0)) (by omega)]; simp)
            clear hn0 t0
            have HER : Hid (R = .error 82) := Lib.hid (by have := HST.out; rw [stepF_82 HFI'.out HLI.out HKO.out] at this; exact this.symm)
            clear HST
            go_wp2_with fail
            go_ret2
            rw [HCF.out, HER.out]
            exact ⟨HW4.out, rfl⟩
          have HKO : Hid (SchP.kindOk ⟨f0, 3, f2, f3, f4, f5, f6⟩ e.text e.nums = true) := Lib.hid (by unfold SchP.kindOk; rw [hw, decide_eq_true hn0, decide_eq_true t0]; simp)
          have HN0 := Lib.hid hn0
          clear hn0
          go_wp2_with fail
          clear hn1 hnm htx
          go_loopw [13, 14] (fun a n wq => ∃ m : Nat, m ≤ k ∧ n = .int .i64 m ∧ a = .int .i64 ((sumK i (outs.take m) : Nat) : Int) ∧ Hid (f5 = false → ofK i (outs.take m) = []) ∧ wq = W4) (fun _ n _ => k - (intOf n).toNat)
          case atStart => exact ⟨0, by omega, rfl, by simp [sumK, ofK], Lib.hid (by simp [ofK]), rfl⟩
          case round =>
            obtain ⟨m, hmk, rfl, rfl, HFL, rfl⟩ := hrel
            by_cases hmlt : m < k
            · have hmo : m < outs.length := by have := HOL.out; omega
              obtain ⟨g, rfl, hgl, hcell⟩ := outs_cell (outs := outs.map (·.1)) (by rw [List.length_map, HOL.out]; exact HRW4.out) (n := m) (by rw [List.length_map]; exact hmo)
              obtain ⟨g', rfl, hmc⟩ := many_cell HMY4.out hmo HOL.out
              rw [List.getElem_map] at hcell
              have HT1 := Lib.hid (ofK_take_succ (i := i) hmo)
              have HT2 := Lib.hid (sumK_take_succ (i := i) hmo)
              have hs1 : sumK i (outs.take m) ≤ 4096 := Nat.le_trans (sumK_take_le outs m i) (HSUM.out i)
              have hs2 : sumK i (outs.take (m + 1)) ≤ 4096 := Nat.le_trans (sumK_take_le outs (m + 1) i) (HSUM.out i)
              have HMEM : Hid (outs[m] ∈ outs) := Lib.hid (List.getElem_mem hmo)
              generalize outs[m] = oc at *
              obtain ⟨oc, on⟩ := oc
              obtain ⟨o1, o2, o3⟩ := oc
              dsimp only at *
              have hml2 : (m : Int) < (k : Int) := by omega
              by_cases hfe : o1 = i
              · have hbe : (o1 == (i : Int)) = true := by simpa using hfe
                cases f5 with
                | true =>
                  have HS3 : Hid (((sumK i (outs.take m) : Nat) : Int) + (on : Int) = ((sumK i (outs.take (m + 1)) : Nat) : Int)) := Lib.hid (by rw [HT2.out, if_pos hfe]; push_cast; rfl)
                  have hon : sumK i (outs.take m) + on ≤ 4096 := by have := HT2.out; rw [if_pos hfe] at this; omega
                  clear hfe
                  go_wp2_with fail
                  rw [HS3.out]
                  go_roundw
                  case rel => exact ⟨m + 1, by omega, by go_num, rfl, Lib.hid (fun h => by cases h), trivial⟩
                  case measure => simp [intOf]; omega
                | false =>
                  have HMF : Hid ((false || decide ((ofK i outs).length = 0)) = false) := Lib.hid (by
                    rw [Bool.false_or, decide_eq_false_iff_not]
                    intro h0
                    have hmem : (({ field := o1, text := o2, nums := o3 } : CT), on) ∈ ofK i outs := List.mem_filter.2 ⟨HMEM.out, by simpa using hfe⟩
                    rw [List.eq_nil_of_length_eq_zero h0] at hmem
                    cases hmem)
                  clear hfe hs2
                  have HER : Hid (R = .error 84) := Lib.hid (by have := HST.out; rw [stepF_84 HFI'.out HLI.out HKO.out HMF.out] at this; exact this.symm)
                  clear HST
                  go_wp2_with fail
                  go_ret2
                  rw [HCF.out, HER.out]
                  exact ⟨HW4.out, rfl⟩
              · have hbe : (o1 == (i : Int)) = false := by simpa using hfe
                have HS3 : Hid (sumK i (outs.take (m + 1)) = sumK i (outs.take m)) := Lib.hid (by rw [HT2.out, if_neg hfe]; rfl)
                have HS4 : Hid (f5 = false → ofK i (outs.take (m + 1)) = []) := Lib.hid (fun h => by rw [HT1.out, HFL.out h, if_neg hfe]; rfl)
                clear hfe hs2
                go_wp2_with fail
                go_roundw
                case rel => exact ⟨m + 1, by omega, by go_num, by rw [HS3.out], HS4, trivial⟩
                case measure => simp [intOf]; omega
            · obtain rfl : m = k := by omega
              have HMN : Hid ((f5 || decide ((ofK i outs).length = 0)) = true) := Lib.hid (by
                cases h5 : f5 with
                | true => rfl
                | false =>
                  have := HFL.out h5
                  rw [List.take_of_length_le (by have := HOL.out; omega)] at this
                  rw [this]; rfl)
              have htk : outs.take m = outs := List.take_of_length_le (by have := HOL.out; omega)
              have hsi := HSUM.out i
              rw [htk]
              have hsi2 := hsi
              go_upto_region 31 with fail
              have BC := Lib.hid (Blk.new wr 57 #[.int .i64 i, .string ⟨#[]⟩, .slice none 0 0])
              have HB5 := Lib.hid ((Below.refl _ wr).alloc (Nat.le_refl _) (.cells #[.int .i64 i, .string ⟨#[]⟩, .slice none 0 0] 57))
              have hz5 : wr.heap.size + 1 ≤ (wr.alloc (.cells #[.int .i64 i, .string ⟨#[]⟩, .slice none 0 0] 57)).heap.size := by simp
              generalize wr.alloc (.cells #[.int .i64 i, .string ⟨#[]⟩, .slice none 0 0] 57) = W5 at *
              have HW5 : Hid (Below w.heap.size w W5) := Lib.hid (HW4.out.trans (HB5.out.mono HW4.out.size))
              have BE5 := Lib.hid (BE4.out.below HB5.out (by omega))
              have x1 : W5.cell? ⟨wo.heap.size, 1, none⟩ = some (.string e.text) := BE5.out.cell 1
              have x2 : W5.cell? ⟨wo.heap.size, 2, none⟩ = some (.slice Y e.nums.length z2) := BE5.out.cell 2
              obtain ⟨p0, p1, p2, p3, p4, p5, p6⟩ := blk7 (BF.out.below HB5.out (by omega))
              have HV : Hid (valueF decO runO ⟨f0, 3, f2, f3, f4, f5, f6⟩ i e = some (⟨i, ⟨#[]⟩, e.nums⟩, 0)) := Lib.hid (by unfold valueF; rw [if_neg (by dsimp only; decide), if_neg (by dsimp only; decide), if_neg (by dsimp only; decide)])
              have hn1 : sumK i outs + 0 ≤ 4096 := by omega
              obtain ⟨_, _, he, hz, hm, hrd⟩ := at_nums HEC.out
              injection he with e1 _ e3
              subst e1 e3
              have HRD := Lib.hid ((hrd.below HW5.out).more HW5.out.size)
              have HLN := Lib.hid HEO.out.nums.1
              obtain ⟨k0, hk1, hk2, hk3, hk4⟩ := info_parts infoI64
              have c1 : W5.cell? ⟨wr.heap.size, 2, none⟩ = some (.slice none 0 0) := BC.out.cell 2
              have c2 : W5.frozen? ⟨wr.heap.size, 2, none⟩ = false := BC.out.frozen 2
              clear hrd hz hm
              go_wp2_with (at_builtin; refine wpList_append_any _ rfl (.tmp 109) (.tmp 111) 55 rfl W5.heap.size 2 k0 (.int .i64 0) 1 8 Tryz.underlying55 hk1 hk2 hk3 hk4 rfl (by decide) (.slice none 0 0) 0 [] rfl (World.ownsRow_nil _ _ _ _) W5.heap.size Y e.nums.length z2 (e.nums.map (Value.int .i64)) rfl HRD.out ?ck32 ?ck33 ?ck34 ?ck35 ?_)
              case ck32 => first | (intro u hu; obtain ⟨y, _, rfl⟩ := List.mem_map.1 hu; rfl) | (intro u hu; rfl)
              case ck33 => have := HLN.out; unfold maxLen; omega
              case ck34 => have := HLN.out; omega
              try (case ck35 => omega)
              intro v1 W6 ho1 hg1 _
              replace ho1 : W6.ownsRow W5.heap.size 2 1 v1 e.nums.length (e.nums.map (Value.int .i64)) := by simpa using ho1
              have hb6 : Below W5.heap.size W5 W6 := (Below.refl _ W5).grown hg1 (by simp) (fun r e => by simp [Value.ownBlock] at e)
              have HAT := Lib.hid (nums_cells ho1)
              obtain ⟨P0, z3, rfl, _, _⟩ := at_slice HAT.out
              have BC6 := Lib.hid (BC.out.below hb6 BC.out.lt)
              have HB6 := Lib.hid (HB5.out.trans (hb6.mono (by omega)))
              have c1' : W6.cell? ⟨wr.heap.size, 2, none⟩ = some (.slice none 0 0) := BC6.out.cell 2
              have c2' : W6.frozen? ⟨wr.heap.size, 2, none⟩ = false := BC6.out.frozen 2
              have hz6 := hb6.size
              clear ho1 hg1 hb6 c1 c2 x1 x2 p0 p1 p2 p3 p4 p5 p6
              go_upto_region 49 with fail
              have BC8 : Hid (Blk (W6.setCell ⟨wr.heap.size, 2, none⟩ (.slice P0 e.nums.length z3)) wr.heap.size 57 #[.int .i64 i, .string ⟨#[]⟩, .slice P0 e.nums.length z3]) := Lib.hid (BC6.out.set_ 2 _)
              have HB8 : Hid (Below wr.heap.size wr (W6.setCell ⟨wr.heap.size, 2, none⟩ (.slice P0 e.nums.length z3))) := Lib.hid (HB6.out.setCell (Nat.le_refl _) _)
              have HN8 : Hid (T.At bare (W6.setCell ⟨wr.heap.size, 2, none⟩ (.slice P0 e.nums.length z3)) (fun g => wr.heap.size ≤ g ∧ CellsAt (W6.setCell ⟨wr.heap.size, 2, none⟩ (.slice P0 e.nums.length z3)) g) (numsT .i64 e.nums) (.slice P0 e.nums.length z3)) :=
                Lib.hid (At.keep (fun p hp => World.cell?_setCell_other _ _ _ _ (by intro h; rw [← h] at hp; exact absurd hp.1 (by show ¬ W5.heap.size ≤ wr.heap.size; omega))) (fun g h => ⟨by omega, h.2.set _ _⟩) HAT.out)
              clear HB6 BC6 c1' c2' HAT
              generalize W6.setCell ⟨wr.heap.size, 2, none⟩ (.slice P0 e.nums.length z3) = W8 at *
              have HST2 : Hid (goF decO runO l (outs ++ [((⟨i, ⟨#[]⟩, e.nums⟩ : CT), 0)]) (d.drop (m + 1)) = R) := Lib.hid (by have := HST.out; rw [stepF_ok HFI'.out HLI.out HKO.out HMN.out HV.out (fun _ => hn1)] at this; exact this)
              obtain ⟨xs, hco, hcl, hca⟩ := rowM_of HRW4.out HB8.out
              have HCA := Lib.hid hca; have HCL := Lib.hid hcl
              rw [List.length_map, HOL.out] at hco
              have HAP := Lib.hid (own_apart HRW4.out.choose_spec.1 HMY4.out (by decide))
              have HAQ := Lib.hid (own_apart HMY4.out HRW4.out.choose_spec.1 (by decide))
              have y0 : W8.cell? ⟨wr.heap.size, 0, none⟩ = some (.int .i64 i) := BC8.out.cell 0
              have y1 : W8.cell? ⟨wr.heap.size, 1, none⟩ = some (.string ⟨#[]⟩) := BC8.out.cell 1
              have y2 : W8.cell? ⟨wr.heap.size, 2, none⟩ = some (.slice P0 e.nums.length z3) := BC8.out.cell 2
              obtain ⟨i0, hi1, hi2, hi3, hi4⟩ := info_parts infoC
              clear hca hcl HST
              go_wp2_with (at_builtin; refine wpList_append_any _ rfl (.tmp 161) (.tmp 163) 25 rfl W1.heap.size 57 i0 _ 3 48 Tryz.underlying25 hi1 hi2 hi3 hi4 rfl (by decide) _ _ xs rfl (hco.alloc _) (W8.heap.size + 1) (some ⟨W8.heap.size, 0, none⟩) 1 1 [.int .i64 i, .string ⟨#[]⟩, .slice P0 e.nums.length z3] rfl ?dk31 ?dk32 ?dk33 ?dk34 ?dk35 ?_)
              case dk31 => exact ⟨rfl, fun _ => ⟨_, rfl, by simp, fun j u hu => cells_new W8 [.int .i64 i, .string ⟨#[]⟩, .slice P0 e.nums.length z3] _ j u hu⟩⟩
              case dk32 => first | (intro u hu; simp only [List.mem_cons, List.not_mem_nil, or_false] at hu; rcases hu with rfl | rfl | rfl <;> rfl) | simp [Value.oneCell']
              case dk33 => unfold maxLen; omega
              case dk34 => omega
              case dk35 => have := HB8.out.size; simp; omega
              intro v' w9 ho hg hv
              have hlt5 : ∀ r, (Value.slice Ao m co).ownBlock = some r → W1.heap.size ≤ r := fun r h => (hco.lt r h).1
              have HB9 : Hid (Below wr.heap.size wr (W8.alloc (.cells ([.int .i64 i, .string ⟨#[]⟩, .slice P0 e.nums.length z3] : List Value).toArray 57))) := Lib.hid (HB8.out.alloc HB8.out.size _)
              have HRG : Hid (RowG bare 57 3 ccells (Value.slice Am m cm).ownBlock W1.heap.size w9 v' ((outs ++ [((⟨i, ⟨#[]⟩, e.nums⟩ : CT), 0)]).map (fun c : CT × Nat => c.1))) := Lib.hid (by
                rw [List.map_append]
                refine rowM_step (us := [.int .i64 i, .string ⟨#[]⟩, .slice P0 e.nums.length z3]) (wr := W8) (m := wr.heap.size) (w3 := W8.alloc (.cells ([.int .i64 i, .string ⟨#[]⟩, .slice P0 e.nums.length z3] : List Value).toArray 57)) (by omega) HB8.out.size (fun b h => (HMY4.out.lt b h).2) HCL.out HCA.out ?_ ((Below.refl _ _).alloc HB8.out.size _) (by rw [List.length_map, HOL.out]; exact ho) hg (by simpa using hv)
                refine ccells_mk (c := (⟨i, ⟨#[]⟩, e.nums⟩ : CT)) (At.keep (fun p hp => World.cell?_alloc_lt _ _ _ hp.2.lt) (fun g h => ⟨h.1, h.2.below (Below.alloc (Below.refl _ _) (Nat.le_refl _) _) h.2.lt⟩) HN8.out))
              have HMY9 : Hid (w9.ownsRow W1.heap.size 3 1 (.slice Am m cm) m (outs.map fun c => Value.int .i64 ((c.2 : Nat) : Int))) := Lib.hid ((own_below HMY4.out HB9.out).kept hg HAQ.out)
              have hob : v'.ownBlock = none ∨ v'.ownBlock ≠ (Value.slice Am m cm).ownBlock := by
                rcases hv with h | h
                · rw [h]; exact HAP.out
                · rw [h]
                  refine .inr fun e => ?_
                  have h9 := (HMY4.out.lt _ e.symm).2
                  have h8 := HB8.out.size
                  omega
              have HB10 : Hid (But (fun g => W1.heap.size ≤ g) W1 w9) := Lib.hid (((But.of_below (HBW.out.trans ((HOB.out.mono hzr).trans (HB9.out.mono (by omega))))).mono (fun g h => h)).trans (But.grown hg (fun r h => hlt5 r h)))
              have hz9 : W1.heap.size ≤ w9.heap.size := HB10.out.size
              have HOB' := Lib.hid hob
              obtain ⟨j0, hj1, hj2, hj3, hj4⟩ := info_parts infoInt
              have hmy9 := HMY9.out
              clear ho hg hv hob hco hi1 hi2 hi3 hi4 y0 y1 y2 hlt5
              go_wp2_with (at_builtin; refine wpList_append_any _ rfl (.tmp 165) (.tmp 167) 52 rfl W1.heap.size 3 j0 _ 1 8 Tryz.underlying52 hj1 hj2 hj3 hj4 rfl (by decide) _ _ (outs.map fun c => Value.int .i64 ((c.2 : Nat) : Int)) rfl (hmy9.alloc _) (w9.heap.size + 1) (some ⟨w9.heap.size, 0, none⟩) 1 1 [.int .i64 ((0 : Nat) : Int)] rfl ?ek31 ?ek32 ?ek33 ?ek34 ?ek35 ?_)
              case ek31 => exact ⟨rfl, fun _ => ⟨_, rfl, by simp, fun j u hu => cells_new w9 [.int .i64 ((0 : Nat) : Int)] _ j u hu⟩⟩
              case ek32 => intro u hu; simp only [List.mem_cons, List.not_mem_nil, or_false] at hu; rw [hu]; rfl
              case ek33 => unfold maxLen; omega
              case ek34 => omega
              case ek35 => simp; omega
              intro vm wA ho2 hg2 hv2
              have HRG2 : Hid (RowG bare 57 3 ccells vm.ownBlock W1.heap.size wA v' ((outs ++ [((⟨i, ⟨#[]⟩, e.nums⟩ : CT), 0)]).map (fun c : CT × Nat => c.1))) := Lib.hid (rowG_push (rowG_below HRG.out ((Below.refl _ w9).alloc (Nat.le_refl _) _)) hg2 HOB'.out (by simpa using hv2))
              have HBF : Hid (Below W1.heap.size W1 wA) := Lib.hid (((HB10.out.alloc _).trans (But.grown hg2 (fun r h => (hmy9.lt r h).1))).below (Nat.le_refl _) (fun g hg h => by omega))
              have HS2 : Hid (CellSr W1 l d R (m + 1) v' vm wA) := Lib.hid ⟨outs ++ [((⟨i, ⟨#[]⟩, e.nums⟩ : CT), 0)], HST2.out, HRG2.out, (by rw [List.map_append]; exact ho2), HBF.out, (by simp [HOL.out]), fun j => by
                rw [sumK_snoc]
                split
                · rename_i h
                  dsimp only at h
                  have : j = i := by exact_mod_cast h.symm
                  subst this; exact hn1
                · have := HSUM.out j; omega⟩
              clear ho2 hg2 hv2 hmy9 hj1 hj2 hj3 hj4
              go_wp2_with fail
              go_roundw
              case rel => exact ⟨m + 1, by omega, by go_num, HS2⟩
              case measure => simp [intOf]; omega
        · skip
          have hw : wantN ⟨f0, 4, f2, f3, f4, f5, f6⟩ = 0 := rfl
          obtain ⟨hn0, hn1⟩ | ⟨hn0, hn1⟩ := neq_ways e.nums.length 0
          rotate_left
          · have HKO : Hid (SchP.kindOk ⟨f0, 4, f2, f3, f4, f5, f6⟩ e.text e.nums = false) := Lib.hid (by unfold SchP.kindOk; rw [hw, decide_eq_false hn0]; rfl)
            clear hn0
            have HER : Hid (R = .error 82) := Lib.hid (by have := HST.out; rw [stepF_82 HFI'.out HLI.out HKO.out] at this; exact this.symm)
            clear HST
            go_wp2_with fail
            go_ret2
            rw [HCF.out, HER.out]
            exact ⟨HW4.out, rfl⟩
          have HKO : Hid (SchP.kindOk ⟨f0, 4, f2, f3, f4, f5, f6⟩ e.text e.nums = true) := Lib.hid (by unfold SchP.kindOk; rw [hw, decide_eq_true hn0, decide_eq_true (p := ((0 : Int) ≤ 0)) (by omega)]; simp)
          have HN0 := Lib.hid hn0
          clear hn0
          go_wp2_with fail
          clear hn1 hnm htx
          go_loopw [13, 14] (fun a n wq => ∃ m : Nat, m ≤ k ∧ n = .int .i64 m ∧ a = .int .i64 ((sumK i (outs.take m) : Nat) : Int) ∧ Hid (f5 = false → ofK i (outs.take m) = []) ∧ wq = W4) (fun _ n _ => k - (intOf n).toNat)
          case atStart => exact ⟨0, by omega, rfl, by simp [sumK, ofK], Lib.hid (by simp [ofK]), rfl⟩
          case round =>
            obtain ⟨m, hmk, rfl, rfl, HFL, rfl⟩ := hrel
            by_cases hmlt : m < k
            · have hmo : m < outs.length := by have := HOL.out; omega
              obtain ⟨g, rfl, hgl, hcell⟩ := outs_cell (outs := outs.map (·.1)) (by rw [List.length_map, HOL.out]; exact HRW4.out) (n := m) (by rw [List.length_map]; exact hmo)
              obtain ⟨g', rfl, hmc⟩ := many_cell HMY4.out hmo HOL.out
              rw [List.getElem_map] at hcell
              have HT1 := Lib.hid (ofK_take_succ (i := i) hmo)
              have HT2 := Lib.hid (sumK_take_succ (i := i) hmo)
              have hs1 : sumK i (outs.take m) ≤ 4096 := Nat.le_trans (sumK_take_le outs m i) (HSUM.out i)
              have hs2 : sumK i (outs.take (m + 1)) ≤ 4096 := Nat.le_trans (sumK_take_le outs (m + 1) i) (HSUM.out i)
              have HMEM : Hid (outs[m] ∈ outs) := Lib.hid (List.getElem_mem hmo)
              generalize outs[m] = oc at *
              obtain ⟨oc, on⟩ := oc
              obtain ⟨o1, o2, o3⟩ := oc
              dsimp only at *
              have hml2 : (m : Int) < (k : Int) := by omega
              by_cases hfe : o1 = i
              · have hbe : (o1 == (i : Int)) = true := by simpa using hfe
                cases f5 with
                | true =>
                  have HS3 : Hid (((sumK i (outs.take m) : Nat) : Int) + (on : Int) = ((sumK i (outs.take (m + 1)) : Nat) : Int)) := Lib.hid (by rw [HT2.out, if_pos hfe]; push_cast; rfl)
                  have hon : sumK i (outs.take m) + on ≤ 4096 := by have := HT2.out; rw [if_pos hfe] at this; omega
                  clear hfe
                  go_wp2_with fail
                  rw [HS3.out]
                  go_roundw
                  case rel => exact ⟨m + 1, by omega, by go_num, rfl, Lib.hid (fun h => by cases h), trivial⟩
                  case measure => simp [intOf]; omega
                | false =>
                  have HMF : Hid ((false || decide ((ofK i outs).length = 0)) = false) := Lib.hid (by
                    rw [Bool.false_or, decide_eq_false_iff_not]
                    intro h0
                    have hmem : (({ field := o1, text := o2, nums := o3 } : CT), on) ∈ ofK i outs := List.mem_filter.2 ⟨HMEM.out, by simpa using hfe⟩
                    rw [List.eq_nil_of_length_eq_zero h0] at hmem
                    cases hmem)
                  clear hfe hs2
                  have HER : Hid (R = .error 84) := Lib.hid (by have := HST.out; rw [stepF_84 HFI'.out HLI.out HKO.out HMF.out] at this; exact this.symm)
                  clear HST
                  go_wp2_with fail
                  go_ret2
                  rw [HCF.out, HER.out]
                  exact ⟨HW4.out, rfl⟩
              · have hbe : (o1 == (i : Int)) = false := by simpa using hfe
                have HS3 : Hid (sumK i (outs.take (m + 1)) = sumK i (outs.take m)) := Lib.hid (by rw [HT2.out, if_neg hfe]; rfl)
                have HS4 : Hid (f5 = false → ofK i (outs.take (m + 1)) = []) := Lib.hid (fun h => by rw [HT1.out, HFL.out h, if_neg hfe]; rfl)
                clear hfe hs2
                go_wp2_with fail
                go_roundw
                case rel => exact ⟨m + 1, by omega, by go_num, by rw [HS3.out], HS4, trivial⟩
                case measure => simp [intOf]; omega
            · obtain rfl : m = k := by omega
              have HMN : Hid ((f5 || decide ((ofK i outs).length = 0)) = true) := Lib.hid (by
                cases h5 : f5 with
                | true => rfl
                | false =>
                  have := HFL.out h5
                  rw [List.take_of_length_le (by have := HOL.out; omega)] at this
                  rw [this]; rfl)
              have htk : outs.take m = outs := List.take_of_length_le (by have := HOL.out; omega)
              have hsi := HSUM.out i
              rw [htk]
              have hsi2 := hsi
              go_upto_region 31 with fail
              have BC := Lib.hid (Blk.new wr 57 #[.int .i64 i, .string ⟨#[]⟩, .slice none 0 0])
              have HB5 := Lib.hid ((Below.refl _ wr).alloc (Nat.le_refl _) (.cells #[.int .i64 i, .string ⟨#[]⟩, .slice none 0 0] 57))
              have hz5 : wr.heap.size + 1 ≤ (wr.alloc (.cells #[.int .i64 i, .string ⟨#[]⟩, .slice none 0 0] 57)).heap.size := by simp
              generalize wr.alloc (.cells #[.int .i64 i, .string ⟨#[]⟩, .slice none 0 0] 57) = W5 at *
              have HW5 : Hid (Below w.heap.size w W5) := Lib.hid (HW4.out.trans (HB5.out.mono HW4.out.size))
              have BE5 := Lib.hid (BE4.out.below HB5.out (by omega))
              have x1 : W5.cell? ⟨wo.heap.size, 1, none⟩ = some (.string e.text) := BE5.out.cell 1
              have x2 : W5.cell? ⟨wo.heap.size, 2, none⟩ = some (.slice Y e.nums.length z2) := BE5.out.cell 2
              obtain ⟨p0, p1, p2, p3, p4, p5, p6⟩ := blk7 (BF.out.below HB5.out (by omega))
              have HDC := Lib.hid (OrdRef.refDec_any e.text f3 W5 HEO.out.text)
              have HWY := Lib.hid (decO_ways ⟨f0, 4, f2, f3, f4, f5, f6⟩ e.text)
              have HVF : Hid (valueF decO runO ⟨f0, 4, f2, f3, f4, f5, f6⟩ i e = (decO ⟨f0, 4, f2, f3, f4, f5, f6⟩ e.text).map fun n => (⟨i, ⟨#[]⟩, [n]⟩, 0)) := Lib.hid (by
                unfold valueF
                rw [if_neg (by dsimp only; decide), if_neg (by dsimp only; decide), if_pos rfl])
              go_wp2_with fail
              refine HDC.out.mono ?_
              rintro e' W6 ⟨rfl, hb⟩
              have HB6 := Lib.hid (HB5.out.trans (hb.mono (by omega)) : Below wr.heap.size wr W6)
              have BC6 := Lib.hid (BC.out.below hb BC.out.lt)
              have HW6 : Hid (Below w.heap.size w W6) := Lib.hid (HW4.out.trans (HB6.out.mono HW4.out.size))
              have hz6 := hb.size
              clear x1 x2 p0 p1 p2 p3 p4 p5 p6 hb
              obtain ⟨dn, hdn⟩ : ∃ dn, OrdRef.decN e.text.data.toList f3 = dn := ⟨_, rfl⟩
              obtain ⟨de, hde⟩ : ∃ de, OrdRef.decE e.text.data.toList f3 = de := ⟨_, rfl⟩
              have HDN := Lib.hid hdn
              rw [hdn, hde]
              obtain ⟨n, h1, h2, h3⟩ | ⟨h1, h2⟩ := HWY.out
              rotate_left
              · have HNO := Lib.hid h1
                have hde2 : (de != 0) = true := by rw [← hde]; unfold bne; rw [h2]; rfl
                clear h1 h2 hdn hde
                have HER : Hid (R = .error 83) := Lib.hid (by have := HST.out; rw [stepF_83 HFI'.out HLI.out HKO.out HMN.out (fun c n h => by rw [HVF.out, HNO.out] at h; cases h)] at this; exact this.symm)
                clear HST
                go_wp2_with fail
                go_ret2
                rw [HCF.out, HER.out]
                exact ⟨HW6.out, rfl⟩
              have hdn2 : n = dn := by rw [← hdn]; exact h2.symm
              have hde2 : de = 0 := by rw [← hde]; exact h3
              subst hdn2 hde2
              have HV : Hid (valueF decO runO ⟨f0, 4, f2, f3, f4, f5, f6⟩ i e = some (⟨i, ⟨#[]⟩, [n]⟩, 0)) := Lib.hid (by rw [HVF.out, h1]; rfl)
              have hn1 : sumK i outs + 0 ≤ 4096 := by omega
              have c1 : W6.cell? ⟨wr.heap.size, 2, none⟩ = some (.slice none 0 0) := BC6.out.cell 2
              have c2 : W6.frozen? ⟨wr.heap.size, 2, none⟩ = false := BC6.out.frozen 2
              have hc3 : wr.heap.size < W6.heap.size := by omega
              clear h1 h2 h3 hdn hde
              go_upto_region 49 with fail
              have hse : (W6.setCell ⟨wr.heap.size, 2, none⟩ (.slice (some ⟨W6.heap.size, 0, none⟩) 1 1)).heap.size = W6.heap.size := by simp [World.setCell]
              have hA := nums_one (W6.setCell ⟨wr.heap.size, 2, none⟩ (.slice (some ⟨W6.heap.size, 0, none⟩) 1 1)) n
              rw [hse] at hA
              have BC8 : Hid (Blk ((W6.setCell ⟨wr.heap.size, 2, none⟩ (.slice (some ⟨W6.heap.size, 0, none⟩) 1 1)).alloc (.cells #[.int .i64 n] 2)) wr.heap.size 57 #[.int .i64 i, .string ⟨#[]⟩, .slice (some ⟨W6.heap.size, 0, none⟩) 1 1]) := Lib.hid ((BC6.out.set_ 2 _).alloc _)
              have HB8 : Hid (Below wr.heap.size wr ((W6.setCell ⟨wr.heap.size, 2, none⟩ (.slice (some ⟨W6.heap.size, 0, none⟩) 1 1)).alloc (.cells #[.int .i64 n] 2))) := Lib.hid ((HB6.out.setCell (Nat.le_refl _) _).alloc (by rw [hse]; omega) _)
              have HN8 : Hid (T.At bare ((W6.setCell ⟨wr.heap.size, 2, none⟩ (.slice (some ⟨W6.heap.size, 0, none⟩) 1 1)).alloc (.cells #[.int .i64 n] 2)) (fun g => wr.heap.size ≤ g ∧ CellsAt ((W6.setCell ⟨wr.heap.size, 2, none⟩ (.slice (some ⟨W6.heap.size, 0, none⟩) 1 1)).alloc (.cells #[.int .i64 n] 2)) g) (numsT .i64 [n]) (.slice (some ⟨W6.heap.size, 0, none⟩) 1 1)) := Lib.hid (At.keep (fun _ _ => rfl) (fun g h => ⟨by omega, h.2⟩) hA)
              clear HB6 BC6 c1 c2 hc3 hse hA
              obtain ⟨PP, hPP⟩ : ∃ PP : Addr, PP = ⟨W6.heap.size, 0, none⟩ := ⟨_, rfl⟩
              rw [← hPP] at BC8 HN8 HB8 ⊢
              clear hPP
              generalize (W6.setCell ⟨wr.heap.size, 2, none⟩ (.slice (some PP) 1 1)).alloc (.cells #[.int .i64 n] 2) = W8 at *
              have HST2 : Hid (goF decO runO l (outs ++ [((⟨i, ⟨#[]⟩, [n]⟩ : CT), 0)]) (d.drop (m + 1)) = R) := Lib.hid (by have := HST.out; rw [stepF_ok HFI'.out HLI.out HKO.out HMN.out HV.out (fun _ => hn1)] at this; exact this)
              obtain ⟨xs, hco, hcl, hca⟩ := rowM_of HRW4.out HB8.out
              have HCA := Lib.hid hca; have HCL := Lib.hid hcl
              rw [List.length_map, HOL.out] at hco
              have HAP := Lib.hid (own_apart HRW4.out.choose_spec.1 HMY4.out (by decide))
              have HAQ := Lib.hid (own_apart HMY4.out HRW4.out.choose_spec.1 (by decide))
              have y0 : W8.cell? ⟨wr.heap.size, 0, none⟩ = some (.int .i64 i) := BC8.out.cell 0
              have y1 : W8.cell? ⟨wr.heap.size, 1, none⟩ = some (.string ⟨#[]⟩) := BC8.out.cell 1
              have y2 : W8.cell? ⟨wr.heap.size, 2, none⟩ = some (.slice (some PP) 1 1) := BC8.out.cell 2
              obtain ⟨i0, hi1, hi2, hi3, hi4⟩ := info_parts infoC
              clear hca hcl HST
              go_wp2_with (at_builtin; refine wpList_append_any _ rfl (.tmp 161) (.tmp 163) 25 rfl W1.heap.size 57 i0 _ 3 48 Tryz.underlying25 hi1 hi2 hi3 hi4 rfl (by decide) _ _ xs rfl (hco.alloc _) (W8.heap.size + 1) (some ⟨W8.heap.size, 0, none⟩) 1 1 [.int .i64 i, .string ⟨#[]⟩, .slice (some PP) 1 1] rfl ?dk41 ?dk42 ?dk43 ?dk44 ?dk45 ?_)
              case dk41 => exact ⟨rfl, fun _ => ⟨_, rfl, by simp, fun j u hu => cells_new W8 [.int .i64 i, .string ⟨#[]⟩, .slice (some PP) 1 1] _ j u hu⟩⟩
              case dk42 => first | (intro u hu; simp only [List.mem_cons, List.not_mem_nil, or_false] at hu; rcases hu with rfl | rfl | rfl <;> rfl) | simp [Value.oneCell']
              case dk43 => unfold maxLen; omega
              case dk44 => omega
              case dk45 => have := HB8.out.size; simp; omega
              intro v' w9 ho hg hv
              have hlt5 : ∀ r, (Value.slice Ao m co).ownBlock = some r → W1.heap.size ≤ r := fun r h => (hco.lt r h).1
              have HB9 : Hid (Below wr.heap.size wr (W8.alloc (.cells ([.int .i64 i, .string ⟨#[]⟩, .slice (some PP) 1 1] : List Value).toArray 57))) := Lib.hid (HB8.out.alloc HB8.out.size _)
              have HRG : Hid (RowG bare 57 3 ccells (Value.slice Am m cm).ownBlock W1.heap.size w9 v' ((outs ++ [((⟨i, ⟨#[]⟩, [n]⟩ : CT), 0)]).map (fun c : CT × Nat => c.1))) := Lib.hid (by
                rw [List.map_append]
                refine rowM_step (us := [.int .i64 i, .string ⟨#[]⟩, .slice (some PP) 1 1]) (wr := W8) (m := wr.heap.size) (w3 := W8.alloc (.cells ([.int .i64 i, .string ⟨#[]⟩, .slice (some PP) 1 1] : List Value).toArray 57)) (by omega) HB8.out.size (fun b h => (HMY4.out.lt b h).2) HCL.out HCA.out ?_ ((Below.refl _ _).alloc HB8.out.size _) (by rw [List.length_map, HOL.out]; exact ho) hg (by simpa using hv)
                refine ccells_mk (c := (⟨i, ⟨#[]⟩, [n]⟩ : CT)) (At.keep (fun p hp => World.cell?_alloc_lt _ _ _ hp.2.lt) (fun g h => ⟨h.1, h.2.below (Below.alloc (Below.refl _ _) (Nat.le_refl _) _) h.2.lt⟩) HN8.out))
              have HMY9 : Hid (w9.ownsRow W1.heap.size 3 1 (.slice Am m cm) m (outs.map fun c => Value.int .i64 ((c.2 : Nat) : Int))) := Lib.hid ((own_below HMY4.out HB9.out).kept hg HAQ.out)
              have hob : v'.ownBlock = none ∨ v'.ownBlock ≠ (Value.slice Am m cm).ownBlock := by
                rcases hv with h | h
                · rw [h]; exact HAP.out
                · rw [h]
                  refine .inr fun e => ?_
                  have h9 := (HMY4.out.lt _ e.symm).2
                  have h8 := HB8.out.size
                  omega
              have HB10 : Hid (But (fun g => W1.heap.size ≤ g) W1 w9) := Lib.hid (((But.of_below (HBW.out.trans ((HOB.out.mono hzr).trans (HB9.out.mono (by omega))))).mono (fun g h => h)).trans (But.grown hg (fun r h => hlt5 r h)))
              have hz9 : W1.heap.size ≤ w9.heap.size := HB10.out.size
              have HOB' := Lib.hid hob
              obtain ⟨j0, hj1, hj2, hj3, hj4⟩ := info_parts infoInt
              have hmy9 := HMY9.out
              clear ho hg hv hob hco hi1 hi2 hi3 hi4 y0 y1 y2 hlt5
              go_wp2_with (at_builtin; refine wpList_append_any _ rfl (.tmp 165) (.tmp 167) 52 rfl W1.heap.size 3 j0 _ 1 8 Tryz.underlying52 hj1 hj2 hj3 hj4 rfl (by decide) _ _ (outs.map fun c => Value.int .i64 ((c.2 : Nat) : Int)) rfl (hmy9.alloc _) (w9.heap.size + 1) (some ⟨w9.heap.size, 0, none⟩) 1 1 [.int .i64 ((0 : Nat) : Int)] rfl ?ek41 ?ek42 ?ek43 ?ek44 ?ek45 ?_)
              case ek41 => exact ⟨rfl, fun _ => ⟨_, rfl, by simp, fun j u hu => cells_new w9 [.int .i64 ((0 : Nat) : Int)] _ j u hu⟩⟩
              case ek42 => intro u hu; simp only [List.mem_cons, List.not_mem_nil, or_false] at hu; rw [hu]; rfl
              case ek43 => unfold maxLen; omega
              case ek44 => omega
              case ek45 => simp; omega
              intro vm wA ho2 hg2 hv2
              have HRG2 : Hid (RowG bare 57 3 ccells vm.ownBlock W1.heap.size wA v' ((outs ++ [((⟨i, ⟨#[]⟩, [n]⟩ : CT), 0)]).map (fun c : CT × Nat => c.1))) := Lib.hid (rowG_push (rowG_below HRG.out ((Below.refl _ w9).alloc (Nat.le_refl _) _)) hg2 HOB'.out (by simpa using hv2))
              have HBF : Hid (Below W1.heap.size W1 wA) := Lib.hid (((HB10.out.alloc _).trans (But.grown hg2 (fun r h => (hmy9.lt r h).1))).below (Nat.le_refl _) (fun g hg h => by omega))
              have HS2 : Hid (CellSr W1 l d R (m + 1) v' vm wA) := Lib.hid ⟨outs ++ [((⟨i, ⟨#[]⟩, [n]⟩ : CT), 0)], HST2.out, HRG2.out, (by rw [List.map_append]; exact ho2), HBF.out, (by simp [HOL.out]), fun j => by
                rw [sumK_snoc]
                split
                · rename_i h
                  dsimp only at h
                  have : j = i := by exact_mod_cast h.symm
                  subst this; exact hn1
                · have := HSUM.out j; omega⟩
              clear ho2 hg2 hv2 hmy9 hj1 hj2 hj3 hj4
              go_wp2_with fail
              go_roundw
              case rel => exact ⟨m + 1, by omega, by go_num, HS2⟩
              case measure => simp [intOf]; omega
        · skip
          have hw : wantN ⟨f0, 5, f2, f3, f4, f5, f6⟩ = f4 := rfl
          obtain ⟨hn0, hn1⟩ | ⟨hn0, hn1⟩ := neq_ways e.nums.length f4
          rotate_left
          · have HKO : Hid (SchP.kindOk ⟨f0, 5, f2, f3, f4, f5, f6⟩ e.text e.nums = false) := Lib.hid (by unfold SchP.kindOk; rw [hw, decide_eq_false hn0]; rfl)
            clear hn0
            have HER : Hid (R = .error 82) := Lib.hid (by have := HST.out; rw [stepF_82 HFI'.out HLI.out HKO.out] at this; exact this.symm)
            clear HST
            go_wp2_with fail
            go_ret2
            rw [HCF.out, HER.out]
            exact ⟨HW4.out, rfl⟩
          obtain ⟨t0, t1⟩ | ⟨t0, t1⟩ := empty_ways e.text
          rotate_left
          · have HKO : Hid (SchP.kindOk ⟨f0, 5, f2, f3, f4, f5, f6⟩ e.text e.nums = false) := Lib.hid (by unfold SchP.kindOk; rw [hw, decide_eq_false t0, decide_eq_false (p := ((_ : Int) ≤ 0)) (by omega)]; simp)
            clear hn0 t0
            have hd0 : decide ((0 : Int) < f4) = true := decide_eq_true (by omega)
            have HER : Hid (R = .error 82) := Lib.hid (by have := HST.out; rw [stepF_82 HFI'.out HLI.out HKO.out] at this; exact this.symm)
            clear HST
            go_wp2_with fail
            go_ret2
            rw [HCF.out, HER.out]
            exact ⟨HW4.out, rfl⟩
          have HKO : Hid (SchP.kindOk ⟨f0, 5, f2, f3, f4, f5, f6⟩ e.text e.nums = true) := Lib.hid (by unfold SchP.kindOk; rw [hw, decide_eq_true hn0, decide_eq_true t0]; simp)
          have hd0 : decide ((0 : Int) < f4) = true := decide_eq_true (by omega)
          have HN0 := Lib.hid hn0
          clear hn0
          go_wp2_with fail
          clear hn1 hnm htx
          go_loopw [13, 14] (fun a n wq => ∃ m : Nat, m ≤ k ∧ n = .int .i64 m ∧ a = .int .i64 ((sumK i (outs.take m) : Nat) : Int) ∧ Hid (f5 = false → ofK i (outs.take m) = []) ∧ wq = W4) (fun _ n _ => k - (intOf n).toNat)
          case atStart => exact ⟨0, by omega, rfl, by simp [sumK, ofK], Lib.hid (by simp [ofK]), rfl⟩
          case round =>
            obtain ⟨m, hmk, rfl, rfl, HFL, rfl⟩ := hrel
            by_cases hmlt : m < k
            · have hmo : m < outs.length := by have := HOL.out; omega
              obtain ⟨g, rfl, hgl, hcell⟩ := outs_cell (outs := outs.map (·.1)) (by rw [List.length_map, HOL.out]; exact HRW4.out) (n := m) (by rw [List.length_map]; exact hmo)
              obtain ⟨g', rfl, hmc⟩ := many_cell HMY4.out hmo HOL.out
              rw [List.getElem_map] at hcell
              have HT1 := Lib.hid (ofK_take_succ (i := i) hmo)
              have HT2 := Lib.hid (sumK_take_succ (i := i) hmo)
              have hs1 : sumK i (outs.take m) ≤ 4096 := Nat.le_trans (sumK_take_le outs m i) (HSUM.out i)
              have hs2 : sumK i (outs.take (m + 1)) ≤ 4096 := Nat.le_trans (sumK_take_le outs (m + 1) i) (HSUM.out i)
              have HMEM : Hid (outs[m] ∈ outs) := Lib.hid (List.getElem_mem hmo)
              generalize outs[m] = oc at *
              obtain ⟨oc, on⟩ := oc
              obtain ⟨o1, o2, o3⟩ := oc
              dsimp only at *
              have hml2 : (m : Int) < (k : Int) := by omega
              by_cases hfe : o1 = i
              · have hbe : (o1 == (i : Int)) = true := by simpa using hfe
                cases f5 with
                | true =>
                  have HS3 : Hid (((sumK i (outs.take m) : Nat) : Int) + (on : Int) = ((sumK i (outs.take (m + 1)) : Nat) : Int)) := Lib.hid (by rw [HT2.out, if_pos hfe]; push_cast; rfl)
                  have hon : sumK i (outs.take m) + on ≤ 4096 := by have := HT2.out; rw [if_pos hfe] at this; omega
                  clear hfe
                  go_wp2_with fail
                  rw [HS3.out]
                  go_roundw
                  case rel => exact ⟨m + 1, by omega, by go_num, rfl, Lib.hid (fun h => by cases h), trivial⟩
                  case measure => simp [intOf]; omega
                | false =>
                  have HMF : Hid ((false || decide ((ofK i outs).length = 0)) = false) := Lib.hid (by
                    rw [Bool.false_or, decide_eq_false_iff_not]
                    intro h0
                    have hmem : (({ field := o1, text := o2, nums := o3 } : CT), on) ∈ ofK i outs := List.mem_filter.2 ⟨HMEM.out, by simpa using hfe⟩
                    rw [List.eq_nil_of_length_eq_zero h0] at hmem
                    cases hmem)
                  clear hfe hs2
                  have HER : Hid (R = .error 84) := Lib.hid (by have := HST.out; rw [stepF_84 HFI'.out HLI.out HKO.out HMF.out] at this; exact this.symm)
                  clear HST
                  go_wp2_with fail
                  go_ret2
                  rw [HCF.out, HER.out]
                  exact ⟨HW4.out, rfl⟩
              · have hbe : (o1 == (i : Int)) = false := by simpa using hfe
                have HS3 : Hid (sumK i (outs.take (m + 1)) = sumK i (outs.take m)) := Lib.hid (by rw [HT2.out, if_neg hfe]; rfl)
                have HS4 : Hid (f5 = false → ofK i (outs.take (m + 1)) = []) := Lib.hid (fun h => by rw [HT1.out, HFL.out h, if_neg hfe]; rfl)
                clear hfe hs2
                go_wp2_with fail
                go_roundw
                case rel => exact ⟨m + 1, by omega, by go_num, by rw [HS3.out], HS4, trivial⟩
                case measure => simp [intOf]; omega
            · obtain rfl : m = k := by omega
              have HMN : Hid ((f5 || decide ((ofK i outs).length = 0)) = true) := Lib.hid (by
                cases h5 : f5 with
                | true => rfl
                | false =>
                  have := HFL.out h5
                  rw [List.take_of_length_le (by have := HOL.out; omega)] at this
                  rw [this]; rfl)
              have htk : outs.take m = outs := List.take_of_length_le (by have := HOL.out; omega)
              have hsi := HSUM.out i
              rw [htk]
              have hsi2 := hsi
              go_upto_region 31 with fail
              have BC := Lib.hid (Blk.new wr 57 #[.int .i64 i, .string ⟨#[]⟩, .slice none 0 0])
              have HB5 := Lib.hid ((Below.refl _ wr).alloc (Nat.le_refl _) (.cells #[.int .i64 i, .string ⟨#[]⟩, .slice none 0 0] 57))
              have hz5 : wr.heap.size + 1 ≤ (wr.alloc (.cells #[.int .i64 i, .string ⟨#[]⟩, .slice none 0 0] 57)).heap.size := by simp
              generalize wr.alloc (.cells #[.int .i64 i, .string ⟨#[]⟩, .slice none 0 0] 57) = W5 at *
              have HW5 : Hid (Below w.heap.size w W5) := Lib.hid (HW4.out.trans (HB5.out.mono HW4.out.size))
              have BE5 := Lib.hid (BE4.out.below HB5.out (by omega))
              have x1 : W5.cell? ⟨wo.heap.size, 1, none⟩ = some (.string e.text) := BE5.out.cell 1
              have x2 : W5.cell? ⟨wo.heap.size, 2, none⟩ = some (.slice Y e.nums.length z2) := BE5.out.cell 2
              obtain ⟨p0, p1, p2, p3, p4, p5, p6⟩ := blk7 (BF.out.below HB5.out (by omega))
              have HV : Hid (valueF decO runO ⟨f0, 5, f2, f3, f4, f5, f6⟩ i e = some (⟨i, ⟨#[]⟩, e.nums⟩, 0)) := Lib.hid (by unfold valueF; rw [if_neg (by dsimp only; decide), if_neg (by dsimp only; decide), if_neg (by dsimp only; decide)])
              have hn1 : sumK i outs + 0 ≤ 4096 := by omega
              obtain ⟨_, _, he, hz, hm, hrd⟩ := at_nums HEC.out
              injection he with e1 _ e3
              subst e1 e3
              have HRD := Lib.hid ((hrd.below HW5.out).more HW5.out.size)
              have HLN := Lib.hid HEO.out.nums.1
              obtain ⟨k0, hk1, hk2, hk3, hk4⟩ := info_parts infoI64
              have c1 : W5.cell? ⟨wr.heap.size, 2, none⟩ = some (.slice none 0 0) := BC.out.cell 2
              have c2 : W5.frozen? ⟨wr.heap.size, 2, none⟩ = false := BC.out.frozen 2
              clear hrd hz hm
              go_wp2_with (at_builtin; refine wpList_append_any _ rfl (.tmp 109) (.tmp 111) 55 rfl W5.heap.size 2 k0 (.int .i64 0) 1 8 Tryz.underlying55 hk1 hk2 hk3 hk4 rfl (by decide) (.slice none 0 0) 0 [] rfl (World.ownsRow_nil _ _ _ _) W5.heap.size Y e.nums.length z2 (e.nums.map (Value.int .i64)) rfl HRD.out ?ck52 ?ck53 ?ck54 ?ck55 ?_)
              case ck52 => first | (intro u hu; obtain ⟨y, _, rfl⟩ := List.mem_map.1 hu; rfl) | (intro u hu; rfl)
              case ck53 => have := HLN.out; unfold maxLen; omega
              case ck54 => have := HLN.out; omega
              try (case ck55 => omega)
              intro v1 W6 ho1 hg1 _
              replace ho1 : W6.ownsRow W5.heap.size 2 1 v1 e.nums.length (e.nums.map (Value.int .i64)) := by simpa using ho1
              have hb6 : Below W5.heap.size W5 W6 := (Below.refl _ W5).grown hg1 (by simp) (fun r e => by simp [Value.ownBlock] at e)
              have HAT := Lib.hid (nums_cells ho1)
              obtain ⟨P0, z3, rfl, _, _⟩ := at_slice HAT.out
              have BC6 := Lib.hid (BC.out.below hb6 BC.out.lt)
              have HB6 := Lib.hid (HB5.out.trans (hb6.mono (by omega)))
              have c1' : W6.cell? ⟨wr.heap.size, 2, none⟩ = some (.slice none 0 0) := BC6.out.cell 2
              have c2' : W6.frozen? ⟨wr.heap.size, 2, none⟩ = false := BC6.out.frozen 2
              have hz6 := hb6.size
              clear ho1 hg1 hb6 c1 c2 x1 x2 p0 p1 p2 p3 p4 p5 p6
              go_upto_region 49 with fail
              have BC8 : Hid (Blk (W6.setCell ⟨wr.heap.size, 2, none⟩ (.slice P0 e.nums.length z3)) wr.heap.size 57 #[.int .i64 i, .string ⟨#[]⟩, .slice P0 e.nums.length z3]) := Lib.hid (BC6.out.set_ 2 _)
              have HB8 : Hid (Below wr.heap.size wr (W6.setCell ⟨wr.heap.size, 2, none⟩ (.slice P0 e.nums.length z3))) := Lib.hid (HB6.out.setCell (Nat.le_refl _) _)
              have HN8 : Hid (T.At bare (W6.setCell ⟨wr.heap.size, 2, none⟩ (.slice P0 e.nums.length z3)) (fun g => wr.heap.size ≤ g ∧ CellsAt (W6.setCell ⟨wr.heap.size, 2, none⟩ (.slice P0 e.nums.length z3)) g) (numsT .i64 e.nums) (.slice P0 e.nums.length z3)) :=
                Lib.hid (At.keep (fun p hp => World.cell?_setCell_other _ _ _ _ (by intro h; rw [← h] at hp; exact absurd hp.1 (by show ¬ W5.heap.size ≤ wr.heap.size; omega))) (fun g h => ⟨by omega, h.2.set _ _⟩) HAT.out)
              clear HB6 BC6 c1' c2' HAT
              generalize W6.setCell ⟨wr.heap.size, 2, none⟩ (.slice P0 e.nums.length z3) = W8 at *
              have HST2 : Hid (goF decO runO l (outs ++ [((⟨i, ⟨#[]⟩, e.nums⟩ : CT), 0)]) (d.drop (m + 1)) = R) := Lib.hid (by have := HST.out; rw [stepF_ok HFI'.out HLI.out HKO.out HMN.out HV.out (fun _ => hn1)] at this; exact this)
              obtain ⟨xs, hco, hcl, hca⟩ := rowM_of HRW4.out HB8.out
              have HCA := Lib.hid hca; have HCL := Lib.hid hcl
              rw [List.length_map, HOL.out] at hco
              have HAP := Lib.hid (own_apart HRW4.out.choose_spec.1 HMY4.out (by decide))
              have HAQ := Lib.hid (own_apart HMY4.out HRW4.out.choose_spec.1 (by decide))
              have y0 : W8.cell? ⟨wr.heap.size, 0, none⟩ = some (.int .i64 i) := BC8.out.cell 0
              have y1 : W8.cell? ⟨wr.heap.size, 1, none⟩ = some (.string ⟨#[]⟩) := BC8.out.cell 1
              have y2 : W8.cell? ⟨wr.heap.size, 2, none⟩ = some (.slice P0 e.nums.length z3) := BC8.out.cell 2
              obtain ⟨i0, hi1, hi2, hi3, hi4⟩ := info_parts infoC
              clear hca hcl HST
              go_wp2_with (at_builtin; refine wpList_append_any _ rfl (.tmp 161) (.tmp 163) 25 rfl W1.heap.size 57 i0 _ 3 48 Tryz.underlying25 hi1 hi2 hi3 hi4 rfl (by decide) _ _ xs rfl (hco.alloc _) (W8.heap.size + 1) (some ⟨W8.heap.size, 0, none⟩) 1 1 [.int .i64 i, .string ⟨#[]⟩, .slice P0 e.nums.length z3] rfl ?dk51 ?dk52 ?dk53 ?dk54 ?dk55 ?_)
              case dk51 => exact ⟨rfl, fun _ => ⟨_, rfl, by simp, fun j u hu => cells_new W8 [.int .i64 i, .string ⟨#[]⟩, .slice P0 e.nums.length z3] _ j u hu⟩⟩
              case dk52 => first | (intro u hu; simp only [List.mem_cons, List.not_mem_nil, or_false] at hu; rcases hu with rfl | rfl | rfl <;> rfl) | simp [Value.oneCell']
              case dk53 => unfold maxLen; omega
              case dk54 => omega
              case dk55 => have := HB8.out.size; simp; omega
              intro v' w9 ho hg hv
              have hlt5 : ∀ r, (Value.slice Ao m co).ownBlock = some r → W1.heap.size ≤ r := fun r h => (hco.lt r h).1
              have HB9 : Hid (Below wr.heap.size wr (W8.alloc (.cells ([.int .i64 i, .string ⟨#[]⟩, .slice P0 e.nums.length z3] : List Value).toArray 57))) := Lib.hid (HB8.out.alloc HB8.out.size _)
              have HRG : Hid (RowG bare 57 3 ccells (Value.slice Am m cm).ownBlock W1.heap.size w9 v' ((outs ++ [((⟨i, ⟨#[]⟩, e.nums⟩ : CT), 0)]).map (fun c : CT × Nat => c.1))) := Lib.hid (by
                rw [List.map_append]
                refine rowM_step (us := [.int .i64 i, .string ⟨#[]⟩, .slice P0 e.nums.length z3]) (wr := W8) (m := wr.heap.size) (w3 := W8.alloc (.cells ([.int .i64 i, .string ⟨#[]⟩, .slice P0 e.nums.length z3] : List Value).toArray 57)) (by omega) HB8.out.size (fun b h => (HMY4.out.lt b h).2) HCL.out HCA.out ?_ ((Below.refl _ _).alloc HB8.out.size _) (by rw [List.length_map, HOL.out]; exact ho) hg (by simpa using hv)
                refine ccells_mk (c := (⟨i, ⟨#[]⟩, e.nums⟩ : CT)) (At.keep (fun p hp => World.cell?_alloc_lt _ _ _ hp.2.lt) (fun g h => ⟨h.1, h.2.below (Below.alloc (Below.refl _ _) (Nat.le_refl _) _) h.2.lt⟩) HN8.out))
              have HMY9 : Hid (w9.ownsRow W1.heap.size 3 1 (.slice Am m cm) m (outs.map fun c => Value.int .i64 ((c.2 : Nat) : Int))) := Lib.hid ((own_below HMY4.out HB9.out).kept hg HAQ.out)
              have hob : v'.ownBlock = none ∨ v'.ownBlock ≠ (Value.slice Am m cm).ownBlock := by
                rcases hv with h | h
                · rw [h]; exact HAP.out
                · rw [h]
                  refine .inr fun e => ?_
                  have h9 := (HMY4.out.lt _ e.symm).2
                  have h8 := HB8.out.size
                  omega
              have HB10 : Hid (But (fun g => W1.heap.size ≤ g) W1 w9) := Lib.hid (((But.of_below (HBW.out.trans ((HOB.out.mono hzr).trans (HB9.out.mono (by omega))))).mono (fun g h => h)).trans (But.grown hg (fun r h => hlt5 r h)))
              have hz9 : W1.heap.size ≤ w9.heap.size := HB10.out.size
              have HOB' := Lib.hid hob
              obtain ⟨j0, hj1, hj2, hj3, hj4⟩ := info_parts infoInt
              have hmy9 := HMY9.out
              clear ho hg hv hob hco hi1 hi2 hi3 hi4 y0 y1 y2 hlt5
              go_wp2_with (at_builtin; refine wpList_append_any _ rfl (.tmp 165) (.tmp 167) 52 rfl W1.heap.size 3 j0 _ 1 8 Tryz.underlying52 hj1 hj2 hj3 hj4 rfl (by decide) _ _ (outs.map fun c => Value.int .i64 ((c.2 : Nat) : Int)) rfl (hmy9.alloc _) (w9.heap.size + 1) (some ⟨w9.heap.size, 0, none⟩) 1 1 [.int .i64 ((0 : Nat) : Int)] rfl ?ek51 ?ek52 ?ek53 ?ek54 ?ek55 ?_)
              case ek51 => exact ⟨rfl, fun _ => ⟨_, rfl, by simp, fun j u hu => cells_new w9 [.int .i64 ((0 : Nat) : Int)] _ j u hu⟩⟩
              case ek52 => intro u hu; simp only [List.mem_cons, List.not_mem_nil, or_false] at hu; rw [hu]; rfl
              case ek53 => unfold maxLen; omega
              case ek54 => omega
              case ek55 => simp; omega
              intro vm wA ho2 hg2 hv2
              have HRG2 : Hid (RowG bare 57 3 ccells vm.ownBlock W1.heap.size wA v' ((outs ++ [((⟨i, ⟨#[]⟩, e.nums⟩ : CT), 0)]).map (fun c : CT × Nat => c.1))) := Lib.hid (rowG_push (rowG_below HRG.out ((Below.refl _ w9).alloc (Nat.le_refl _) _)) hg2 HOB'.out (by simpa using hv2))
              have HBF : Hid (Below W1.heap.size W1 wA) := Lib.hid (((HB10.out.alloc _).trans (But.grown hg2 (fun r h => (hmy9.lt r h).1))).below (Nat.le_refl _) (fun g hg h => by omega))
              have HS2 : Hid (CellSr W1 l d R (m + 1) v' vm wA) := Lib.hid ⟨outs ++ [((⟨i, ⟨#[]⟩, e.nums⟩ : CT), 0)], HST2.out, HRG2.out, (by rw [List.map_append]; exact ho2), HBF.out, (by simp [HOL.out]), fun j => by
                rw [sumK_snoc]
                split
                · rename_i h
                  dsimp only at h
                  have : j = i := by exact_mod_cast h.symm
                  subst this; exact hn1
                · have := HSUM.out j; omega⟩
              clear ho2 hg2 hv2 hmy9 hj1 hj2 hj3 hj4
              go_wp2_with fail
              go_roundw
              case rel => exact ⟨m + 1, by omega, by go_num, HS2⟩
              case measure => simp [intOf]; omega
    · obtain rfl : k = d.length := by omega
      have HOK : Hid (R = .ok outs) := Lib.hid (by rw [List.drop_length] at hgo; exact hgo.symm)
      have HRW := Lib.hid hrow
      clear hgo hmany hbel hsum
      go_wp2_with fail
      go_ret2
      rw [HCF.out, HOK.out]
      exact ⟨HWR.out, _, rfl, At.keep (fun _ _ => rfl) (fun g hg => ⟨by omega, hg.2⟩) (rowG_at ccells_len HRW.out)⟩
end Go.Proofs.YtfckomjbgopmaaaGreatDoor.Sch
