/- Contract: the program's stored entries: a range over a function that gathers. -/
import Derived.Test.YtfckomjbgopmaaaDoorSchIter
import Derived.Test.YtfckomjbgopmaaaDoorRange2
import Derived.Test.YtfckomjbgopmaaaDoorWordsIn
import Derived.RangeFuncWrites
import Derived.Shelf.Abstract
set_option linter.unusedVariables false
namespace Go.Proofs.YtfckomjbgopmaaaDoor.Sch
open Go.RowKit Go.Lib Words Tree SchP Kit Owned Range

attribute [local go_sem] Oper.semAt_some

theorem keepsOthers_below {W W' : World} (h : Below W.heap.size W W') : KeepsOthers W W' :=
  ⟨h.size, fun k o hk _ => (h.block k (Array.getElem?_eq_some_iff.1 hk).1).trans hk⟩
theorem Blk.nc {A B : World} {g : Nat} {t : TypeId} {cs : Array Value} {row : Option Nat} (h : Blk A g t cs) (hg : A.grownBy B row) (hr : ∀ r, row = some r → ∃ o : Obj, A.heap[r]? = some o ∧ o.isCells = false) : Blk B g t cs :=
  h.grown hg (fun e => by obtain ⟨o, ho, hc⟩ := hr g e.symm; rw [show A.heap[g]? = _ from h] at ho; cases ho; cases hc)

/-- The entries pre are gathered in the box. -/
structure StI (w : World) (u x : Value) (pre : List EV) (W : World) : Prop where
  out : ∃ v, Boxed W (w.heap.size + 2) 25 v ∧ RowG bare 53 3 ecells (some (w.heap.size + 2)) w.heap.size W v (pre.map (·.1))
  bs : Blk W (w.heap.size + 3) 24 #[u]
  bd : Blk W (w.heap.size + 4) 27 #[x]
  below : Below w.heap.size w W
structure StJ (w : World) (u x : Value) (pre : List EV) (y : EV) (m : Nat) (W : World) : Prop where
  out : ∃ v, Boxed W (w.heap.size + 2) 25 v ∧ RowM bare 53 3 ecells (some (w.heap.size + 2)) w.heap.size m W v (pre.map (·.1))
  bs : Blk W (w.heap.size + 3) 24 #[u]
  bd : Blk W (w.heap.size + 4) 27 #[x]
  below : Below w.heap.size w W
  one : Blk W m 53 #[.string y.1.field, .string y.1.text, y.2]
  far : w.heap.size + 5 ≤ m
theorem stI_own (w : World) (u x : Value) (B : Nat) (hB : w.heap.size ≤ B) : OwnFrom B (StI w u x) := by
  rintro pre A W row h hg hr
  have hr2 : ∀ r, row = some r → ∃ o : Obj, A.heap[r]? = some o ∧ o.isCells = false := fun r e => (hr r e).2
  obtain ⟨v, h1, h2⟩ := h.out
  exact ⟨⟨v, Blk.nc h1 hg hr2, rowG_turns h2 hg hr2⟩, Blk.nc h.bs hg hr2, Blk.nc h.bd hg hr2, h.below.grown hg h.below.size (fun k e => by have := (hr k e).1; omega)⟩
theorem stJ_own (w : World) (u x : Value) (B : Nat) (hB : w.heap.size ≤ B) (pre : List EV) (y : EV) (m : Nat) : OwnFrom B (fun (_ : Unit) W => StJ w u x pre y m W) := by
  rintro _ A W row h hg hr
  have hr2 : ∀ r, row = some r → ∃ o : Obj, A.heap[r]? = some o ∧ o.isCells = false := fun r e => (hr r e).2
  obtain ⟨v, h1, h2⟩ := h.out
  exact ⟨⟨v, Blk.nc h1 hg hr2, rowM_turns h2 hg hr2⟩, Blk.nc h.bs hg hr2, Blk.nc h.bd hg hr2, h.below.grown hg h.below.size (fun k e => by have := (hr k e).1; omega), Blk.nc h.one hg hr2, h.far⟩
theorem stJ_of {w W : World} {u x : Value} {pre : List EV} {y : EV} (h : StI w u x pre W) (hz : w.heap.size + 5 ≤ W.heap.size) : StJ w u x pre y W.heap.size (W.alloc (.cells #[.string y.1.field, .string y.1.text, y.2] 53)) := by
  obtain ⟨v, h1, h2⟩ := h.out
  exact ⟨⟨v, h1.alloc _, rowM_of h2 ((Below.refl _ _).alloc (Nat.le_refl _) _)⟩, h.bs.alloc _, h.bd.alloc _, h.below.alloc h.below.size _, Blk.new _ _ _, hz⟩
theorem belowK_e {w : World} {B bs bd : Nat} (h1 : B ≤ w.heap.size) (h2 : bs < w.heap.size) (h3 : bd < w.heap.size) (W : World) (l : Nat) (o o' : Obj) (hl : w.heap.size ≤ l) (h : W.heap[l]? = some o) (_ : o.isCells = false) (_ : o.isWalk = false) : KpE B bs bd W (W.putObj l o') :=
  KpE.below (N := w.heap.size) (belowK_b (w := w) (Nat.le_refl _) W l o o' hl h ‹_› ‹_›) h1 h2 h3

theorem nxE_mem {l : List FT} {dv pre : List EV} {x : EV} (h : NxE l dv pre x) : x ∈ dv := by
  obtain ⟨rest, h⟩ := h
  have : x ∈ keptV l dv := by rw [← h]; simp
  exact (List.mem_filter.1 this).1
theorem nxE_len {l : List FT} {dv pre : List EV} {x : EV} (h : NxE l dv pre x) : pre.length < dv.length := by
  obtain ⟨rest, h⟩ := h
  have h1 : (keptV l dv).length ≤ dv.length := List.length_filter_le _ _
  rw [← h] at h1
  simp at h1
  omega
set_option maxRecDepth 100000 in
set_option maxHeartbeats 4000000 in
theorem stored_in (u x : Value) (l : List FT) (d : List ET) (w : World) (hu : T.At bare w (fun g => g < w.heap.size) (fieldsT l) u) (hl : l.length * 72 ≤ 140737488351232)
    (hx : T.At bare w (fun g => g < w.heap.size) (entriesT d) x) (hd : d.length * 56 ≤ 140737488351232) (ok : ∀ e ∈ d, EOk e) :
    CallsIn Fence.wide 6 Tryd.prog 13 #[.agg #[u], .agg #[x]] w (FreshT (entriesT (storedF l d)) w) := by
  obtain ⟨D, cD, dv, rfl, hdv, hev⟩ := entriesV_of hx
  obtain ⟨A, cA, rfl, _, _⟩ := at_slice hu
  have hln : dv.length = d.length := by rw [← hdv]; simp
  have HU := Lib.hid hu; have HEV := Lib.hid hev; have HDV := Lib.hid hdv
  have HXQ : Hid (∀ y ∈ dv, EOk y.1 ∧ T.At bare w (fun g => g < w.heap.size) (numsT .i64 y.1.nums) y.2) := Lib.hid (fun y hy => by
    obtain ⟨i, hi, rfl⟩ := List.getElem_of_mem hy
    obtain ⟨_, _, _, _, ha⟩ := hev i hi
    exact ⟨ok _ (by rw [← hdv]; exact List.mem_map_of_mem (List.getElem_mem hi)), ha⟩)
  clear hu hx hev hdv ok
  refine callsIn_of_wp_marks Tryd.func13 rfl trivial ?_ rfl
  simp only [Tryd.ntmps13, List.size_toArray, List.length_cons, List.length_nil, Nat.reduceAdd, Nat.reduceSub, Array.replicate_succ, Array.replicate_zero, List.push_toArray, List.append_toArray, List.nil_append, List.cons_append]
  gi_wp2_with fail
  refine ⟨trivial, ?_⟩
  refine (kept_in _ _ _ _).mono ?_
  rintro e w' ⟨rfl, rfl⟩
  gi_wp2_with fail
  simp only [Nat.add_assoc, Nat.reduceAdd]
  have hI0 : StI w (.slice A l.length cA) (.slice D d.length cD) [] (((((w.alloc (Obj.cells #[Value.slice A l.length cA] 24)).alloc (Obj.cells #[Value.slice D d.length cD] 27)).alloc (Obj.cells #[Value.slice none 0 0] 25)).alloc (Obj.cells #[Value.slice A l.length cA] 24)).alloc (Obj.cells #[Value.slice D d.length cD] 27)) := by
    have hb : ∀ (X : World) (n : Nat) (t : TypeId) (cs : Array Value), X.heap.size = n → Blk (X.alloc (.cells cs t)) n t cs := fun X n t cs h => by subst h; exact Blk.new X t cs
    refine ⟨⟨.slice none 0 0, ((hb _ _ _ _ (by simp)).alloc _).alloc _, rowG_nil _⟩, (hb _ _ _ _ (by simp)).alloc _, hb _ _ _ _ (by simp), ?_⟩
    exact (((((Below.refl _ _).alloc (Nat.le_refl _) _).alloc (by simp) _).alloc (by simp; omega) _).alloc (by simp; omega) _).alloc (by simp; omega) _
  have hsz : (((((w.alloc (Obj.cells #[Value.slice A l.length cA] 24)).alloc (Obj.cells #[Value.slice D d.length cD] 27)).alloc (Obj.cells #[Value.slice none 0 0] 25)).alloc (Obj.cells #[Value.slice A l.length cA] 24)).alloc (Obj.cells #[Value.slice D d.length cD] 27)).heap.size = w.heap.size + 5 := by simp
  obtain ⟨W0, hW0⟩ : ∃ W0, (((((w.alloc (Obj.cells #[Value.slice A l.length cA] 24)).alloc (Obj.cells #[Value.slice D d.length cD] 27)).alloc (Obj.cells #[Value.slice none 0 0] 25)).alloc (Obj.cells #[Value.slice A l.length cA] 24)).alloc (Obj.cells #[Value.slice D d.length cD] 27)) = W0 := ⟨_, rfl⟩
  rw [hW0] at hsz hI0 ⊢
  clear hW0
  obtain ⟨i0, hj1, hj2, hj3, hj4⟩ := info_parts infoE
  have hg := kept_gives w.heap.size (w.heap.size + 3) (w.heap.size + 4) cD (.slice A l.length cA) D l dv W0 (by omega) (At.keep (fun p hp => hI0.below.cell hp) (fun g hg => hg) HU.out) hl
    (fun i hi => by
      obtain ⟨ad, e, hb, hc, ha⟩ := HEV.out i hi
      exact ⟨ad, e, hb, hc.keep (fun p hp => hI0.below.cell (by rw [hp, block_of_add]; exact hb)), At.keep (fun p hp => hI0.below.cell hp) (fun g hg => hg) ha⟩) (by omega) hI0.bs (by rw [hln]; exact hI0.bd)
  refine wpIn_gives2 rfl (by omega) (gf := 32) (lb := #[.pointer (some ⟨w.heap.size + 4, 0, none⟩), .pointer (some ⟨w.heap.size + 3, 0, none⟩)]) rfl trivial (enters_of Tryd.func32 (by kernel_rfl) rfl)
    hg KpE.trans (belowK_e (by omega) (by omega) (by omega)) (Below.refl _ _) (fun _ => rfl)
    (StI w (.slice A l.length cA) (.slice D d.length cD)) (stI_own _ _ _ _ (by omega)) hI0
    (fun x m => { tmps := #[.agg #[.slice A l.length cA], .agg #[.slice D d.length cD], .pointer (some ⟨w.heap.size, 0, none⟩), .pointer (some ⟨w.heap.size + 1, 0, none⟩), .slice none 0 0, .pointer (some ⟨w.heap.size + 2, 0, none⟩), .pointer (some ⟨m, 0, none⟩),
      .agg #[.slice A l.length cA], .agg #[.slice D d.length cD], .func (.func 32) #[] #[.pointer (some ⟨w.heap.size + 4, 0, none⟩), .pointer (some ⟨w.heap.size + 3, 0, none⟩)], .agg #[.string x.1.field, .string x.1.text, x.2], undef, undef, undef, undef, undef, undef, undef, undef, undef], defers := [] })
    (StJ w (.slice A l.length cA) (.slice D d.length cD)) (stJ_own _ _ _ _ (by omega)) ?assign ?body ?done
  case assign =>
    intro l0 pre x W K hnx hI hK
    dsimp only [encE]
    have hz : w.heap.size + 5 ≤ W.heap.size := by have := hI.bd.lt; omega
    have hax := (HXQ.out _ (nxE_mem hnx)).2
    obtain ⟨⟨f, t, nn⟩, v⟩ := x
    dsimp only at hax
    obtain ⟨X, z, rfl, _, _⟩ := at_slice hax
    gi_wp2
    exact hK _ ((Below.refl _ _).alloc (Nat.le_refl _) _) (KpE.below ((Below.refl _ _).alloc (Nat.le_refl _) _) (by omega) (by omega) (by omega)) (stJ_of hI hz)
  case body =>
    intro l0 pre x m W hnx hJ
    obtain ⟨v, hv, hrow⟩ := hJ.out
    have hax := HXQ.out _ (nxE_mem hnx)
    have hpl := nxE_len hnx
    obtain ⟨e, vx⟩ := x
    dsimp only at hax
    obtain ⟨hok, hax⟩ := hax
    have HC := Lib.hid (fun (V : World) (hV : Below w.heap.size w V) => clone_any vx e.nums V (At.keep (fun p hp => hV.cell hp) (fun g hg => by have := hV.size; omega) hax) hok.nums.1)
    obtain ⟨X, z, rfl, _, _⟩ := at_slice hax
    have hone := hJ.one
    have hfar := hJ.far
    dsimp only at hone
    have c0 := hone.cell 0
    have c2 : W.cell? ⟨m, 2, none⟩ = some (.slice X e.nums.length z) := hone.cell 2
    have HJ := Lib.hid hJ; have HONE := Lib.hid hone; have HV := Lib.hid hv; have HROW := Lib.hid hrow
    have hmz : m < W.heap.size := hone.lt
    clear hJ hone hax hok hv hrow
    gi_wp2_with fail
    refine ⟨trivial, ?_⟩
    refine CallsIn.inRound l0 (callsIn_wide.2 (HC.out W HJ.out.below)) |>.mono ?_
    rintro e' w3 ⟨vy, rfl, hay, hb3⟩
    obtain ⟨Y, z2, rfl, _, _⟩ := at_slice hay
    have HAY := Lib.hid hay
    have BE3 := Lib.hid (HONE.out.below hb3 hmz)
    have HB3 := Lib.hid hb3
    have f2 : w3.frozen? ⟨m, 2, none⟩ = false := BE3.out.frozen 2
    have b2 : w3.cell? ⟨m, 2, none⟩ = some (.slice X e.nums.length z) := BE3.out.cell 2
    have hz3 := hb3.size
    have BE5 : Hid (Blk (w3.setCell ⟨m, 2, none⟩ (.slice Y e.nums.length z2)) m 53 #[.string e.field, .string e.text, .slice Y e.nums.length z2]) := Lib.hid (BE3.out.set_ 2 _)
    have HB5 : Hid (Below m W (w3.setCell ⟨m, 2, none⟩ (.slice Y e.nums.length z2))) := Lib.hid ((HB3.out.mono (Nat.le_of_lt hmz) : Below m W w3).setCell (p := ⟨m, 2, none⟩) (Nat.le_refl m) _)
    have AT5 : Hid (T.At bare (w3.setCell ⟨m, 2, none⟩ (.slice Y e.nums.length z2)) (fun g => m ≤ g ∧ CellsAt (w3.setCell ⟨m, 2, none⟩ (.slice Y e.nums.length z2)) g) (numsT .i64 e.nums) (.slice Y e.nums.length z2)) :=
      Lib.hid (At.keep (fun p hp => World.cell?_setCell_other _ _ _ _ (by intro h; rw [← h] at hp; exact absurd hp.1 (by show ¬ W.heap.size ≤ m; omega))) (fun g h => ⟨by omega, h.2.set _ _⟩) HAY.out)
    have HK5 : Hid (KeepsOthers W (w3.setCell ⟨m, 2, none⟩ (.slice Y e.nums.length z2))) := Lib.hid ((keepsOthers_below HB3.out).trans (KeepsOthers.setCell _ _ _))
    have hx0 : (w3.setCell ⟨m, 2, none⟩ (.slice Y e.nums.length z2)).cell? ⟨w.heap.size + 2, 0, none⟩ = some v := (HB5.out.cell (p := ⟨w.heap.size + 2, 0, none⟩) (by show w.heap.size + 2 < m; omega)).trans HV.out.cell
    have hx1 : (w3.setCell ⟨m, 2, none⟩ (.slice Y e.nums.length z2)).cell? ⟨m, 0, none⟩ = some (.string e.field) := BE5.out.cell 0
    have hx2 : (w3.setCell ⟨m, 2, none⟩ (.slice Y e.nums.length z2)).cell? ⟨m, 1, none⟩ = some (.string e.text) := BE5.out.cell 1
    have hx3 : (w3.setCell ⟨m, 2, none⟩ (.slice Y e.nums.length z2)).cell? ⟨m, 2, none⟩ = some (.slice Y e.nums.length z2) := BE5.out.cell 2
    obtain ⟨cs, hco, hcl, hca⟩ := (rowM_below HROW.out HB5.out (by omega) : RowM _ _ _ _ _ _ _ (w3.setCell ⟨m, 2, none⟩ (.slice Y e.nums.length z2)) _ _)
    have HCA := Lib.hid hca
    have hz5 : W.heap.size ≤ (w3.setCell ⟨m, 2, none⟩ (.slice Y e.nums.length z2)).heap.size := by simp [World.setCell]; omega
    simp only [List.length_map] at hco
    clear hay hb3 c0 c2 BE3 HAY HB3 hca HROW
    gi_wp2_with (gi_at_builtin; refine wpListIn_append_any _ rfl (.tmp 15) (.tmp 17) 25 rfl w.heap.size 53 i0 _ 3 56 Tryd.underlying25 hj1 hj2 hj3 hj4 rfl (by decide) _ pre.length cs rfl (hco.alloc _) (w3.heap.size + 1) (some ⟨w3.heap.size, 0, none⟩) 1 1 [.string e.field, .string e.text, .slice Y e.nums.length z2] rfl ?c1 ?c2 ?c3 ?c4 ?c5 ?_)
    case c1 => exact ⟨rfl, fun _ => ⟨_, rfl, by simp, fun j u hu => by have := cells_new (w3.setCell ⟨m, 2, none⟩ (.slice Y e.nums.length z2)) [.string e.field, .string e.text, .slice Y e.nums.length z2] 53 j u hu; simpa [World.setCell] using this⟩⟩
    case c2 => intro u hu; simp only [List.mem_cons, List.not_mem_nil, or_false] at hu; rcases hu with rfl | rfl | rfl <;> rfl
    case c3 => unfold maxLen; omega
    case c4 => omega
    case c5 => have := HJ.out.below.size; simp [World.setCell]; omega
    intro v' w1 ho hgr hvv
    obtain ⟨g', cap', rfl⟩ := ownsRow_succ ho
    have hse : (w3.setCell ⟨m, 2, none⟩ (.slice Y e.nums.length z2)).heap.size = w3.heap.size := by simp [World.setCell]
    generalize w3.setCell ⟨m, 2, none⟩ (.slice Y e.nums.length z2) = W5 at *
    have hBX : Boxed W5 (w.heap.size + 2) 25 v := (HB5.out.block _ (by omega)).trans HV.out
    obtain ⟨hv1, hv2, hr2, hk2, hb2⟩ := hBX.appended (by decide) hco (by have := HJ.out.below.size; omega) (by omega) ho hgr
    have hnr := (hv1.not_row (by decide) ho)
    have hrg : RowG bare 53 3 ecells (some (w.heap.size + 2)) w.heap.size w1 (.slice (some ⟨g', 0, none⟩) (pre.length + 1) cap') ((pre ++ [(e, Value.slice X e.nums.length z)]).map (·.1)) := by
      rw [List.map_append]
      refine rowM_step (us := [.string e.field, .string e.text, .slice Y e.nums.length z2]) (wr := W5) (w3 := W5.alloc (.cells #[.string e.field, .string e.text, .slice Y e.nums.length z2] 53)) (m := m) (by omega) (by omega) (fun b h => by cases h; omega) hcl HCA.out ?_ ((Below.refl _ _).alloc (by omega) _) (by simpa using ho) hgr (by rw [World.size_alloc, hse]; simpa using hvv)
      refine ecells_mk (At.keep (fun p hp => World.cell?_alloc_lt _ _ _ hp.2.lt) (fun g h => ⟨h.1, h.2.below (Below.alloc (Below.refl _ _) (Nat.le_refl _) _) h.2.lt⟩) AT5.out)
    have hc1 := hv1.cell
    have hf1 := hv1.frozen
    have HRG := Lib.hid (rowG_set hrg (fun h => hnr h.symm) (.slice (some ⟨g', 0, none⟩) (pre.length + 1) cap'))
    have hbs5 : Blk W5 (w.heap.size + 3) 24 #[.slice A l.length cA] := HJ.out.bs.below HB5.out (by omega)
    have hbd5 : Blk W5 (w.heap.size + 4) 27 #[.slice D d.length cD] := HJ.out.bd.below HB5.out (by omega)
    have HBS := Lib.hid (((hbs5.alloc _).grown hgr (fun h => own_blk_ne hco hbs5 (by decide) h.symm)).far (p := ⟨w.heap.size + 2, 0, none⟩) (by show w.heap.size + 3 ≠ w.heap.size + 2; omega) (.slice (some ⟨g', 0, none⟩) (pre.length + 1) cap'))
    have HBD := Lib.hid (((hbd5.alloc _).grown hgr (fun h => own_blk_ne hco hbd5 (by decide) h.symm)).far (p := ⟨w.heap.size + 2, 0, none⟩) (by show w.heap.size + 4 ≠ w.heap.size + 2; omega) (.slice (some ⟨g', 0, none⟩) (pre.length + 1) cap'))
    have HV2 := Lib.hid hv2; have HK2 := Lib.hid (HK5.out.trans hk2); have HB2 := Lib.hid ((HB5.out.mono (show w.heap.size ≤ m by omega)).trans hb2)
    clear hv2 hk2 hb2 hrg hbs5 hbd5 hr2 ho hgr hvv hco hcl hx0 hx1 hx2 hx3 hnr
    gi_wp2_with fail
    exact ⟨HK2.out.from _, ⟨HB2.out, Eq.trans HBS.out HJ.out.bs.symm, Eq.trans HBD.out HJ.out.bd.symm⟩, ⟨_, HV2.out, HRG.out⟩, HBS.out, HBD.out, HJ.out.below.trans HB2.out⟩
  case done =>
    rintro Dd ys W hD rfl hI hK
    obtain ⟨v, hv, hrow⟩ := hI.out
    have hc := hv.cell
    have hat := rowG_at ecells_len hrow
    rw [keptV_map, HDV.out] at hat
    have HI := Lib.hid hI; have HAT := Lib.hid hat; have HK := Lib.hid hK
    have hzw := hI.below.size
    clear hI hat hv hrow
    gi_wp2_with fail
    refine ⟨by simp, .inl ⟨_, _, rfl, run_takeDeferred HK.out, ?_⟩⟩
    refine ⟨_, results_tmp rfl _ _ _, ?_⟩
    refine ⟨_, rfl, ?_, HI.out.below.trans (belowK_b (w := w) (Nat.le_refl _) W Dd _ _ (by omega) HK.out rfl rfl)⟩
    have hne : ∀ g, CellsAt W g → some g ≠ some Dd := fun g hc e => by
      obtain ⟨c, t, fz, h3⟩ := hc
      cases e
      rw [HK.out] at h3; cases h3
    exact At.keep (fun p hp => World.cell?_of_block ((grownBy_putObj' W Dd _).block p.block hp.2.lt (hne _ hp.2))) (fun g hg => ⟨hg.1, hg.2.grown (grownBy_putObj' W Dd _) (hne _ hg.2)⟩) HAT.out
theorem stored_any (u x : Value) (l : List FT) (d : List ET) (w : World) (hu : T.At bare w (fun g => g < w.heap.size) (fieldsT l) u) (hl : l.length * 72 ≤ 140737488351232)
    (hx : T.At bare w (fun g => g < w.heap.size) (entriesT d) x) (hd : d.length * 56 ≤ 140737488351232) (ok : ∀ e ∈ d, EOk e) :
    Calls Tryd.prog 13 #[.agg #[u], .agg #[x]] w (FreshT (entriesT (storedF l d)) w) := callsIn_wide.1 (stored_in u x l d w hu hl hx hd ok)
end Go.Proofs.YtfckomjbgopmaaaDoor.Sch
