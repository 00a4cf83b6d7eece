/- Contract: the program's stored entries, their numbers apart. Contract: the program's Check of a schema. -/
import Derived.Test.YtfckomjbgopmaaaGreatDoorPack33
import Derived.Test.YtfckomjbgopmaaaGreatDoorPack35
import Derived.Test.YtfckomjbgopmaaaGreatDoorApart
import Derived.Test.YtfckomjbgopmaaaGreatDoorSchMay
import Derived.Test.YtfckomjbgopmaaaGreatDoorPack32
section
set_option linter.unusedVariables false
namespace Go.Proofs.YtfckomjbgopmaaaGreatDoor.Sch
open Go.RowKit Go.Lib Words Tree SchP Kit Owned Range AnaP

attribute [local go_sem] Oper.semAt_some

section
variable {X : Type} {et e : TypeId} {k : IntKind} {pre : X → List Value} {nums : X → List Int} {w w' : World} {N hi : Nat} {xs : List X} {vs : List Value}
theorem own_cells {B n m : Nat} {v : Value} {ys : List Value} (h : w.ownsRow B e m v n ys) {g : Nat} (hg : v.ownBlock = some g) : ∃ cs fz, w.heap[g]? = some (.cells cs e fz) := by
  rcases h.2 with ⟨rfl, _⟩ | ⟨g', cap, cur, rfl, _, hh, _⟩
  · cases hg
  · have : g' = g := by simpa [Value.ownBlock] using hg
    subst this
    exact ⟨_, _, hh⟩
theorem numL_in (h : NumL e k nums w N hi xs vs) {v : Value} (hv : v ∈ vs) : ∃ l lo hi', NumsIn e k lo hi' w l v := by
  obtain ⟨h1, lv, h2, h3, h4, h5⟩ := h
  obtain ⟨i, hi2, rfl⟩ := List.getElem_of_mem hv
  exact ⟨_, _, _, h5 i _ _ (List.getElem?_eq_getElem (by omega)) (List.getElem?_eq_getElem hi2)⟩
theorem numL_turns {row : Option Nat} (h : NumL e k nums w N hi xs vs) (hg : w.grownBy w' row) (hr : ∀ r, row = some r → ∃ o : Obj, w.heap[r]? = some o ∧ o.isCells = false) : NumL e k nums w' N hi xs vs :=
  h.keep fun v hv g _ _ hgv => by
    obtain ⟨l, lo, hi', hn⟩ := numL_in h hv
    obtain ⟨cs, fz, hc⟩ := own_cells hn.own hgv
    refine hg.block g (Array.getElem?_eq_some_iff.1 hc).1 fun e' => ?_
    obtain ⟨o, ho, hoc⟩ := hr g e'.symm
    rw [hc] at ho; cases ho; cases hoc
theorem own_turns {B n m : Nat} {v : Value} {ys : List Value} {row : Option Nat} (h : w.ownsRow B e m v n ys) (hg : w.grownBy w' row) (hr : ∀ r, row = some r → ∃ o : Obj, w.heap[r]? = some o ∧ o.isCells = false) : w'.ownsRow B e m v n ys :=
  own_keep h fun g hgv => by
    obtain ⟨cs, fz, hc⟩ := own_cells h hgv
    refine hg.block g (Array.getElem?_eq_some_iff.1 hc).1 fun e' => ?_
    obtain ⟨o, ho, hoc⟩ := hr g e'.symm
    rw [hc] at ho; cases ho; cases hoc
/-- A box of another type is written. -/
theorem numL_set {b : Nat} {t : TypeId} {u : Value} (h : NumL e k nums w N hi xs vs) (hb : Boxed w b t u) (hne : e ≠ t) (u' : Value) : NumL e k nums (w.setCell ⟨b, 0, none⟩ u') N hi xs vs :=
  h.keep fun v hv g _ _ hgv => by
    obtain ⟨l, lo, hi', hn⟩ := numL_in h hv
    obtain ⟨cs, fz, hc⟩ := own_cells hn.own hgv
    refine Below.heap_setCell w ⟨b, 0, none⟩ u' g fun e' => ?_
    have e' : g = b := e'
    subst e'
    have hb' : w.heap[g]? = _ := hb
    rw [hc] at hb'
    injection hb' with hb'
    injection hb' with _ hb'
    exact hne hb'
theorem own_set {B n m b : Nat} {t : TypeId} {v u : Value} {ys : List Value} (h : w.ownsRow B e m v n ys) (hb : Boxed w b t u) (hne : e ≠ t) (u' : Value) : (w.setCell ⟨b, 0, none⟩ u').ownsRow B e m v n ys :=
  own_keep h fun g hgv => by
    obtain ⟨cs, fz, hc⟩ := own_cells h hgv
    refine Below.heap_setCell w ⟨b, 0, none⟩ u' g fun e' => ?_
    have e' : g = b := e'
    subst e'
    have hb' : w.heap[g]? = _ := hb
    rw [hc] at hb'
    injection hb' with hb'
    injection hb' with _ hb'
    exact hne hb'
theorem rowN_set {b : Nat} {t : TypeId} {v u : Value} (h : RowN et e k pre nums N w v xs) (hb : Boxed w b t u) (h1 : et ≠ t) (h2 : e ≠ t) (u' : Value) : RowN et e k pre nums N (w.setCell ⟨b, 0, none⟩ u') v xs := by
  obtain ⟨vs, ho, hn⟩ := h
  exact ⟨vs, own_set ho hb h1 u', by rw [show (w.setCell ⟨b, 0, none⟩ u').heap.size = w.heap.size by simp [World.setCell]]; exact numL_set hn hb h2 u'⟩
theorem rowN_turns {v : Value} {row : Option Nat} (h : RowN et e k pre nums N w v xs) (hg : w.grownBy w' row) (hs : w.heap.size ≤ w'.heap.size) (hr : ∀ r, row = some r → ∃ o : Obj, w.heap[r]? = some o ∧ o.isCells = false) : RowN et e k pre nums N w' v xs := by
  obtain ⟨vs, ho, hn⟩ := h
  exact ⟨vs, own_turns ho hg hr, (numL_turns hn hg hr).more hs⟩
end

/-- The entries pre are gathered in the box. -/
structure StIN (w : World) (u x : Value) (pre : List EV) (W : World) : Prop where
  out : ∃ v, Boxed W (w.heap.size + 2) 28 v ∧ RowN 68 2 .i64 epre ET.nums w.heap.size W v (pre.map (·.1))
  bs : Blk W (w.heap.size + 3) 24 #[u]
  bd : Blk W (w.heap.size + 4) 30 #[x]
  below : Below w.heap.size w W
structure StJN (w : World) (u x : Value) (pre : List EV) (y : EV) (m : Nat) (W : World) : Prop where
  out : ∃ v vs, Boxed W (w.heap.size + 2) 28 v ∧ W.ownsRow w.heap.size 68 3 v (pre.map (·.1)).length (vals3 epre (pre.map (·.1)) vs) ∧ NumL 2 .i64 ET.nums W w.heap.size m (pre.map (·.1)) vs ∧ ∀ g, v.ownBlock = some g → g < m
  bs : Blk W (w.heap.size + 3) 24 #[u]
  bd : Blk W (w.heap.size + 4) 30 #[x]
  below : Below w.heap.size w W
  one : Blk W m 68 #[.string y.1.field, .string y.1.text, y.2]
  far : w.heap.size + 5 ≤ m
theorem stIN_own (w : World) (u x : Value) (B : Nat) (hB : w.heap.size ≤ B) : OwnFrom B (StIN w u x) := by
  rintro pre A W row h hg hr
  have hr2 : ∀ r, row = some r → ∃ o : Obj, A.heap[r]? = some o ∧ o.isCells = false := fun r e => (hr r e).2
  obtain ⟨v, h1, h2⟩ := h.out
  exact ⟨⟨v, Blk.nc h1 hg hr2, rowN_turns h2 hg hg.size hr2⟩, Blk.nc h.bs hg hr2, Blk.nc h.bd hg hr2, h.below.grown hg h.below.size (fun k e => by have := (hr k e).1; omega)⟩
theorem stJN_own (w : World) (u x : Value) (B : Nat) (hB : w.heap.size ≤ B) (pre : List EV) (y : EV) (m : Nat) : OwnFrom B (fun (_ : Unit) W => StJN w u x pre y m W) := by
  rintro _ A W row h hg hr
  have hr2 : ∀ r, row = some r → ∃ o : Obj, A.heap[r]? = some o ∧ o.isCells = false := fun r e => (hr r e).2
  obtain ⟨v, vs, h1, h2, h3, h4⟩ := h.out
  exact ⟨⟨v, vs, Blk.nc h1 hg hr2, own_turns h2 hg hr2, numL_turns h3 hg hr2, h4⟩, Blk.nc h.bs hg hr2, Blk.nc h.bd hg hr2, h.below.grown hg h.below.size (fun k e => by have := (hr k e).1; omega), Blk.nc h.one hg hr2, h.far⟩
theorem stJN_of {w W : World} {u x : Value} {pre : List EV} {y : EV} (h : StIN w u x pre W) (hz : w.heap.size + 5 ≤ W.heap.size) : StJN w u x pre y W.heap.size (W.alloc (.cells #[.string y.1.field, .string y.1.text, y.2] 68)) := by
  obtain ⟨v, h1, vs, h2, h3⟩ := h.out
  exact ⟨⟨v, vs, h1.alloc _, h2.alloc _, h3.below ((Below.refl _ _).alloc (Nat.le_refl _) _) (Nat.le_refl _), fun g hg => (h2.lt g hg).2⟩, h.bs.alloc _, h.bd.alloc _, h.below.alloc h.below.size _, Blk.new _ _ _, hz⟩
/-- The stored entries in a row of the call's own, their numbers apart. -/
def StoredRetN (es : List ET) (w : World) (e : Ending) (w' : World) : Prop := ∃ v, e = .returned v ∧ RowN 68 2 .i64 epre ET.nums w.heap.size w' v es ∧ Below w.heap.size w w'
set_option maxRecDepth 100000 in
set_option maxHeartbeats 4000000 in
theorem stored_inN (u x : Value) (l : List FT) (d : List ET) (w : World) (hu : T.At bare w (fun g => g < w.heap.size) (fieldsT l) u) (hl : l.length * 72 ≤ 140737488351232)
    (hx : T.At bare w (fun g => g < w.heap.size) (entriesT d) x) (hd : d.length * 56 ≤ 140737488351232) (ok : ∀ e ∈ d, EOk e) :
    CallsIn Fence.wide 6 Tryz.prog 26 #[.agg #[u], .agg #[x]] w (StoredRetN (storedF l d) w) := by
  obtain ⟨D, cD, dv, rfl, hdv, hev⟩ := entriesV_of hx
  obtain ⟨A, cA, rfl, _, _⟩ := at_slice hu
  have hln : dv.length = d.length := by rw [← hdv]; simp
  have HU := Lib.hid hu; have HEV := Lib.hid hev; have HDV := Lib.hid hdv
  have HXQ : Hid (∀ y ∈ dv, EOk y.1 ∧ T.At bare w (fun g => g < w.heap.size) (numsT .i64 y.1.nums) y.2) := Lib.hid (fun y hy => by
    obtain ⟨i, hi, rfl⟩ := List.getElem_of_mem hy
    obtain ⟨_, _, _, _, ha⟩ := hev i hi
    exact ⟨ok _ (by rw [← hdv]; exact List.mem_map_of_mem (List.getElem_mem hi)), ha⟩)
  clear hu hx hev hdv ok
  refine callsIn_of_wp_marks Tryz.func26 rfl trivial ?_ rfl
  simp only [Tryz.ntmps26, List.size_toArray, List.length_cons, List.length_nil, Nat.reduceAdd, Nat.reduceSub, Array.replicate_succ, Array.replicate_zero, List.push_toArray, List.append_toArray, List.nil_append, List.cons_append]
  gi_wp2_with fail
  refine ⟨trivial, ?_⟩
  refine (kept_in _ _ _ _).mono ?_
  rintro e w' ⟨rfl, rfl⟩
  gi_wp2_with fail
  simp only [Nat.add_assoc, Nat.reduceAdd]
  have hI0 : StIN w (.slice A l.length cA) (.slice D d.length cD) [] (((((w.alloc (Obj.cells #[Value.slice A l.length cA] 24)).alloc (Obj.cells #[Value.slice D d.length cD] 30)).alloc (Obj.cells #[Value.slice none 0 0] 28)).alloc (Obj.cells #[Value.slice A l.length cA] 24)).alloc (Obj.cells #[Value.slice D d.length cD] 30)) := by
    have hb : ∀ (X : World) (n : Nat) (t : TypeId) (cs : Array Value), X.heap.size = n → Blk (X.alloc (.cells cs t)) n t cs := fun X n t cs h => by subst h; exact Blk.new X t cs
    refine ⟨⟨.slice none 0 0, ((hb _ _ _ _ (by simp)).alloc _).alloc _, rowN_nil (by simp; omega)⟩, (hb _ _ _ _ (by simp)).alloc _, hb _ _ _ _ (by simp), ?_⟩
    exact (((((Below.refl _ _).alloc (Nat.le_refl _) _).alloc (by simp) _).alloc (by simp; omega) _).alloc (by simp; omega) _).alloc (by simp; omega) _
  have hsz : (((((w.alloc (Obj.cells #[Value.slice A l.length cA] 24)).alloc (Obj.cells #[Value.slice D d.length cD] 30)).alloc (Obj.cells #[Value.slice none 0 0] 28)).alloc (Obj.cells #[Value.slice A l.length cA] 24)).alloc (Obj.cells #[Value.slice D d.length cD] 30)).heap.size = w.heap.size + 5 := by simp
  obtain ⟨W0, hW0⟩ : ∃ W0, (((((w.alloc (Obj.cells #[Value.slice A l.length cA] 24)).alloc (Obj.cells #[Value.slice D d.length cD] 30)).alloc (Obj.cells #[Value.slice none 0 0] 28)).alloc (Obj.cells #[Value.slice A l.length cA] 24)).alloc (Obj.cells #[Value.slice D d.length cD] 30)) = W0 := ⟨_, rfl⟩
  rw [hW0] at hsz hI0 ⊢
  clear hW0
  obtain ⟨i0, hj1, hj2, hj3, hj4⟩ := info_parts infoE
  have hg := kept_gives w.heap.size (w.heap.size + 3) (w.heap.size + 4) cD (.slice A l.length cA) D l dv W0 (by omega) (At.keep (fun p hp => hI0.below.cell hp) (fun g hg => hg) HU.out) hl
    (fun i hi => by
      obtain ⟨ad, e, hb, hc, ha⟩ := HEV.out i hi
      exact ⟨ad, e, hb, hc.keep (fun p hp => hI0.below.cell (by rw [hp, block_of_add]; exact hb)), At.keep (fun p hp => hI0.below.cell hp) (fun g hg => hg) ha⟩) (by omega) hI0.bs (by rw [hln]; exact hI0.bd)
  refine wpIn_gives2 rfl (by omega) (gf := 76) (lb := #[.pointer (some ⟨w.heap.size + 4, 0, none⟩), .pointer (some ⟨w.heap.size + 3, 0, none⟩)]) rfl trivial (enters_of Tryz.func76 (by kernel_rfl) rfl)
    hg KpE.trans (belowK_e (by omega) (by omega) (by omega)) (Below.refl _ _) (fun _ => rfl)
    (StIN w (.slice A l.length cA) (.slice D d.length cD)) (stIN_own _ _ _ _ (by omega)) hI0
    (fun x m => { tmps := #[.agg #[.slice A l.length cA], .agg #[.slice D d.length cD], .pointer (some ⟨w.heap.size, 0, none⟩), .pointer (some ⟨w.heap.size + 1, 0, none⟩), .slice none 0 0, .pointer (some ⟨w.heap.size + 2, 0, none⟩), .pointer (some ⟨m, 0, none⟩),
      .agg #[.slice A l.length cA], .agg #[.slice D d.length cD], .func (.func 76) #[] #[.pointer (some ⟨w.heap.size + 4, 0, none⟩), .pointer (some ⟨w.heap.size + 3, 0, none⟩)], .agg #[.string x.1.field, .string x.1.text, x.2], undef, undef, undef, undef, undef, undef, undef, undef, undef], defers := [] })
    (StJN w (.slice A l.length cA) (.slice D d.length cD)) (stJN_own _ _ _ _ (by omega)) ?assign ?body ?done
  case assign =>
    intro l0 pre x W K hnx hI hK
    dsimp only [encE]
    have hz : w.heap.size + 5 ≤ W.heap.size := by have := hI.bd.lt; omega
    have hax := (HXQ.out _ (nxE_mem hnx)).2
    obtain ⟨⟨f, t, nn⟩, v⟩ := x
    dsimp only at hax
    obtain ⟨X, z, rfl, _, _⟩ := at_slice hax
    gi_wp2
    exact hK _ ((Below.refl _ _).alloc (Nat.le_refl _) _) (KpE.below ((Below.refl _ _).alloc (Nat.le_refl _) _) (by omega) (by omega) (by omega)) (stJN_of hI hz)
  case body =>
    intro l0 pre x m W hnx hJ
    obtain ⟨v, vs, hv, hrow, hnum, hvm⟩ := hJ.out
    have hax := HXQ.out _ (nxE_mem hnx)
    have hpl := nxE_len hnx
    obtain ⟨e, vx⟩ := x
    dsimp only at hax
    obtain ⟨hok, hax⟩ := hax
    have HC := Lib.hid (fun (V : World) (hV : Below w.heap.size w V) => clone_own vx e.nums V (At.keep (fun p hp => hV.cell hp) (fun g hg => by have := hV.size; omega) hax) hok.nums.1)
    obtain ⟨X, z, rfl, _, _⟩ := at_slice hax
    have hone := hJ.one
    have hfar := hJ.far
    dsimp only at hone
    have c0 := hone.cell 0
    have c2 : W.cell? ⟨m, 2, none⟩ = some (.slice X e.nums.length z) := hone.cell 2
    have HJ := Lib.hid hJ; have HONE := Lib.hid hone; have HV := Lib.hid hv; have HROW := Lib.hid hrow; have HNUM := Lib.hid hnum; have HVM := Lib.hid hvm
    have hmz : m < W.heap.size := hone.lt
    clear hJ hone hax hok hv hrow hnum hvm
    gi_wp2_with fail
    refine ⟨trivial, ?_⟩
    refine CallsIn.inRound l0 (callsIn_wide.2 (HC.out W HJ.out.below)) |>.mono ?_
    rintro e' w3 ⟨vy, rfl, hay, hb3⟩
    obtain ⟨Y, z2, rfl⟩ := own_slice hay.own
    have HAY := Lib.hid hay
    have BE3 := Lib.hid (HONE.out.below hb3 hmz)
    have HB3 := Lib.hid hb3
    have f2 : w3.frozen? ⟨m, 2, none⟩ = false := BE3.out.frozen 2
    have b2 : w3.cell? ⟨m, 2, none⟩ = some (.slice X e.nums.length z) := BE3.out.cell 2
    have hz3 := hb3.size
    have BE5 : Hid (Blk (w3.setCell ⟨m, 2, none⟩ (.slice Y e.nums.length z2)) m 68 #[.string e.field, .string e.text, .slice Y e.nums.length z2]) := Lib.hid (BE3.out.set_ 2 _)
    have HB5 : Hid (Below m W (w3.setCell ⟨m, 2, none⟩ (.slice Y e.nums.length z2))) := Lib.hid ((HB3.out.mono (Nat.le_of_lt hmz) : Below m W w3).setCell (p := ⟨m, 2, none⟩) (Nat.le_refl m) _)
    have AT5 : Hid (NumsIn 2 .i64 W.heap.size w3.heap.size (w3.setCell ⟨m, 2, none⟩ (.slice Y e.nums.length z2)) e.nums (.slice Y e.nums.length z2)) := Lib.hid (nums_far HAY.out (p := ⟨m, 2, none⟩) hmz _)
    have HK5 : Hid (KeepsOthers W (w3.setCell ⟨m, 2, none⟩ (.slice Y e.nums.length z2))) := Lib.hid ((keepsOthers_below HB3.out).trans (KeepsOthers.setCell _ _ _))
    have hx0 : (w3.setCell ⟨m, 2, none⟩ (.slice Y e.nums.length z2)).cell? ⟨w.heap.size + 2, 0, none⟩ = some v := (HB5.out.cell (p := ⟨w.heap.size + 2, 0, none⟩) (by show w.heap.size + 2 < m; omega)).trans HV.out.cell
    have hx1 : (w3.setCell ⟨m, 2, none⟩ (.slice Y e.nums.length z2)).cell? ⟨m, 0, none⟩ = some (.string e.field) := BE5.out.cell 0
    have hx2 : (w3.setCell ⟨m, 2, none⟩ (.slice Y e.nums.length z2)).cell? ⟨m, 1, none⟩ = some (.string e.text) := BE5.out.cell 1
    have hx3 : (w3.setCell ⟨m, 2, none⟩ (.slice Y e.nums.length z2)).cell? ⟨m, 2, none⟩ = some (.slice Y e.nums.length z2) := BE5.out.cell 2
    have hco : (w3.setCell ⟨m, 2, none⟩ (.slice Y e.nums.length z2)).ownsRow w.heap.size 68 3 v (pre.map (·.1)).length (vals3 epre (pre.map (·.1)) vs) := own_keep HROW.out fun g hg => HB5.out.block g (HVM.out g hg)
    have HN5 : Hid (NumL 2 .i64 ET.nums (w3.setCell ⟨m, 2, none⟩ (.slice Y e.nums.length z2)) w.heap.size m (pre.map (·.1)) vs) := Lib.hid (HNUM.out.below HB5.out (Nat.le_refl _))
    have hz5 : W.heap.size ≤ (w3.setCell ⟨m, 2, none⟩ (.slice Y e.nums.length z2)).heap.size := by simp [World.setCell]; omega
    simp only [List.length_map] at hco
    clear hay hb3 c0 c2 BE3 HAY HB3 HROW HNUM HVM
    gi_wp2_with (gi_at_builtin; refine wpListIn_append_any _ rfl (.tmp 15) (.tmp 17) 28 rfl w.heap.size 68 i0 _ 3 56 Tryz.underlying28 hj1 hj2 hj3 hj4 rfl (by decide) _ pre.length (vals3 epre (pre.map (·.1)) vs) rfl (hco.alloc _) (w3.heap.size + 1) (some ⟨w3.heap.size, 0, none⟩) 1 1 [.string e.field, .string e.text, .slice Y e.nums.length z2] rfl ?c1 ?c2 ?c3 ?c4 ?c5 ?_)
    case c1 => exact ⟨rfl, fun _ => ⟨_, rfl, by simp, fun j u hu => by have := cells_new (w3.setCell ⟨m, 2, none⟩ (.slice Y e.nums.length z2)) [.string e.field, .string e.text, .slice Y e.nums.length z2] 68 j u hu; simpa [World.setCell] using this⟩⟩
    case c2 => intro u hu; simp only [List.mem_cons, List.not_mem_nil, or_false] at hu; rcases hu with rfl | rfl | rfl <;> rfl
    case c3 => unfold maxLen; omega
    case c4 => omega
    case c5 => have := HJ.out.below.size; simp [World.setCell]; omega
    intro v' w1 ho hgr hvv
    obtain ⟨g', cap', rfl⟩ := ownsRow_succ ho
    have hse : (w3.setCell ⟨m, 2, none⟩ (.slice Y e.nums.length z2)).heap.size = w3.heap.size := by simp [World.setCell]
    generalize w3.setCell ⟨m, 2, none⟩ (.slice Y e.nums.length z2) = W5 at *
    have hBX : Boxed W5 (w.heap.size + 2) 28 v := (HB5.out.block _ (by omega)).trans HV.out
    obtain ⟨hv1, hv2, hr2, hk2, hb2⟩ := hBX.appended (by decide) hco (by have := HJ.out.below.size; omega) (by omega) ho hgr
    have hnr := (hv1.not_row (by decide) ho)
    have hrg : RowN 68 2 .i64 epre ET.nums w.heap.size w1 (.slice (some ⟨g', 0, none⟩) (pre.length + 1) cap') ((pre ++ [(e, Value.slice X e.nums.length z)]).map (·.1)) := by
      rw [List.map_append]
      refine rowN_stepM (m := m) (w3 := W5.alloc (.cells #[.string e.field, .string e.text, .slice Y e.nums.length z2] 68)) (u := .slice Y e.nums.length z2) (by decide) (by rw [List.length_map]; exact hco.alloc _) (HN5.out.below ((Below.refl _ _).alloc (by omega) _) (by omega)) ?_ (by simp; omega) (by simpa [epre] using ho) hgr
      exact ((AT5.out.from_ (by omega : m ≤ W.heap.size)).below ((Below.refl _ _).alloc (by omega) _) (Nat.le_of_eq hse.symm)).more (by simp; omega)
    have hc1 := hv1.cell
    have hf1 := hv1.frozen
    have HRG := Lib.hid (rowN_set hrg hv1 (by decide) (by decide) (.slice (some ⟨g', 0, none⟩) (pre.length + 1) cap'))
    have hbs5 : Blk W5 (w.heap.size + 3) 24 #[.slice A l.length cA] := HJ.out.bs.below HB5.out (by omega)
    have hbd5 : Blk W5 (w.heap.size + 4) 30 #[.slice D d.length cD] := HJ.out.bd.below HB5.out (by omega)
    have HBS := Lib.hid (((hbs5.alloc _).grown hgr (fun h => own_blk_ne hco hbs5 (by decide) h.symm)).far (p := ⟨w.heap.size + 2, 0, none⟩) (by show w.heap.size + 3 ≠ w.heap.size + 2; omega) (.slice (some ⟨g', 0, none⟩) (pre.length + 1) cap'))
    have HBD := Lib.hid (((hbd5.alloc _).grown hgr (fun h => own_blk_ne hco hbd5 (by decide) h.symm)).far (p := ⟨w.heap.size + 2, 0, none⟩) (by show w.heap.size + 4 ≠ w.heap.size + 2; omega) (.slice (some ⟨g', 0, none⟩) (pre.length + 1) cap'))
    have HV2 := Lib.hid hv2; have HK2 := Lib.hid (HK5.out.trans hk2); have HB2 := Lib.hid ((HB5.out.mono (show w.heap.size ≤ m by omega)).trans hb2)
    clear hv2 hk2 hb2 hrg hbs5 hbd5 hr2 ho hgr hvv hco hx0 hx1 hx2 hx3 hnr
    gi_wp2_with fail
    exact ⟨HK2.out.from _, ⟨HB2.out, Eq.trans HBS.out HJ.out.bs.symm, Eq.trans HBD.out HJ.out.bd.symm⟩, ⟨_, HV2.out, HRG.out⟩, HBS.out, HBD.out, HJ.out.below.trans HB2.out⟩
  case done =>
    rintro Dd ys W hD rfl hI hK
    obtain ⟨v, hv, hrow⟩ := hI.out
    have hc := hv.cell
    have hat := hrow
    rw [keptV_map, HDV.out] at hat
    have HI := Lib.hid hI; have HAT := Lib.hid hat; have HK := Lib.hid hK
    have hzw := hI.below.size
    clear hI hat hv hrow
    gi_wp2_with fail
    refine ⟨by simp, .inl ⟨_, _, rfl, run_takeDeferred HK.out, ?_⟩⟩
    refine ⟨_, results_tmp rfl _ _ _, ?_⟩
    refine ⟨_, rfl, ?_, HI.out.below.trans (belowK_b (w := w) (Nat.le_refl _) W Dd _ _ (by omega) HK.out rfl rfl)⟩
    exact rowN_turns HAT.out (grownBy_putObj' W Dd _) (by simp) fun r e => by cases e; exact ⟨_, HK.out, rfl⟩
theorem stored_anyN (u x : Value) (l : List FT) (d : List ET) (w : World) (hu : T.At bare w (fun g => g < w.heap.size) (fieldsT l) u) (hl : l.length * 72 ≤ 140737488351232)
    (hx : T.At bare w (fun g => g < w.heap.size) (entriesT d) x) (hd : d.length * 56 ≤ 140737488351232) (ok : ∀ e ∈ d, EOk e) :
    Calls Tryz.prog 26 #[.agg #[u], .agg #[x]] w (StoredRetN (storedF l d) w) := callsIn_wide.1 (stored_inN u x l d w hu hl hx hd ok)
end Go.Proofs.YtfckomjbgopmaaaGreatDoor.Sch
end
section
set_option linter.unusedVariables false
namespace Go.Proofs.YtfckomjbgopmaaaGreatDoor.Sch
open Go.RowKit Words Tree SchP Kit Owned AnaP

/-- A field's name is found, at its own place or ahead of it. -/
theorem find_self {l : List FT} {k : Nat} (h : k < l.length) : ∃ j : Nat, j ≤ k ∧ findZ l l[k].name = j ∧ firstB l k = decide (j = k) := by
  cases hf : findF l l[k].name with
  | none => exact absurd rfl (findF_none hf _ (List.getElem_mem h))
  | some j =>
    obtain ⟨h1, h2, h3⟩ := findF_some hf
    refine ⟨j, ?_, by rw [findZ_eq, hf]; rfl, ?_⟩
    · rcases Nat.lt_or_ge k j with h4 | h4
      · exact absurd rfl (h3 k h4)
      · exact h4
    · rw [first_find h, hf]; simp

set_option maxRecDepth 100000 in
set_option maxHeartbeats 4000000 in
theorem checkS_any (u : Value) (l : List FT) (w : World) (hu : T.At bare w (fun g => g < w.heap.size) (fieldsT l) u) (hl : l.length * 72 ≤ 140737488351232) (hf : ∀ f ∈ l, FOk f) :
    Calls Tryz.prog 25 #[.agg #[u]] w (IntB (errS (checkS l)) w) := by
  have HFI := Lib.hid (fun (s : ByteArray) (W : World) (hW : Below w.heap.size w W) => find_any u l s W (At.below hu hW (fun g hg => Nat.lt_of_lt_of_le hg hW.size)) hl)
  obtain ⟨A, cap, rfl, hc, hm, hel⟩ := at_row fcells_len hu
  have EL := Lib.hid hel
  have HF := Lib.hid hf
  obtain ⟨r, hr⟩ : ∃ r, checkS l = r := ⟨_, rfl⟩
  have HR := Lib.hid hr
  rw [hr]
  clear hel hu hf hr
  rcases (show l.length = 0 ∨ 16 < l.length ∨ (1 ≤ l.length ∧ l.length ≤ 16) by omega) with h0 | h0 | ⟨h0, h1⟩
  · have HRF : Hid (r = false) := Lib.hid (by rw [← HR.out, checkS, h0]; simp)
    rw [h0]
    clear EL HFI HF HR
    go_enter Tryz.func25, Tryz.ntmps25
    go_wp2_with fail
    go_ret
    rw [HRF.out]
    exact ⟨rfl, (Below.refl _ _).alloc (Nat.le_refl _) _⟩
  · have HRF : Hid (r = false) := Lib.hid (by rw [← HR.out, checkS]; simp; omega)
    have h2 : ¬ l.length < 1 := by omega
    have a1 : decide ((l.length : Int) < 1) = false := by rw [decide_eq_false_iff_not]; omega
    have a2 : decide ((16 : Int) < l.length) = true := by rw [decide_eq_true_iff]; omega
    go_enter Tryz.func25, Tryz.ntmps25
    go_wp2_with fail
    go_ret
    rw [HRF.out]
    exact ⟨rfl, (Below.refl _ _).alloc (Nat.le_refl _) _⟩
  have HRQ : Hid (r = okTo l l.length) := Lib.hid (by rw [← HR.out, checkS, decide_eq_true h0, decide_eq_true h1]; simp)
  have a1 : decide ((l.length : Int) < 1) = false := by rw [decide_eq_false_iff_not]; omega
  have a2 : decide ((16 : Int) < l.length) = false := by rw [decide_eq_false_iff_not]; omega
  clear HR
  go_enter Tryz.func25, Tryz.ntmps25
  go_wp2_with fail
  have HB := Lib.hid ((Below.refl _ w).alloc (Nat.le_refl _) (Obj.cells #[.slice A l.length cap] 24))
  have BA := Lib.hid (Blk.new w 24 #[.slice A l.length cap])
  have hzW : (w.alloc (Obj.cells #[.slice A l.length cap] 24)).heap.size = w.heap.size + 1 := by simp
  generalize w.alloc (Obj.cells #[.slice A l.length cap] 24) = W at *
  go_loopw [20] (fun i wr => ∃ k : Nat, k ≤ l.length ∧ i = .int .i64 k ∧ Hid (okTo l k = true) ∧ Hid (Below W.heap.size W wr)) (fun i _ => l.length - (intOf i).toNat)
  case atStart => exact ⟨0, by omega, rfl, Lib.hid (okTo_zero l), Lib.hid (Below.refl _ _)⟩
  case round =>
    obtain ⟨k, hkk, rfl, HK, HW⟩ := hrel
    have BA2 := Lib.hid (BA.out.below HW.out (by omega))
    have hcA : wr.cell? ⟨w.heap.size, 0, none⟩ = some (.slice A l.length cap) := BA2.out.cell 0
    have hzr := HW.out.size
    have HWW : Hid (Below w.heap.size w wr) := Lib.hid (HB.out.trans (HW.out.mono HB.out.size))
    by_cases hlt : k < l.length
    · obtain ⟨ad, us, rfl, hba, au, lu, cu⟩ := EL.out k hlt
      replace cu := cu.keep (w' := wr) (fun p hp => HWW.out.cell (by rw [hp, block_of_add]; exact hba))
      have hab : (ad.add (k * 7)).block < wr.heap.size := by rw [block_of_add]; omega
      have hok := HF.out _ (List.getElem_mem hlt)
      have HS : Hid (okTo l (k + 1) = (firstB l k && mayB l[k])) := Lib.hid (by rw [okTo_succ, HK.out, okAt_eq hlt]; simp)
      have HNO : Hid ((firstB l k && mayB l[k]) = false → r = false) := Lib.hid (fun h => by rw [HRQ.out]; exact okTo_no (by rw [okAt_eq hlt]; exact h) hlt)
      obtain ⟨j, hjk, hfz, hfb⟩ := find_self hlt
      rw [hfb] at HS HNO
      generalize l[k] = f at *
      obtain ⟨vc, rfl, gc⟩ := at_fcells au
      have HM := Lib.hid (fun (V : World) (hV : Below w.heap.size w V) => may_any f vc V (At.below gc hV (fun g hg => Nat.lt_of_lt_of_le hg hV.size)) hok)
      obtain ⟨X, z, rfl, _, _⟩ := at_slice gc
      have HFC := Lib.hid (fun (V : World) (hV : Below w.heap.size w V) => HFI.out f.name V hV)
      rw [hfz] at HFC
      obtain ⟨a0, a1', a2', a3, a4, a5, a6⟩ := seven cu
      clear cu au lu gc hok hfz hfb
      obtain ⟨f0, f1, f2, f3, f4, f5, f6⟩ := f
      dsimp only at *
      have hw1 : w.heap.size < wr.heap.size := by omega
      obtain ⟨b, hb⟩ : ∃ b, mayB ⟨f0, f1, f2, f3, f4, f5, f6⟩ = b := ⟨_, rfl⟩
      rw [hb] at HM HS HNO
      clear hb
      go_wp2_with fail
      refine (HFC.out _ (HWW.out.alloc HWW.out.size _)).mono ?_
      rintro e W1 ⟨rfl, b1⟩
      have HB1 := Lib.hid (((Below.refl _ wr).alloc (Nat.le_refl _) _).trans (b1.mono (by simp)) : Below wr.heap.size wr W1)
      have BF := Lib.hid ((Blk.new wr _ _).below b1 (by simp))
      obtain ⟨p0, p1, p2, p3, p4, p5, p6⟩ := blk7 BF.out
      have hmx : max 0 (j : Int) = j := by omega
      have hdx : decide (0 ≤ (j : Int)) = true := decide_eq_true (by omega)
      rw [hmx, hdx]
      clear b1 a0 a1' a2' a3 a4 a5 a6 hcA hmx hdx
      by_cases hj : j = k
      · subst hj
        have hbk : ((j : Int) != (j : Int)) = false := by simp
        go_wp2_with fail
        refine (HM.out _ (HWW.out.trans (HB1.out.mono HWW.out.size))).mono ?_
        rintro e W2 ⟨rfl, b2⟩
        have HB2 := Lib.hid (HB1.out.trans (b2.mono HB1.out.size))
        clear b2
        cases b with
        | true =>
          go_wp2_with fail
          go_roundw
          case rel => exact ⟨j + 1, by omega, by go_num, Lib.hid (by rw [HS.out]; simp), Lib.hid (HW.out.trans (HB2.out.mono HW.out.size))⟩
          case measure => simp [intOf]; omega
        | false =>
          have HN : Hid (r = false) := Lib.hid (HNO.out (by simp))
          go_wp2_with fail
          go_ret
          rw [HN.out]
          exact ⟨rfl, HWW.out.trans (HB2.out.mono HWW.out.size)⟩
      · have hbk : ((j : Int) != (k : Int)) = true := by rw [bne_iff_ne]; omega
        have HN : Hid (r = false) := Lib.hid (HNO.out (by rw [decide_eq_false hj]; rfl))
        go_wp2_with fail
        go_ret
        rw [HN.out]
        exact ⟨rfl, HWW.out.trans (HB1.out.mono HWW.out.size)⟩
    · obtain rfl : k = l.length := by omega
      have HT : Hid (r = true) := Lib.hid (by rw [HRQ.out, HK.out])
      go_wp2_with fail
      go_ret
      rw [HT.out]
      exact ⟨rfl, HWW.out⟩
end Go.Proofs.YtfckomjbgopmaaaGreatDoor.Sch
end
