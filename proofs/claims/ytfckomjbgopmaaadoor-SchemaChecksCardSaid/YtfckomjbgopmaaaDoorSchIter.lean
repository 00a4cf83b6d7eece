/- Contract: the iterator of a document's stored entries gives them in their order. -/
import Derived.Test.YtfckomjbgopmaaaDoorSchRefStored
import Derived.Test.YtfckomjbgopmaaaDoorSchFind2
import Derived.Test.YtfckomjbgopmaaaDoorRange
import Derived.RangeFuncBound
import Derived.RangeFuncCalls
import Derived.RangeFuncLeaves
import Derived.OwnWalkIn
import Derived.TacticsInMore
import Derived.LoopNIn
import Derived.LoopIn
set_option linter.unusedVariables false
namespace Go.Proofs.YtfckomjbgopmaaaDoor.Sch
open Go.RowKit Words Tree SchP Kit Owned Range

attribute [local go_sem] Oper.semAt_some

/-- An entry as it lies in memory: with its numbers' slice. -/
abbrev EV := ET × Value
def encE (x : EV) : Array Value := #[.agg #[.string x.1.field, .string x.1.text, x.2]]
def keptV (l : List FT) (dv : List EV) : List EV := dv.filter fun x => keepB l x.1
def NxE (l : List FT) (dv : List EV) (pre : List EV) (x : EV) : Prop := ∃ rest, pre ++ x :: rest = keptV l dv
/-- What a round keeps: what lay below, and the iterator's two variables. -/
def KpE (B bs bd : Nat) (W W' : World) : Prop := Below B W W' ∧ W'.heap[bs]? = W.heap[bs]? ∧ W'.heap[bd]? = W.heap[bd]?
theorem KpE.trans {B bs bd : Nat} {X Y Z : World} (h : KpE B bs bd X Y) (k : KpE B bs bd Y Z) : KpE B bs bd X Z := ⟨h.1.trans k.1, k.2.1.trans h.2.1, k.2.2.trans h.2.2⟩
theorem KpE.below {B bs bd N : Nat} {W W' : World} (h : Below N W W') (h1 : B ≤ N) (h2 : bs < N) (h3 : bd < N) : KpE B bs bd W W' := ⟨h.mono h1, h.block bs h2, h.block bd h3⟩
theorem keptV_map (l : List FT) (dv : List EV) : (keptV l dv).map (·.1) = storedF l (dv.map (·.1)) := by
  unfold keptV storedF
  rw [List.filter_map]; rfl
theorem keptV_drop {l : List FT} {dv : List EV} {k : Nat} (h : k < dv.length) : keptV l (dv.drop k) = if keepB l dv[k].1 then dv[k] :: keptV l (dv.drop (k + 1)) else keptV l (dv.drop (k + 1)) := by
  rw [List.drop_eq_getElem_cons h, keptV, List.filter_cons]; rfl
/-- The entries with their slices. -/
def EntriesV (w : World) (B : Nat) (D : Option Addr) (dv : List EV) : Prop := ∀ (i : Nat) (hi : i < dv.length), ∃ ad, D = some ad ∧ ad.block < B ∧ Cells w (ad.add (i * 3)) [.string dv[i].1.field, .string dv[i].1.text, dv[i].2] ∧ T.At bare w (fun g => g < B) (numsT .i64 dv[i].1.nums) dv[i].2
theorem vals_exist {n : Nat} {P : Nat → Value → Prop} (h : ∀ i, i < n → ∃ v, P i v) : ∃ vs : List Value, vs.length = n ∧ ∀ (i : Nat) (hi : i < vs.length), P i vs[i] := by
  induction n with
  | zero => exact ⟨[], rfl, fun i hi => by simp at hi⟩
  | succ n ih =>
    obtain ⟨vs, h1, h2⟩ := ih fun i hi => h i (by omega)
    obtain ⟨v, hv⟩ := h n (by omega)
    refine ⟨vs ++ [v], by simp [h1], fun i hi => ?_⟩
    rcases Nat.lt_or_ge i vs.length with h3 | h3
    · rw [List.getElem_append_left h3]; exact h2 i h3
    · obtain rfl : i = vs.length := by simp at hi; omega
      rw [List.getElem_concat_length rfl]; rw [h1]; exact hv
theorem entriesV_of {w : World} {B : Nat} {d : List ET} {x : Value} (h : T.At bare w (fun g => g < B) (entriesT d) x) : ∃ D c dv, x = .slice D d.length c ∧ dv.map (·.1) = d ∧ EntriesV w B D dv := by
  obtain ⟨D, c, rfl, _, _, hel⟩ := at_row ecells_len h
  have hv : ∀ i, i < d.length → ∃ v, ∀ (hi : i < d.length), ∃ ad, D = some ad ∧ ad.block < B ∧ Cells w (ad.add (i * 3)) [.string d[i].field, .string d[i].text, v] ∧ T.At bare w (fun g => g < B) (numsT .i64 d[i].nums) v := fun i hi => by
    obtain ⟨ad, us, e, hb, au, _, cu⟩ := hel i hi
    obtain ⟨v, rfl, hv⟩ := at_ecells au
    exact ⟨v, fun _ => ⟨ad, e, hb, cu, hv⟩⟩
  obtain ⟨vs, h1, h2⟩ := vals_exist hv
  refine ⟨D, c, d.zip vs, rfl, List.map_fst_zip (by omega), fun i hi => ?_⟩
  have hi1 : i < d.length := by simp at hi; omega
  have hi2 : i < vs.length := by omega
  have := h2 i hi2 hi1
  simpa using this

set_option maxRecDepth 100000 in
set_option maxHeartbeats 4000000 in
theorem kept1_gives (l0 B bs bd cD : Nat) (u : Value) (D : Option Addr) (l : List FT) (dv : List EV) (J : List EV → World → Prop) (W : World) (hB : B ≤ W.heap.size)
    (hu : T.At bare W (fun g => g < B) (fieldsT l) u) (hl : l.length * 72 ≤ 140737488351232) (hx : EntriesV W B D dv) (hd : dv.length * 56 ≤ 140737488351232)
    (hJ : AbidesFrom W.heap.size J)
    (hY : ∀ pre x W1, NxE l dv pre x → J pre W1 → YieldAt Fence.wide 4 Tryd.prog l0 (encE x) W1 fun e W' => e = .returned (.bool true) ∧ J (pre ++ [x]) W' ∧ KpE B bs bd W1 W')
    (hbs : W.heap[bs]? = some (.cells #[u] 24 (0, 0))) (hbd : W.heap[bd]? = some (.cells #[.slice D dv.length cD] 27 (0, 0))) (h0 : J [] W) :
    CallsIn Fence.wide 5 Tryd.prog 32 #[.func (.yield l0) #[] #[], .pointer (some ⟨bd, 0, none⟩), .pointer (some ⟨bs, 0, none⟩)] W fun e W' => (∃ v, e = .returned v) ∧ ∃ ys, ys = keptV l dv ∧ J ys W' := by
  have HJ := Lib.hid hJ; have HY := Lib.hid hY; have HU := Lib.hid hu; have HX := Lib.hid hx; have HBS := Lib.hid hbs
  have hcd : W.cell? ⟨bd, 0, none⟩ = some (.slice D dv.length cD) := by simp [World.cell?, hbd]
  clear hJ hY hu hx hbs
  have HBD := Lib.hid hbd; clear hbd
  refine callsIn_of_wp Tryd.func32 rfl trivial ?_ rfl
  simp only [Tryd.ntmps32, List.size_toArray, List.length_cons, List.length_nil, Nat.reduceAdd, Nat.reduceSub, Array.replicate_succ, Array.replicate_zero, List.push_toArray, List.append_toArray, List.nil_append, List.cons_append]
  gi_wp2
  clear hcd
  gi_loopw [11] (fun i wr => ∃ (k : Nat) (pre : List EV), k ≤ dv.length ∧ i = .int .i64 k ∧ J pre wr ∧ Hid (pre ++ keptV l (dv.drop k) = keptV l dv) ∧ Hid (KpE B bs bd W wr) ∧ W.heap.size ≤ wr.heap.size)
    (fun i _ => dv.length - (RowKit.intOf i).toNat)
  case atStart => exact ⟨0, [], Nat.zero_le _, rfl, h0, Lib.hid rfl, Lib.hid ⟨Below.refl _ _, rfl, rfl⟩, Nat.le_refl _⟩
  case round =>
    obtain ⟨k, pre, hk, rfl, hJs, hpre, hkp, hsz⟩ := hrel
    by_cases hlt : k < dv.length
    · obtain ⟨ad, rfl, hba, cu, au⟩ := HX.out k hlt
      replace cu := cu.keep (w' := wr) (fun p hp => hkp.out.1.cell (by rw [hp, block_of_add]; exact hba))
      have hbB : (ad.add (k * 3)).block < wr.heap.size := by rw [block_of_add]; omega
      have HD := Lib.hid (keptV_drop (l := l) hlt)
      have HFZ := Lib.hid (findZ_eq l (dv[k]'hlt).1.field)
      have HKN : Hid (findF l (dv[k]'hlt).1.field = none → keepB l (dv[k]'hlt).1 = false) := Lib.hid keepB_none
      have HKS : Hid (∀ (i : Nat) (hi : i < l.length), findF l (dv[k]'hlt).1.field = some i → keepB l (dv[k]'hlt).1 = l[i].stored) := Lib.hid (fun i hi hq => keepB_some hq hi)
      generalize dv[k] = x at *
      obtain ⟨x, v⟩ := x
      dsimp only at *
      obtain ⟨X, z, rfl, _, _⟩ := at_slice au
      have hcs : wr.cell? ⟨bs, 0, none⟩ = some u := by have := hkp.out.2.1.trans HBS.out; simp [World.cell?, this]
      have hbsl : bs < wr.heap.size := by
        have := hkp.out.2.1.trans HBS.out
        exact (Array.getElem?_eq_some_iff.1 this).1
      have hbdl : bd < wr.heap.size := by
        have := hkp.out.2.2.trans HBD.out
        exact (Array.getElem?_eq_some_iff.1 this).1
      have HF := Lib.hid (fun (V : World) (hV : Below wr.heap.size wr V) => find_any u l x.field V (At.keep (fun p hp => (hV.cell (by omega)).trans (hkp.out.1.cell hp)) (fun g hg => by have := hV.size; omega) HU.out) hl)
      obtain ⟨A, cA, rfl, hcA, hmA, hel⟩ := at_row fcells_len HU.out
      have EA := Lib.hid hel
      obtain ⟨a0, a1, a2⟩ := three cu
      have HB := hB
      clear cu au hel
      gi_wp2_with fail
      refine ⟨trivial, ?_⟩
      refine (callsIn_wide.2 (HF.out _ ((Below.refl _ _).alloc (Nat.le_refl _) _))).mono ?_
      rintro e w2 ⟨rfl, hb2⟩
      have hJ1 : J pre w2 := HJ.out _ _ _ none hJs (only_of_below ((Below.refl _ _).alloc (Nat.le_refl _) _ |>.trans (hb2.mono (by simp))) none) (fun r e => by cases e)
      have hk2 : KpE B bs bd wr w2 := KpE.below ((Below.refl _ _).alloc (Nat.le_refl _) _ |>.trans (hb2.mono (by simp))) (by omega) hbsl hbdl
      have HKP := Lib.hid (hkp.out.trans hk2)
      have hsz2 : W.heap.size ≤ w2.heap.size := by have := hb2.size; simp at this; omega
      have BE := Lib.hid ((Blk.new wr 53 #[.string x.field, .string x.text, .slice X x.nums.length z]).below hb2 (by simp))
      have hcs2 : w2.cell? ⟨bs, 0, none⟩ = some (.slice A l.length cA) := by have := HKP.out.2.1.trans HBS.out; simp [World.cell?, this]
      clear hb2 a0 a1 a2 hcs hk2
      rw [HFZ.out]
      cases hfi : findF l x.field with
      | none =>
        have HE : Hid (pre ++ keptV l (dv.drop (k + 1)) = keptV l dv) := Lib.hid (by rw [← hpre.out, HD.out, HKN.out hfi]; rfl)
        have hm : max (0 : Int) (zOf none) = 0 := by decide
        have hz0 : decide ((0 : Int) ≤ zOf none) = false := by decide
        clear hfi HF
        rw [hm, hz0]
        gi_wp2_with fail
        refine ⟨fun f e => (by cases e), ?_⟩
        gi_wp2_with fail
        go_roundw
        case rel => exact ⟨k + 1, pre, by omega, by go_num, hJ1, HE, HKP, hsz2⟩
        case measure => simp [RowKit.intOf]; omega
      | some i =>
        obtain ⟨hil, _, _⟩ := findF_some hfi
        have HKK := Lib.hid (HKS.out i hil hfi)
        obtain ⟨sd, us2, rfl, hbs, asx, ls, cs⟩ := EA.out i hil
        replace cs := cs.keep (w' := w2) (fun p hp => HKP.out.1.cell (by rw [hp, block_of_add]; exact hbs))
        generalize l[i] = f at *
        obtain ⟨vs, rfl, -⟩ := at_fcells asx
        obtain ⟨-, -, -, -, -, -, s6⟩ := seven cs
        obtain ⟨f0, f1, f2, f3, f4, f5, f6⟩ := f
        have hm : max (0 : Int) (zOf (some i)) = i := by simp only [zOf]; omega
        have hz0 : decide ((0 : Int) ≤ zOf (some i)) = true := decide_eq_true (by simp only [zOf]; omega)
        clear hfi HF cs asx ls
        rw [hm, hz0]
        dsimp only at *
        clear hm hz0
        cases f6 with
        | false =>
          have HE : Hid (pre ++ keptV l (dv.drop (k + 1)) = keptV l dv) := Lib.hid (by rw [← hpre.out, HD.out, HKK.out]; rfl)
          gi_wp2_with fail
          refine ⟨fun f e => (by cases e), ?_⟩
          gi_wp2_with fail
          go_roundw
          case rel => exact ⟨k + 1, pre, by omega, by go_num, hJ1, HE, HKP, hsz2⟩
          case measure => simp [RowKit.intOf]; omega
        | true =>
          have HP : Hid (pre ++ (x, .slice X x.nums.length z) :: keptV l (dv.drop (k + 1)) = keptV l dv) := Lib.hid (by rw [← hpre.out, HD.out, HKK.out]; rfl)
          have HNX : Hid (NxE l dv pre (x, .slice X x.nums.length z)) := Lib.hid ⟨_, HP.out⟩
          obtain ⟨fn, tmps, assign, body, hy, hR⟩ := HY.out pre (x, .slice X x.nums.length z) w2 HNX.out hJ1
          dsimp only [encE] at hy
          have c0 := BE.out.cell 0
          have c1 := BE.out.cell 1
          have c2 := BE.out.cell 2
          gi_wp2_with fail
          refine hR.mono ?_
          rintro e W3 ⟨rfl, hJ3, hk3⟩
          have HE : Hid ((pre ++ [(x, .slice X x.nums.length z)]) ++ keptV l (dv.drop (k + 1)) = keptV l dv) := Lib.hid (by rw [← HP.out]; simp)
          have HK3 := Lib.hid (HKP.out.trans hk3)
          have hsz3 : W.heap.size ≤ W3.heap.size := Nat.le_trans hsz2 hk3.1.size
          clear hk3 c0 c1 c2 s6 hcs2
          gi_wp2_with fail
          go_roundw
          case rel => exact ⟨k + 1, _, by omega, by go_num, hJ3, HE, HK3, hsz3⟩
          case measure => simp [RowKit.intOf]; omega
    · obtain rfl : k = dv.length := by omega
      have hfin : pre = keptV l dv := by
        have := hpre.out
        rw [List.drop_length] at this
        simpa [keptV] using this
      have HF := Lib.hid hfin
      clear hfin
      gi_wp2
      go_end0
      exact ⟨⟨_, rfl⟩, _, HF.out, hJs⟩

/-- THE ITERATOR'S CONTRACT. -/
theorem kept_gives (B bs bd cD : Nat) (u : Value) (D : Option Addr) (l : List FT) (dv : List EV) (w : World) (hB : B ≤ w.heap.size)
    (hu : T.At bare w (fun g => g < B) (fieldsT l) u) (hl : l.length * 72 ≤ 140737488351232) (hx : EntriesV w B D dv) (hd : dv.length * 56 ≤ 140737488351232)
    (hbs : w.heap[bs]? = some (.cells #[u] 24 (0, 0))) (hbd : w.heap[bd]? = some (.cells #[.slice D dv.length cD] 27 (0, 0))) :
    Gives Fence.wide 5 Tryd.prog 32 #[.pointer (some ⟨bd, 0, none⟩), .pointer (some ⟨bs, 0, none⟩)] encE (KpE B bs bd) (NxE l dv) (fun ys => ys = keptV l dv) w := fun l0 J W hW hJ hY h0 => by
  have h1 := (Array.getElem?_eq_some_iff.1 hbs).1
  have h2 := (Array.getElem?_eq_some_iff.1 hbd).1
  refine kept1_gives l0 B bs bd cD u D l dv J W (Nat.le_trans hB hW.size) (At.keep (fun p hp => hW.cell (by omega)) (fun g hg => hg) hu) hl (fun i hi => ?_) hd hJ hY ((hW.block bs h1).trans hbs) ((hW.block bd h2).trans hbd) h0
  obtain ⟨ad, e, hb, hc, ha⟩ := hx i hi
  exact ⟨ad, e, hb, hc.keep (fun p hp => hW.cell (by rw [hp, block_of_add]; omega)), At.keep (fun p hp => hW.cell (by omega)) (fun g hg => hg) ha⟩

/-- 'kept' lays its two arguments and hands back the iterator. -/
theorem kept_in (n : Nat) (u x : Value) (w : World) :
    CallsIn Fence.wide n Tryd.prog 24 #[.agg #[u], .agg #[x]] w fun e w' => e = .returned (.func (.func 32) #[] #[.pointer (some ⟨w.heap.size + 1, 0, none⟩), .pointer (some ⟨w.heap.size, 0, none⟩)]) ∧ w' = (w.alloc (.cells #[u] 24)).alloc (.cells #[x] 27) := by
  have hmf : ∀ (fn : Fn) (first cap : Array Value) (w : World), (Instr.makeFunc fn first cap).run Tryd.prog w = .ok (.func fn first cap) w := fun _ _ _ _ => rfl
  refine callsIn_of_wp Tryd.func24 rfl trivial ?_ rfl
  simp only [Tryd.ntmps24, List.size_toArray, List.length_cons, List.length_nil, Nat.reduceAdd, Nat.reduceSub, Array.replicate_succ, Array.replicate_zero, List.push_toArray, List.append_toArray, List.nil_append, List.cons_append]
  gi_wp2
  go_ret
  exact ⟨rfl, rfl⟩
end Go.Proofs.YtfckomjbgopmaaaDoor.Sch
