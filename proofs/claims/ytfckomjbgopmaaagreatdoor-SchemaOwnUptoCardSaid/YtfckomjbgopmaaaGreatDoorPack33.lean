/- Contract: the iterator of a document's stored entries gives them in their order. As in Range: a range over a function whose iterator tells what comes next, where the loop's own variables lie in memory. Words for memory in a fenced walk: append onto a row of the call's own, and where the new row lies. Contract: the program's stored entries: a range over a function that gathers. -/
import Derived.Test.YtfckomjbgopmaaaGreatDoorPack32
import Derived.RangeFuncBound
import Derived.RangeFuncCalls
import Derived.RangeFuncLeaves
import Derived.OwnWalkIn
import Derived.TacticsInMore
import Derived.LoopNIn
import Derived.LoopIn
import Derived.Test.YtfckomjbgopmaaaGreatDoorWords
import Derived.RangeFuncWrites
import Derived.Shelf.Abstract
section
set_option linter.unusedVariables false
namespace Go.Proofs.YtfckomjbgopmaaaGreatDoor.Sch
open Go.RowKit Words Tree SchP Kit Owned Range

attribute [local go_sem] Oper.semAt_some

/-- An entry as it lies in memory: with its numbers' slice. -/
abbrev EV := ET × Value
def encE (x : EV) : Array Value := #[.agg #[.string x.1.field, .string x.1.text, x.2]]
def keptV (l : List FT) (dv : List EV) : List EV := dv.filter fun x => keepB l x.1
def NxE (l : List FT) (dv : List EV) (pre : List EV) (x : EV) : Prop := ∃ rest, pre ++ x :: rest = keptV l dv
/-- What a round keeps: what lay below, and the iterator's two variables. -/
def KpE (B bs bd : Nat) (W W' : World) : Prop := Below B W W' ∧ W'.heap[bs]? = W.heap[bs]? ∧ W'.heap[bd]? = W.heap[bd]?
theorem KpE.trans {B bs bd : Nat} {X Y Z : World} (h : KpE B bs bd X Y) (k : KpE B bs bd Y Z) : KpE B bs bd X Z := ⟨h.1.trans k.1, k.2.1.trans h.2.1, k.2.2.trans h.2.2⟩
theorem KpE.below {B bs bd N : Nat} {W W' : World} (h : Below N W W') (h1 : B ≤ N) (h2 : bs < N) (h3 : bd < N) : KpE B bs bd W W' := ⟨h.mono h1, h.block bs h2, h.block bd h3⟩
theorem keptV_map (l : List FT) (dv : List EV) : (keptV l dv).map (·.1) = storedF l (dv.map (·.1)) := by
  unfold keptV storedF
  rw [List.filter_map]; rfl
theorem keptV_drop {l : List FT} {dv : List EV} {k : Nat} (h : k < dv.length) : keptV l (dv.drop k) = if keepB l dv[k].1 then dv[k] :: keptV l (dv.drop (k + 1)) else keptV l (dv.drop (k + 1)) := by
  rw [List.drop_eq_getElem_cons h, keptV, List.filter_cons]; rfl
/-- The entries with their slices. -/
def EntriesV (w : World) (B : Nat) (D : Option Addr) (dv : List EV) : Prop := ∀ (i : Nat) (hi : i < dv.length), ∃ ad, D = some ad ∧ ad.block < B ∧ Cells w (ad.add (i * 3)) [.string dv[i].1.field, .string dv[i].1.text, dv[i].2] ∧ T.At bare w (fun g => g < B) (numsT .i64 dv[i].1.nums) dv[i].2
theorem vals_exist {n : Nat} {P : Nat → Value → Prop} (h : ∀ i, i < n → ∃ v, P i v) : ∃ vs : List Value, vs.length = n ∧ ∀ (i : Nat) (hi : i < vs.length), P i vs[i] := by
  induction n with
  | zero => exact ⟨[], rfl, fun i hi => by simp at hi⟩
  | succ n ih =>
    obtain ⟨vs, h1, h2⟩ := ih fun i hi => h i (by omega)
    obtain ⟨v, hv⟩ := h n (by omega)
    refine ⟨vs ++ [v], by simp [h1], fun i hi => ?_⟩
    rcases Nat.lt_or_ge i vs.length with h3 | h3
    · rw [List.getElem_append_left h3]; exact h2 i h3
    · obtain rfl : i = vs.length := by simp at hi; omega
      rw [List.getElem_concat_length rfl]; rw [h1]; exact hv
theorem entriesV_of {w : World} {B : Nat} {d : List ET} {x : Value} (h : T.At bare w (fun g => g < B) (entriesT d) x) : ∃ D c dv, x = .slice D d.length c ∧ dv.map (·.1) = d ∧ EntriesV w B D dv := by
  obtain ⟨D, c, rfl, _, _, hel⟩ := at_row ecells_len h
  have hv : ∀ i, i < d.length → ∃ v, ∀ (hi : i < d.length), ∃ ad, D = some ad ∧ ad.block < B ∧ Cells w (ad.add (i * 3)) [.string d[i].field, .string d[i].text, v] ∧ T.At bare w (fun g => g < B) (numsT .i64 d[i].nums) v := fun i hi => by
    obtain ⟨ad, us, e, hb, au, _, cu⟩ := hel i hi
    obtain ⟨v, rfl, hv⟩ := at_ecells au
    exact ⟨v, fun _ => ⟨ad, e, hb, cu, hv⟩⟩
  obtain ⟨vs, h1, h2⟩ := vals_exist hv
  refine ⟨D, c, d.zip vs, rfl, List.map_fst_zip (by omega), fun i hi => ?_⟩
  have hi1 : i < d.length := by simp at hi; omega
  have hi2 : i < vs.length := by omega
  have := h2 i hi2 hi1
  simpa using this

set_option maxRecDepth 100000 in
set_option maxHeartbeats 4000000 in
theorem kept1_gives (l0 B bs bd cD : Nat) (u : Value) (D : Option Addr) (l : List FT) (dv : List EV) (J : List EV → World → Prop) (W : World) (hB : B ≤ W.heap.size)
    (hu : T.At bare W (fun g => g < B) (fieldsT l) u) (hl : l.length * 72 ≤ 140737488351232) (hx : EntriesV W B D dv) (hd : dv.length * 56 ≤ 140737488351232)
    (hJ : AbidesFrom W.heap.size J)
    (hY : ∀ pre x W1, NxE l dv pre x → J pre W1 → YieldAt Fence.wide 4 Tryz.prog l0 (encE x) W1 fun e W' => e = .returned (.bool true) ∧ J (pre ++ [x]) W' ∧ KpE B bs bd W1 W')
    (hbs : W.heap[bs]? = some (.cells #[u] 24 (0, 0))) (hbd : W.heap[bd]? = some (.cells #[.slice D dv.length cD] 30 (0, 0))) (h0 : J [] W) :
    CallsIn Fence.wide 5 Tryz.prog 76 #[.func (.yield l0) #[] #[], .pointer (some ⟨bd, 0, none⟩), .pointer (some ⟨bs, 0, none⟩)] W fun e W' => (∃ v, e = .returned v) ∧ ∃ ys, ys = keptV l dv ∧ J ys W' := by
  have HJ := Lib.hid hJ; have HY := Lib.hid hY; have HU := Lib.hid hu; have HX := Lib.hid hx; have HBS := Lib.hid hbs
  have hcd : W.cell? ⟨bd, 0, none⟩ = some (.slice D dv.length cD) := by simp [World.cell?, hbd]
  clear hJ hY hu hx hbs
  have HBD := Lib.hid hbd; clear hbd
  refine callsIn_of_wp Tryz.func76 rfl trivial ?_ rfl
  simp only [Tryz.ntmps76, List.size_toArray, List.length_cons, List.length_nil, Nat.reduceAdd, Nat.reduceSub, Array.replicate_succ, Array.replicate_zero, List.push_toArray, List.append_toArray, List.nil_append, List.cons_append]
  gi_wp2
  clear hcd
  gi_loopw [11] (fun i wr => ∃ (k : Nat) (pre : List EV), k ≤ dv.length ∧ i = .int .i64 k ∧ J pre wr ∧ Hid (pre ++ keptV l (dv.drop k) = keptV l dv) ∧ Hid (KpE B bs bd W wr) ∧ W.heap.size ≤ wr.heap.size)
    (fun i _ => dv.length - (RowKit.intOf i).toNat)
  case atStart => exact ⟨0, [], Nat.zero_le _, rfl, h0, Lib.hid rfl, Lib.hid ⟨Below.refl _ _, rfl, rfl⟩, Nat.le_refl _⟩
  case round =>
    obtain ⟨k, pre, hk, rfl, hJs, hpre, hkp, hsz⟩ := hrel
    by_cases hlt : k < dv.length
    · obtain ⟨ad, rfl, hba, cu, au⟩ := HX.out k hlt
      replace cu := cu.keep (w' := wr) (fun p hp => hkp.out.1.cell (by rw [hp, block_of_add]; exact hba))
      have hbB : (ad.add (k * 3)).block < wr.heap.size := by rw [block_of_add]; omega
      have HD := Lib.hid (keptV_drop (l := l) hlt)
      have HFZ := Lib.hid (findZ_eq l (dv[k]'hlt).1.field)
      have HKN : Hid (findF l (dv[k]'hlt).1.field = none → keepB l (dv[k]'hlt).1 = false) := Lib.hid keepB_none
      have HKS : Hid (∀ (i : Nat) (hi : i < l.length), findF l (dv[k]'hlt).1.field = some i → keepB l (dv[k]'hlt).1 = l[i].stored) := Lib.hid (fun i hi hq => keepB_some hq hi)
      generalize dv[k] = x at *
      obtain ⟨x, v⟩ := x
      dsimp only at *
      obtain ⟨X, z, rfl, _, _⟩ := at_slice au
      have hcs : wr.cell? ⟨bs, 0, none⟩ = some u := by have := hkp.out.2.1.trans HBS.out; simp [World.cell?, this]
      have hbsl : bs < wr.heap.size := by
        have := hkp.out.2.1.trans HBS.out
        exact (Array.getElem?_eq_some_iff.1 this).1
      have hbdl : bd < wr.heap.size := by
        have := hkp.out.2.2.trans HBD.out
        exact (Array.getElem?_eq_some_iff.1 this).1
      have HF := Lib.hid (fun (V : World) (hV : Below wr.heap.size wr V) => find_any u l x.field V (At.keep (fun p hp => (hV.cell (by omega)).trans (hkp.out.1.cell hp)) (fun g hg => by have := hV.size; omega) HU.out) hl)
      obtain ⟨A, cA, rfl, hcA, hmA, hel⟩ := at_row fcells_len HU.out
      have EA := Lib.hid hel
      obtain ⟨a0, a1, a2⟩ := three cu
      have HB := hB
      clear cu au hel
      gi_wp2_with fail
      refine ⟨trivial, ?_⟩
      refine (callsIn_wide.2 (HF.out _ ((Below.refl _ _).alloc (Nat.le_refl _) _))).mono ?_
      rintro e w2 ⟨rfl, hb2⟩
      have hJ1 : J pre w2 := HJ.out _ _ _ none hJs (only_of_below ((Below.refl _ _).alloc (Nat.le_refl _) _ |>.trans (hb2.mono (by simp))) none) (fun r e => by cases e)
      have hk2 : KpE B bs bd wr w2 := KpE.below ((Below.refl _ _).alloc (Nat.le_refl _) _ |>.trans (hb2.mono (by simp))) (by omega) hbsl hbdl
      have HKP := Lib.hid (hkp.out.trans hk2)
      have hsz2 : W.heap.size ≤ w2.heap.size := by have := hb2.size; simp at this; omega
      have BE := Lib.hid ((Blk.new wr 68 #[.string x.field, .string x.text, .slice X x.nums.length z]).below hb2 (by simp))
      have hcs2 : w2.cell? ⟨bs, 0, none⟩ = some (.slice A l.length cA) := by have := HKP.out.2.1.trans HBS.out; simp [World.cell?, this]
      clear hb2 a0 a1 a2 hcs hk2
      rw [HFZ.out]
      cases hfi : findF l x.field with
      | none =>
        have HE : Hid (pre ++ keptV l (dv.drop (k + 1)) = keptV l dv) := Lib.hid (by rw [← hpre.out, HD.out, HKN.out hfi]; rfl)
        have hm : max (0 : Int) (zOf none) = 0 := by decide
        have hz0 : decide ((0 : Int) ≤ zOf none) = false := by decide
        clear hfi HF
        rw [hm, hz0]
        gi_wp2_with fail
        refine ⟨fun f e => (by cases e), ?_⟩
        gi_wp2_with fail
        go_roundw
        case rel => exact ⟨k + 1, pre, by omega, by go_num, hJ1, HE, HKP, hsz2⟩
        case measure => simp [RowKit.intOf]; omega
      | some i =>
        obtain ⟨hil, _, _⟩ := findF_some hfi
        have HKK := Lib.hid (HKS.out i hil hfi)
        obtain ⟨sd, us2, rfl, hbs, asx, ls, cs⟩ := EA.out i hil
        replace cs := cs.keep (w' := w2) (fun p hp => HKP.out.1.cell (by rw [hp, block_of_add]; exact hbs))
        generalize l[i] = f at *
        obtain ⟨vs, rfl, -⟩ := at_fcells asx
        obtain ⟨-, -, -, -, -, -, s6⟩ := seven cs
        obtain ⟨f0, f1, f2, f3, f4, f5, f6⟩ := f
        have hm : max (0 : Int) (zOf (some i)) = i := by simp only [zOf]; omega
        have hz0 : decide ((0 : Int) ≤ zOf (some i)) = true := decide_eq_true (by simp only [zOf]; omega)
        clear hfi HF cs asx ls
        rw [hm, hz0]
        dsimp only at *
        clear hm hz0
        cases f6 with
        | false =>
          have HE : Hid (pre ++ keptV l (dv.drop (k + 1)) = keptV l dv) := Lib.hid (by rw [← hpre.out, HD.out, HKK.out]; rfl)
          gi_wp2_with fail
          refine ⟨fun f e => (by cases e), ?_⟩
          gi_wp2_with fail
          go_roundw
          case rel => exact ⟨k + 1, pre, by omega, by go_num, hJ1, HE, HKP, hsz2⟩
          case measure => simp [RowKit.intOf]; omega
        | true =>
          have HP : Hid (pre ++ (x, .slice X x.nums.length z) :: keptV l (dv.drop (k + 1)) = keptV l dv) := Lib.hid (by rw [← hpre.out, HD.out, HKK.out]; rfl)
          have HNX : Hid (NxE l dv pre (x, .slice X x.nums.length z)) := Lib.hid ⟨_, HP.out⟩
          obtain ⟨fn, tmps, assign, body, hy, hR⟩ := HY.out pre (x, .slice X x.nums.length z) w2 HNX.out hJ1
          dsimp only [encE] at hy
          have c0 := BE.out.cell 0
          have c1 := BE.out.cell 1
          have c2 := BE.out.cell 2
          gi_wp2_with fail
          refine hR.mono ?_
          rintro e W3 ⟨rfl, hJ3, hk3⟩
          have HE : Hid ((pre ++ [(x, .slice X x.nums.length z)]) ++ keptV l (dv.drop (k + 1)) = keptV l dv) := Lib.hid (by rw [← HP.out]; simp)
          have HK3 := Lib.hid (HKP.out.trans hk3)
          have hsz3 : W.heap.size ≤ W3.heap.size := Nat.le_trans hsz2 hk3.1.size
          clear hk3 c0 c1 c2 s6 hcs2
          gi_wp2_with fail
          go_roundw
          case rel => exact ⟨k + 1, _, by omega, by go_num, hJ3, HE, HK3, hsz3⟩
          case measure => simp [RowKit.intOf]; omega
    · obtain rfl : k = dv.length := by omega
      have hfin : pre = keptV l dv := by
        have := hpre.out
        rw [List.drop_length] at this
        simpa [keptV] using this
      have HF := Lib.hid hfin
      clear hfin
      gi_wp2
      go_end0
      exact ⟨⟨_, rfl⟩, _, HF.out, hJs⟩

/-- THE ITERATOR'S CONTRACT. -/
theorem kept_gives (B bs bd cD : Nat) (u : Value) (D : Option Addr) (l : List FT) (dv : List EV) (w : World) (hB : B ≤ w.heap.size)
    (hu : T.At bare w (fun g => g < B) (fieldsT l) u) (hl : l.length * 72 ≤ 140737488351232) (hx : EntriesV w B D dv) (hd : dv.length * 56 ≤ 140737488351232)
    (hbs : w.heap[bs]? = some (.cells #[u] 24 (0, 0))) (hbd : w.heap[bd]? = some (.cells #[.slice D dv.length cD] 30 (0, 0))) :
    Gives Fence.wide 5 Tryz.prog 76 #[.pointer (some ⟨bd, 0, none⟩), .pointer (some ⟨bs, 0, none⟩)] encE (KpE B bs bd) (NxE l dv) (fun ys => ys = keptV l dv) w := fun l0 J W hW hJ hY h0 => by
  have h1 := (Array.getElem?_eq_some_iff.1 hbs).1
  have h2 := (Array.getElem?_eq_some_iff.1 hbd).1
  refine kept1_gives l0 B bs bd cD u D l dv J W (Nat.le_trans hB hW.size) (At.keep (fun p hp => hW.cell (by omega)) (fun g hg => hg) hu) hl (fun i hi => ?_) hd hJ hY ((hW.block bs h1).trans hbs) ((hW.block bd h2).trans hbd) h0
  obtain ⟨ad, e, hb, hc, ha⟩ := hx i hi
  exact ⟨ad, e, hb, hc.keep (fun p hp => hW.cell (by rw [hp, block_of_add]; omega)), At.keep (fun p hp => hW.cell (by omega)) (fun g hg => hg) ha⟩

/-- 'kept' lays its two arguments and hands back the iterator. -/
theorem kept_in (n : Nat) (u x : Value) (w : World) :
    CallsIn Fence.wide n Tryz.prog 57 #[.agg #[u], .agg #[x]] w fun e w' => e = .returned (.func (.func 76) #[] #[.pointer (some ⟨w.heap.size + 1, 0, none⟩), .pointer (some ⟨w.heap.size, 0, none⟩)]) ∧ w' = (w.alloc (.cells #[u] 24)).alloc (.cells #[x] 30) := by
  have hmf : ∀ (fn : Fn) (first cap : Array Value) (w : World), (Instr.makeFunc fn first cap).run Tryz.prog w = .ok (.func fn first cap) w := fun _ _ _ _ => rfl
  refine callsIn_of_wp Tryz.func57 rfl trivial ?_ rfl
  simp only [Tryz.ntmps57, List.size_toArray, List.length_cons, List.length_nil, Nat.reduceAdd, Nat.reduceSub, Array.replicate_succ, Array.replicate_zero, List.push_toArray, List.append_toArray, List.nil_append, List.cons_append]
  gi_wp2
  go_ret
  exact ⟨rfl, rfl⟩
end Go.Proofs.YtfckomjbgopmaaaGreatDoor.Sch
end
section
set_option linter.unusedVariables false
namespace Go.Proofs.YtfckomjbgopmaaaGreatDoor.Range
open Go.RowKit

variable {F : Fence} {n : Nat} {P : Program}

/-- The same where the round's own variables are laid anew in memory. -/
theorem wpIn_gives2 {α : Type} {g : Operand} {ps : Array Tmp} {assign body : Code} {Q : Exit → Act → World → Prop} {a : Act} {w : World}
    (hro : F.round = none) (h1 : 1 ≤ n) {gf : Nat} {lb : Array Value} (hg : a.eval g = .func (.func gf) #[] lb) (hFg : F.fn gf) (eg : ∀ args w, (callFunc gf args).run P w = .ok (.enter gf args) w)
    {encs : α → Array Value} {Kp : World → World → Prop} {Nx : List α → α → Prop} {S : List α → Prop} {w0 : World} (hseq : Gives F (n - 1) P gf lb encs Kp Nx S w0)
    (hKt : ∀ {A B C : World}, Kp A B → Kp B C → Kp A C) (hKb : ∀ (W : World) (l : Nat) (o o' : Obj), w.heap.size ≤ l → W.heap[l]? = some o → o.isCells = false → o.isWalk = false → Kp W (W.putObj l o')) (hb0 : Below w0.heap.size w0 w) (hps : ∀ x, (encs x).size = ps.size)
    (I : List α → World → Prop) (hI : OwnFrom w.heap.size I) (h0 : I [] w) (a₁ : α → Nat → Act) (I1 : List α → α → Nat → World → Prop) (hI1 : ∀ pre x m, OwnFrom w.heap.size (fun (_ : Unit) W => I1 pre x m W))
    (hassign : ∀ (l : Nat) (pre : List α) (x : α) (W : World) (K : Act → World → Prop), Nx pre x → I pre W → (∀ W', Below W.heap.size W W' → Kp W W' → I1 pre x W.heap.size W' → K (a₁ x W.heap.size) W') →
      assign.wpIn (F.inRound l) (n - 1 - 1) P (Exit.then K (fun _ _ _ => False)) { tmps := (ps.zip (encs x)).foldl (fun t (p, v) => t.setIfInBounds p v) a.tmps, defers := [] } W)
    (hbody : ∀ (l : Nat) (pre : List α) (x : α) (m : Nat) (W : World), Nx pre x → I1 pre x m W → body.wpIn (F.inRound l) (n - 1 - 1) P (roundPost w.heap.size Kp I (pre ++ [x]) W) (a₁ x m) W)
    (hdone : ∀ (D : Nat) (xs : List α) (W : World), w.heap.size ≤ D → S xs → I xs W → W.heap[D]? = some (.deferred (some [])) → Q .normal { a with defers := { target := .collected D, args := #[] } :: a.defers } W) :
    (Code.rangeFunc g ps assign body).wpIn F n P Q a w := by
  refine wpIn_rangeFunc ?_
  intro fn hfn
  rw [hro]
  obtain ⟨rec, hrec⟩ : ∃ rec : LoopState → Loop, rec = fun st => { state := st, pending := none, fn, tmps := a.tmps, params := ps, assign, body, defers := w.heap.size } := ⟨_, rfl⟩
  obtain ⟨W1, hW1⟩ : ∃ W1, (w.alloc (.deferred (some []))).alloc (.loop (rec .ready)) = W1 := ⟨_, rfl⟩
  have hz1 : W1.heap.size = w.heap.size + 2 := by rw [← hW1]; simp
  have hL1 : W1.heap[w.heap.size + 1]? = some (.loop (rec .ready)) := by
    have := World.alloc_heap_new (w.alloc (.deferred (some []))) (.loop (rec .ready))
    rw [World.size_alloc, hW1] at this; exact this
  have hK1 : W1.heap[w.heap.size]? = some (.deferred (some [])) := by
    rw [← hW1]; exact (Below.heap_alloc _ _ _ (by simp)).trans (World.alloc_heap_new w _)
  have hI1w : I [] W1 := by rw [← hW1]; exact hI.alloc _ (hI.alloc _ h0)
  have hb1 : Below w0.heap.size w0 W1 := by
    rw [← hW1]; exact (hb0.alloc hb0.size _).alloc (by have := hb0.size; simp; omega) _
  refine ⟨w.heap.size + 1, [{ target := .collected w.heap.size, args := #[] }], W1, { target := .fn (.func gf) lb, args := #[.func (.yield (w.heap.size + 1)) #[] #[]] }, W1, gf,
    #[.func (.yield (w.heap.size + 1)) #[] #[]] ++ lb, W1, by rw [← hW1, hrec]; exact run_enterLoop_outer _ _ _ _ _, by simp only [resolve, hg]; simp [go_sem], fun f' hf' => by simp [Target.leads] at hf'; subst hf'; exact hFg,
    by simp [invoke, go_sem, eg], fun _ => h1, ?_⟩
  -- the caller's invariant, with the two blocks of book-keeping beside it
  have far : ∀ {A B : World} {row : Option Nat}, (∀ r, row = some r → W1.heap.size ≤ r ∧ ∃ o : Obj, A.heap[r]? = some o ∧ o.isWalk = true) → A.grownBy B row → ∀ {k : Nat} {o : Obj}, k < W1.heap.size → A.heap[k]? = some o → B.heap[k]? = some o :=
    fun hr hg' k o hk ho => (hg'.block k (Array.getElem?_eq_some_iff.1 ho).1 (fun e => by have := (hr k e.symm).1; omega)).trans ho
  refine (hseq (w.heap.size + 1) (fun pre W => I pre W ∧ W.heap[w.heap.size + 1]? = some (.loop (rec .ready)) ∧ W.heap[w.heap.size]? = some (.deferred (some []))) W1 hb1
    (fun s A B row hs hg' hr => ⟨hI s A B row hs.1 hg' (fun r e => by obtain ⟨hB, o, ho, hw⟩ := hr r e; exact ⟨by omega, o, ho, Obj.not_cells_of_walk hw⟩), far (B := B) hr hg' (by omega) hs.2.1, far (B := B) hr hg' (by omega) hs.2.2⟩)
    ?_ ⟨hI1w, hL1, hK1⟩).mono ?_
  · rintro pre x W hnx ⟨hi, hl, hk⟩
    have hlt : w.heap.size + 1 < W.heap.size := (Array.getElem?_eq_some_iff.1 hl).1
    have hy := run_yield (P := P) (args := encs x) hl (by rw [hrec]; exact hps x)
    rw [hrec] at hy
    refine ⟨fn, _, assign, body, hy, roundIn_of_wpIn hfn (hassign _ pre x W _ hnx hi (fun V hbV hkV hiV => ?_))⟩
    have hlt0 := hlt
    replace hl : V.heap[w.heap.size + 1]? = some (.loop (rec .ready)) := (hbV.block _ hlt).trans hl
    replace hk : V.heap[w.heap.size]? = some (.deferred (some [])) := (hbV.block _ (by omega)).trans hk
    replace hlt : w.heap.size + 1 < V.heap.size := (Array.getElem?_eq_some_iff.1 hl).1
    refine ⟨_, run_beginRound hl (by rw [hrec]), ?_⟩
    have hl2 : (V.putObj (w.heap.size + 1) (.loop { rec .ready with state := .busy })).heap[w.heap.size + 1]? = some (.loop { rec .ready with state := .busy }) := World.putObj_heap_same hlt
    have hk2 : (V.putObj (w.heap.size + 1) (.loop { rec .ready with state := .busy })).heap[w.heap.size]? = some (.deferred (some [])) := (World.putObj_heap_other (by omega)).trans hk
    have hw2 : Kp V (V.putObj (w.heap.size + 1) (.loop { rec .ready with state := .busy })) := hKb _ _ _ _ (by omega) hl rfl rfl
    refine wpIn_mono (hbody _ pre x _ _ hnx ((hI1 pre x W.heap.size).putObj (s := ()) _ hiV (by omega) hl rfl)) ?_
    rintro e a3 W3 hp
    cases e with
    | normal =>
      obtain ⟨hk3, hkp3, hi3⟩ := hp
      have hl3 := hk3.same _ _ (by omega) hl2 rfl
      have hr := run_endRound (P := P) none hl3
      have hl4 : (W3.putObj (w.heap.size + 1) (.loop (rec .ready))).heap[w.heap.size + 1]? = some (.loop (rec .ready)) := World.putObj_heap_same (Array.getElem?_eq_some_iff.1 hl3).1
      have hk4 : (W3.putObj (w.heap.size + 1) (.loop (rec .ready))).heap[w.heap.size]? = some (.deferred (some [])) := (World.putObj_heap_other (by omega)).trans (hk3.same _ _ (Nat.le_refl _) hk2 rfl)
      have hkk := hKt (hKt (hKt hkV hw2) hkp3) (hKb W3 _ _ (.loop (rec .ready)) (by omega) hl3 rfl rfl)
      have hii := hI.putObj (.loop (rec .ready)) hi3 (by omega) hl3 rfl
      rw [hrec] at hr hl4 hk4 hkk hii ⊢
      exact ⟨_, _, hr, rfl, ⟨hii, hl4, hk4⟩, hkk⟩
    | ret => exact hp.elim
    | exit id => exact hp.elim
    | goto t => exact hp.elim
    | panic ch => exact hp.elim
    | outgrown => exact hp.elim
  · rintro e W2 ⟨⟨v, rfl⟩, xs, hS, hi, hl, hk⟩
    exact ⟨none, _, by have := run_endLoop (P := P) hl (by rw [hrec]; simp); rw [hrec] at this; exact this, hdone _ xs _ (Nat.le_refl _) hS (hI.putObj _ hi (by omega) hl rfl) ((World.putObj_heap_other (by omega)).trans hk)⟩
end Go.Proofs.YtfckomjbgopmaaaGreatDoor.Range
end
section
set_option linter.unusedVariables false
namespace Go.Proofs.YtfckomjbgopmaaaGreatDoor.Words
open Go.RowKit Go.WideShapes Go.ChangeShapes

theorem wpListIn_append_any {F : Fence} {nn : Nat} {P : Program} (w : World) {ops : Array Oper} {rest : List Oper} {o : Oper} {a : Act} {Q : Exit → Act → World → Prop} (hgd : o.guard = none) (s x : Operand) (t : TypeId)
    (ho : o.op = .call { callee := .builtin .append, args := #[s, x], argTypes := #[t, t] })
    (base : Nat) (e : TypeId) (i : TypeInfo) (z : Value) (size bytes : Nat) (ht : P.underlying t = some (.slice e)) (hi : P.info? e = some i) (hz : i.zero = some z)
    (hsize : i.size = size) (hby : i.bytes = bytes) (hzs : z.cells.size = size) (hsz : 0 < size)
    (v : Value) (n : Nat) (xs : List Value) (hs : a.eval s = v) (hown : w.ownsRow base e size v n xs)
    (B : Nat) (A : Option Addr) (m c : Nat) (news : List Value) (hx : a.eval x = .slice A m c) (hr : Reads w B size A m news) (h1 : ∀ u ∈ news, u.oneCell' = true)
    (h63 : n + m ≤ maxLen) (hbytes : (n + m) * bytes ≤ 140737488355328) (hbase : base ≤ w.heap.size)
    (h : ∀ v' w', w'.ownsRow base e size v' (n + m) (xs ++ news) → w.grownBy w' v.ownBlock → (v'.ownBlock = v.ownBlock ∨ v'.ownBlock = some w.heap.size) → wpListIn F nn P ops Q rest (a.put o.dst v') w') : wpListIn F nn P ops Q (o :: rest) a w := by
  refine wpListIn_plain hgd fun K hK' => ?_
  obtain ⟨v', w', hrun, r1, r2, r3⟩ := run_append_any (P := P) w base t o.type e i z size bytes ht hi hz hsize hby hzs hsz v n xs hown B A m c news hr h1 h63 hbytes hbase
  unfold Oper.wpIn
  refine ⟨?_, ?_⟩
  · simp [Oper.about, ho, resolve, Target.leads, Sem.run_pure]
  · rw [Oper.semAt_plain F _ _ (by rw [ho]; intro c hc'; cases hc')]
    simp [execOp, ho, resolve, invoke, builtin, hs, hx, hrun, Result.andThen]
    exact hK' _ _ (h v' w' r1 r2 r3)
end Go.Proofs.YtfckomjbgopmaaaGreatDoor.Words
end
section
set_option linter.unusedVariables false
namespace Go.Proofs.YtfckomjbgopmaaaGreatDoor.Sch
open Go.RowKit Go.Lib Words Tree SchP Kit Owned Range

attribute [local go_sem] Oper.semAt_some

theorem keepsOthers_below {W W' : World} (h : Below W.heap.size W W') : KeepsOthers W W' :=
  ⟨h.size, fun k o hk _ => (h.block k (Array.getElem?_eq_some_iff.1 hk).1).trans hk⟩
theorem Blk.nc {A B : World} {g : Nat} {t : TypeId} {cs : Array Value} {row : Option Nat} (h : Blk A g t cs) (hg : A.grownBy B row) (hr : ∀ r, row = some r → ∃ o : Obj, A.heap[r]? = some o ∧ o.isCells = false) : Blk B g t cs :=
  h.grown hg (fun e => by obtain ⟨o, ho, hc⟩ := hr g e.symm; rw [show A.heap[g]? = _ from h] at ho; cases ho; cases hc)

/-- The entries pre are gathered in the box. -/
structure StI (w : World) (u x : Value) (pre : List EV) (W : World) : Prop where
  out : ∃ v, Boxed W (w.heap.size + 2) 28 v ∧ RowG bare 68 3 ecells (some (w.heap.size + 2)) w.heap.size W v (pre.map (·.1))
  bs : Blk W (w.heap.size + 3) 24 #[u]
  bd : Blk W (w.heap.size + 4) 30 #[x]
  below : Below w.heap.size w W
structure StJ (w : World) (u x : Value) (pre : List EV) (y : EV) (m : Nat) (W : World) : Prop where
  out : ∃ v, Boxed W (w.heap.size + 2) 28 v ∧ RowM bare 68 3 ecells (some (w.heap.size + 2)) w.heap.size m W v (pre.map (·.1))
  bs : Blk W (w.heap.size + 3) 24 #[u]
  bd : Blk W (w.heap.size + 4) 30 #[x]
  below : Below w.heap.size w W
  one : Blk W m 68 #[.string y.1.field, .string y.1.text, y.2]
  far : w.heap.size + 5 ≤ m
theorem belowK_e {w : World} {B bs bd : Nat} (h1 : B ≤ w.heap.size) (h2 : bs < w.heap.size) (h3 : bd < w.heap.size) (W : World) (l : Nat) (o o' : Obj) (hl : w.heap.size ≤ l) (h : W.heap[l]? = some o) (_ : o.isCells = false) (_ : o.isWalk = false) : KpE B bs bd W (W.putObj l o') :=
  KpE.below (N := w.heap.size) (belowK_b (w := w) (Nat.le_refl _) W l o o' hl h ‹_› ‹_›) h1 h2 h3

theorem nxE_mem {l : List FT} {dv pre : List EV} {x : EV} (h : NxE l dv pre x) : x ∈ dv := by
  obtain ⟨rest, h⟩ := h
  have : x ∈ keptV l dv := by rw [← h]; simp
  exact (List.mem_filter.1 this).1
theorem nxE_len {l : List FT} {dv pre : List EV} {x : EV} (h : NxE l dv pre x) : pre.length < dv.length := by
  obtain ⟨rest, h⟩ := h
  have h1 : (keptV l dv).length ≤ dv.length := List.length_filter_le _ _
  rw [← h] at h1
  simp at h1
  omega
end Go.Proofs.YtfckomjbgopmaaaGreatDoor.Sch
end
