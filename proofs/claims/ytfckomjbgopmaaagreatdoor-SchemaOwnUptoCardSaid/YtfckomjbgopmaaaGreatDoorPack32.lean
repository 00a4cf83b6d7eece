/- Contract: the document's stored entries. Contracts: a field is found by its name: the document's answer, the program's closure. Contract: the program's Find. A range over a function whose iterator tells what comes next: the loop's body is asked for the elements in their order alone; no way out of the loop but its end. -/
import Derived.Test.YtfckomjbgopmaaaGreatDoorPack13
import Derived.Test.YtfckomjbgopmaaaGreatDoorPack9
import Derived.RangeFuncNested
import Derived.WalkKit
section
set_option linter.unusedVariables false
namespace Go.Proofs.YtfckomjbgopmaaaGreatDoor.Sch
open Go.RowKit Words Tree SchP Kit Owned

theorem keepB_none {l : List FT} {e : ET} (h : findF l e.field = none) : keepB l e = false := by unfold keepB; rw [h]
theorem keepB_some {l : List FT} {e : ET} {i : Nat} (h : findF l e.field = some i) (hi : i < l.length) : keepB l e = l[i].stored := by unfold keepB; rw [h]; simp [hi]
end Go.Proofs.YtfckomjbgopmaaaGreatDoor.Sch
end
section
set_option linter.unusedVariables false
namespace Go.Proofs.YtfckomjbgopmaaaGreatDoor.Sch
open Go.RowKit Words Tree SchP Kit Owned

set_option maxRecDepth 100000 in
set_option maxHeartbeats 2000000 in
theorem find1_any (f : FT) (X : Option Addr) (n z : Nat) (s : ByteArray) (g : Nat) (w : World) (hg : w.cell? ⟨g, 0, none⟩ = some (.string s)) (hgl : g < w.heap.size) :
    Calls Tryz.prog 72 #[.agg #[.string f.name, .int .i64 f.kind, .slice X n z, .int .i64 f.scale, .int .i64 f.dims, .bool f.many, .bool f.stored], .pointer (some ⟨g, 0, none⟩)] w (AnsB (decide (f.name = s)) w) := by
  have hne : g ≠ w.heap.size := by omega
  rcases str_cases f.name s with ⟨h1, h2⟩ | ⟨h1, h2⟩
  · have HD : Hid (decide (f.name = s) = true) := Lib.hid (decide_eq_true h1)
    clear h1
    go_enter Tryz.func72, Tryz.ntmps72
    go_wp2_with fail
    go_ret
    rw [HD.out]; exact ⟨rfl, (Below.refl _ w).alloc (Nat.le_refl _) _⟩
  · have HD : Hid (decide (f.name = s) = false) := Lib.hid (decide_eq_false h1)
    clear h1
    go_enter Tryz.func72, Tryz.ntmps72
    go_wp2_with fail
    go_ret
    rw [HD.out]; exact ⟨rfl, (Below.refl _ w).alloc (Nat.le_refl _) _⟩

set_option maxRecDepth 100000 in
set_option maxHeartbeats 2000000 in
theorem indexFunc_any (A : Option Addr) (cap : Nat) (l : List FT) (s : ByteArray) (g : Nat) (w : World) (hu : T.At bare w (fun g => g < w.heap.size) (fieldsT l) (.slice A l.length cap)) (hl : l.length * 72 ≤ 140737488351232) (hg : w.cell? ⟨g, 0, none⟩ = some (.string s)) (hgl : g < w.heap.size) :
    Calls Tryz.prog 71 #[.slice A l.length cap, .func (.func 72) #[] #[.pointer (some ⟨g, 0, none⟩)]] w (IntB (findZ l s) w) := by
  obtain ⟨_, _, he, hc, hm, hel⟩ := at_row fcells_len hu
  injection he with e1 _ e3
  subst e1 e3
  have EL := Lib.hid hel
  have HG : Hid (∀ W, Below w.heap.size w W → W.cell? ⟨g, 0, none⟩ = some (.string s)) := Lib.hid (fun W hW => (hW.cell (p := ⟨g, 0, none⟩) hgl).trans hg)
  clear hel hu hg
  obtain ⟨r, hr⟩ : ∃ r, findF l s = r := ⟨_, rfl⟩
  have HZ : Hid (findZ l s = zOf r) := Lib.hid (by rw [findZ_eq, hr])
  have HR : Hid ((findF (l.drop 0) s).map (· + 0) = r) := Lib.hid (by rw [← hr]; cases h : findF l s <;> simp [h])
  clear hr
  go_enter Tryz.func71, Tryz.ntmps71
  go_wp2_with fail
  go_loopw [5, 8] (fun _ i wr => ∃ k : Nat, k ≤ l.length ∧ i = .int .i64 k ∧ Hid ((findF (l.drop k) s).map (· + k) = r) ∧ Hid (Below w.heap.size w wr)) (fun _ i _ => l.length - (RowKit.intOf i).toNat)
  case atStart => exact ⟨0, by omega, rfl, HR, Lib.hid (Below.refl _ _)⟩
  case round =>
    obtain ⟨k, hk, rfl, HE, HB⟩ := hrel
    by_cases hlt : k < l.length
    · obtain ⟨ad, us, rfl, hba, au, lu, cu⟩ := EL.out k hlt
      replace cu := cu.keep (w' := wr) (fun p hp => HB.out.cell (by rw [hp, block_of_add]; exact hba))
      have HD := Lib.hid (findF_drop (s := s) hlt)
      generalize l[k] = f at *
      obtain ⟨vc, rfl, gc⟩ := at_fcells au
      obtain ⟨X, z, rfl, _, _⟩ := at_slice gc
      obtain ⟨a0, a1, a2, a3, a4, a5, a6⟩ := seven cu
      clear cu au lu gc
      have HC := Lib.hid (fun (W : World) (hW : Below w.heap.size w W) => find1_any f X f.chain.length z s g W (HG.out W hW) (Nat.lt_of_lt_of_le hgl hW.size))
      go_wp2_with fail
      refine (HC.out wr HB.out).mono ?_
      rintro e w2 ⟨rfl, b2⟩
      have HB2 := Lib.hid (HB.out.trans (b2.mono HB.out.size))
      clear a0 a1 a2 a3 a4 a5 a6 b2
      by_cases h1 : f.name = s
      · have HN : Hid (findZ l s = k) := Lib.hid (by rw [HZ.out, ← HE.out, HD.out, if_pos h1]; simp [zOf])
        have hd : decide (f.name = s) = true := decide_eq_true h1
        rw [hd]
        clear h1 hd
        go_wp2_with fail
        go_ret
        rw [HN.out]; exact ⟨rfl, HB2.out⟩
      · have HE2 : Hid ((findF (l.drop (k + 1)) s).map (· + (k + 1)) = r) := Lib.hid (by rw [← HE.out, HD.out, if_neg h1, Option.map_map]; congr 1; funext x; simp; omega)
        have hd : decide (f.name = s) = false := decide_eq_false h1
        rw [hd]
        clear h1 hd
        go_wp2_with fail
        go_roundw
        case rel => exact ⟨k + 1, by omega, by go_num, HE2, HB2⟩
        case measure => simp [RowKit.intOf]; omega
    · obtain rfl : k = l.length := by omega
      have HN : Hid (findZ l s = -1) := Lib.hid (by rw [HZ.out, ← HE.out, List.drop_length]; rfl)
      go_wp2_with fail
      go_ret
      rw [HN.out]; exact ⟨rfl, HB.out⟩
end Go.Proofs.YtfckomjbgopmaaaGreatDoor.Sch
end
section
set_option linter.unusedVariables false
namespace Go.Proofs.YtfckomjbgopmaaaGreatDoor.Sch
open Go.RowKit Words Tree SchP Kit Owned

def FindRet (z : Int) (w : World) (e : Ending) (w' : World) : Prop := e = .returned (.tuple #[.int .i64 (max 0 z), .bool (decide (0 ≤ z))]) ∧ Below w.heap.size w w'
set_option maxRecDepth 100000 in
set_option maxHeartbeats 2000000 in
theorem find_any (u : Value) (l : List FT) (s : ByteArray) (w : World) (hu : T.At bare w (fun g => g < w.heap.size) (fieldsT l) u) (hl : l.length * 72 ≤ 140737488351232) :
    Calls Tryz.prog 43 #[.agg #[u], .string s] w (FindRet (findZ l s) w) := by
  obtain ⟨A, cap, rfl, _, _⟩ := at_slice hu
  have HC := Lib.hid (fun (g : Nat) (W : World) (hW : Below w.heap.size w W) (hg : W.cell? ⟨g, 0, none⟩ = some (.string s)) (hgl : g < W.heap.size) => indexFunc_any A cap l s g W (At.below hu hW (fun g hg => Nat.lt_of_lt_of_le hg hW.size)) hl hg hgl)
  clear hu
  go_enter Tryz.func43, Tryz.ntmps43
  obtain ⟨z, hz⟩ : ∃ z, findZ l s = z := ⟨_, rfl⟩
  rw [hz] at HC ⊢
  have hzz : -1 ≤ z ∧ z ≤ 140737488351232 := by
    rw [← hz, findZ_eq]
    cases h : findF l s with
    | none => simp [zOf]
    | some i => obtain ⟨h1, _⟩ := findF_some h; simp only [zOf]; omega
  clear hz
  go_wp2_with fail
  refine (HC.out _ _ (below2 _ _) ((blk_b w #[.slice A l.length cap] #[.string s] 24 9).cell 0) (by simp)).mono ?_
  rintro e w1 ⟨rfl, hb⟩
  have HB := Lib.hid ((below2 _ _).trans (hb.mono (by simp; omega)) : Below w.heap.size w w1)
  clear hb
  rcases (show z = -1 ∨ z = 0 ∨ 0 < z by omega) with rfl | rfl | h0
  · go_wp2_with fail
    go_ret2
    exact ⟨rfl, HB.out⟩
  · go_wp2_with fail
    go_ret2
    exact ⟨rfl, HB.out⟩
  · have hd : decide ((0 : Int) ≤ z) = true := decide_eq_true (by omega)
    have hm : max (0 : Int) z = z := by omega
    have hd2 : decide ((0 : Int) < z) = true := decide_eq_true h0
    have hd3 : decide (z < 0) = false := by rw [decide_eq_false_iff_not]; omega
    have HQ := Lib.hid (And.intro hm hd)
    clear hm hd
    have hd : decide ((0 : Int) ≤ z) = true := HQ.out.2
    go_wp2_with fail
    go_ret2
    exact ⟨by rw [HQ.out.1, HQ.out.2]; rfl, HB.out⟩
end Go.Proofs.YtfckomjbgopmaaaGreatDoor.Sch
end
section
set_option linter.unusedVariables false
namespace Go.Proofs.YtfckomjbgopmaaaGreatDoor.Range
open Go.RowKit

variable {F : Fence} {n : Nat} {P : Program}

/-- An iterator that gives a sequence: 'Nx pre x': behind pre comes x. -/
def Gives {α : Type} (F : Fence) (n : Nat) (P : Program) (g : Nat) (lb : Array Value) (encs : α → Array Value) (Kp : World → World → Prop) (Nx : List α → α → Prop) (S : List α → Prop) (w : World) : Prop :=
  ∀ (l : Nat) (J : List α → World → Prop) (W : World), Below w.heap.size w W → AbidesFrom W.heap.size J →
    (∀ pre x W1, Nx pre x → J pre W1 → YieldAt F (n - 1) P l (encs x) W1 fun e W' => e = .returned (.bool true) ∧ J (pre ++ [x]) W' ∧ Kp W1 W') → J [] W →
    CallsIn F n P g (#[.func (.yield l) #[] #[]] ++ lb) W fun e W' => (∃ v, e = .returned v) ∧ ∃ xs, S xs ∧ J xs W'

/-- A round is left at its end alone. -/
def roundPost {α : Type} (B : Nat) (Kp : World → World → Prop) (I : List α → World → Prop) (xs : List α) (W : World) : Exit → Act → World → Prop
  | .normal, _, W' => KeepsFrom B W W' ∧ Kp W W' ∧ I xs W'
  | _, _, _ => False

theorem wpIn_gives {α : Type} {g : Operand} {ps : Array Tmp} {assign body : Code} {Q : Exit → Act → World → Prop} {a : Act} {w : World}
    (hro : F.round = none) (h1 : 1 ≤ n) {gf : Nat} {lb : Array Value} (hg : a.eval g = .func (.func gf) #[] lb) (hFg : F.fn gf) (eg : ∀ args w, (callFunc gf args).run P w = .ok (.enter gf args) w)
    {encs : α → Array Value} {Kp : World → World → Prop} {Nx : List α → α → Prop} {S : List α → Prop} {w0 : World} (hseq : Gives F (n - 1) P gf lb encs Kp Nx S w0)
    (hKt : ∀ {A B C : World}, Kp A B → Kp B C → Kp A C) (hKb : ∀ (W : World) (l : Nat) (o o' : Obj), w.heap.size ≤ l → W.heap[l]? = some o → o.isCells = false → o.isWalk = false → Kp W (W.putObj l o')) (hb0 : Below w0.heap.size w0 w) (hps : ∀ x, (encs x).size = ps.size)
    (I : List α → World → Prop) (hI : OwnFrom w.heap.size I) (h0 : I [] w) (a₁ : α → Act)
    (hassign : ∀ (l : Nat) (x : α) (W : World) (K : Act → World → Prop), K (a₁ x) W →
      assign.wpIn (F.inRound l) (n - 1 - 1) P (Exit.then K (fun _ _ _ => False)) { tmps := (ps.zip (encs x)).foldl (fun t (p, v) => t.setIfInBounds p v) a.tmps, defers := [] } W)
    (hbody : ∀ (l : Nat) (pre : List α) (x : α) (W : World), Nx pre x → I pre W → body.wpIn (F.inRound l) (n - 1 - 1) P (roundPost w.heap.size Kp I (pre ++ [x]) W) (a₁ x) W)
    (hdone : ∀ (D : Nat) (xs : List α) (W : World), w.heap.size ≤ D → S xs → I xs W → W.heap[D]? = some (.deferred (some [])) → Q .normal { a with defers := { target := .collected D, args := #[] } :: a.defers } W) :
    (Code.rangeFunc g ps assign body).wpIn F n P Q a w := by
  refine wpIn_rangeFunc ?_
  intro fn hfn
  rw [hro]
  obtain ⟨rec, hrec⟩ : ∃ rec : LoopState → Loop, rec = fun st => { state := st, pending := none, fn, tmps := a.tmps, params := ps, assign, body, defers := w.heap.size } := ⟨_, rfl⟩
  obtain ⟨W1, hW1⟩ : ∃ W1, (w.alloc (.deferred (some []))).alloc (.loop (rec .ready)) = W1 := ⟨_, rfl⟩
  have hz1 : W1.heap.size = w.heap.size + 2 := by rw [← hW1]; simp
  have hL1 : W1.heap[w.heap.size + 1]? = some (.loop (rec .ready)) := by
    have := World.alloc_heap_new (w.alloc (.deferred (some []))) (.loop (rec .ready))
    rw [World.size_alloc, hW1] at this; exact this
  have hK1 : W1.heap[w.heap.size]? = some (.deferred (some [])) := by
    rw [← hW1]; exact (Below.heap_alloc _ _ _ (by simp)).trans (World.alloc_heap_new w _)
  have hI1 : I [] W1 := by rw [← hW1]; exact hI.alloc _ (hI.alloc _ h0)
  have hb1 : Below w0.heap.size w0 W1 := by
    rw [← hW1]; exact (hb0.alloc hb0.size _).alloc (by have := hb0.size; simp; omega) _
  refine ⟨w.heap.size + 1, [{ target := .collected w.heap.size, args := #[] }], W1, { target := .fn (.func gf) lb, args := #[.func (.yield (w.heap.size + 1)) #[] #[]] }, W1, gf,
    #[.func (.yield (w.heap.size + 1)) #[] #[]] ++ lb, W1, by rw [← hW1, hrec]; exact run_enterLoop_outer _ _ _ _ _, by simp only [resolve, hg]; simp [go_sem], fun f' hf' => by simp [Target.leads] at hf'; subst hf'; exact hFg,
    by simp [invoke, go_sem, eg], fun _ => h1, ?_⟩
  -- the caller's invariant, with the two blocks of book-keeping beside it
  have far : ∀ {A B : World} {row : Option Nat}, (∀ r, row = some r → W1.heap.size ≤ r ∧ ∃ o : Obj, A.heap[r]? = some o ∧ o.isWalk = true) → A.grownBy B row → ∀ {k : Nat} {o : Obj}, k < W1.heap.size → A.heap[k]? = some o → B.heap[k]? = some o :=
    fun hr hg' k o hk ho => (hg'.block k (Array.getElem?_eq_some_iff.1 ho).1 (fun e => by have := (hr k e.symm).1; omega)).trans ho
  refine (hseq (w.heap.size + 1) (fun pre W => I pre W ∧ W.heap[w.heap.size + 1]? = some (.loop (rec .ready)) ∧ W.heap[w.heap.size]? = some (.deferred (some []))) W1 hb1
    (fun s A B row hs hg' hr => ⟨hI s A B row hs.1 hg' (fun r e => by obtain ⟨hB, o, ho, hw⟩ := hr r e; exact ⟨by omega, o, ho, Obj.not_cells_of_walk hw⟩), far (B := B) hr hg' (by omega) hs.2.1, far (B := B) hr hg' (by omega) hs.2.2⟩)
    ?_ ⟨hI1, hL1, hK1⟩).mono ?_
  · rintro pre x W hnx ⟨hi, hl, hk⟩
    have hlt : w.heap.size + 1 < W.heap.size := (Array.getElem?_eq_some_iff.1 hl).1
    have hy := run_yield (P := P) (args := encs x) hl (by rw [hrec]; exact hps x)
    rw [hrec] at hy
    refine ⟨fn, _, assign, body, hy, roundIn_of_wpIn hfn (hassign _ x W _ ⟨_, run_beginRound hl (by rw [hrec]), ?_⟩)⟩
    have hl2 : (W.putObj (w.heap.size + 1) (.loop { rec .ready with state := .busy })).heap[w.heap.size + 1]? = some (.loop { rec .ready with state := .busy }) := World.putObj_heap_same hlt
    have hk2 : (W.putObj (w.heap.size + 1) (.loop { rec .ready with state := .busy })).heap[w.heap.size]? = some (.deferred (some [])) := (World.putObj_heap_other (by omega)).trans hk
    have hw2 : Kp W (W.putObj (w.heap.size + 1) (.loop { rec .ready with state := .busy })) := hKb _ _ _ _ (by omega) hl rfl rfl
    refine wpIn_mono (hbody _ pre x _ hnx (hI.putObj _ hi (by omega) hl rfl)) ?_
    rintro e a3 W3 hp
    cases e with
    | normal =>
      obtain ⟨hk3, hkp3, hi3⟩ := hp
      have hl3 := hk3.same _ _ (by omega) hl2 rfl
      have hr := run_endRound (P := P) none hl3
      have hl4 : (W3.putObj (w.heap.size + 1) (.loop (rec .ready))).heap[w.heap.size + 1]? = some (.loop (rec .ready)) := World.putObj_heap_same (Array.getElem?_eq_some_iff.1 hl3).1
      have hk4 : (W3.putObj (w.heap.size + 1) (.loop (rec .ready))).heap[w.heap.size]? = some (.deferred (some [])) := (World.putObj_heap_other (by omega)).trans (hk3.same _ _ (Nat.le_refl _) hk2 rfl)
      have hkk := hKt (hKt hw2 hkp3) (hKb W3 _ _ (.loop (rec .ready)) (by omega) hl3 rfl rfl)
      have hii := hI.putObj (.loop (rec .ready)) hi3 (by omega) hl3 rfl
      rw [hrec] at hr hl4 hk4 hkk hii ⊢
      exact ⟨_, _, hr, rfl, ⟨hii, hl4, hk4⟩, hkk⟩
    | ret => exact hp.elim
    | exit id => exact hp.elim
    | goto t => exact hp.elim
    | panic ch => exact hp.elim
    | outgrown => exact hp.elim
  · rintro e W2 ⟨⟨v, rfl⟩, xs, hS, hi, hl, hk⟩
    exact ⟨none, _, by have := run_endLoop (P := P) hl (by rw [hrec]; simp); rw [hrec] at this; exact this, hdone _ xs _ (Nat.le_refl _) hS (hI.putObj _ hi (by omega) hl rfl) ((World.putObj_heap_other (by omega)).trans hk)⟩
end Go.Proofs.YtfckomjbgopmaaaGreatDoor.Range
end
