/- Contracts: kit.Text and kit.Value: a number as a text of four bytes, and back. Rows of numbers that lie apart: out of rows of structs, joined, chosen. Over any program. Steps of kit.ApartDocs in plain Lean. -/
import Derived.Test.YtfckomjbgopmaaaGreatDoorPack15
import Derived.BigQuiet
import Derived.Test.YtfckomjbgopmaaaGreatDoorApart
import Derived.Test.YtfckomjbgopmaaaGreatDoorPack13
import Derived.Test.YtfckomjbgopmaaaGreatDoorSchApart
section
set_option linter.unusedVariables false
namespace Go.Proofs.YtfckomjbgopmaaaGreatDoor.Sch
open Go.RowKit Go.Lib Words Tree SchP Kit Owned AnaP

def textL (n : Nat) : List UInt8 := [UInt8.ofNat n, UInt8.ofNat (n / 256), UInt8.ofNat (n / 65536), 77]
/-- A number as a text. -/
def textB (n : Nat) : ByteArray := str (textL n)
theorem textL_cells {n : Nat} (hn : n < 16777216) : byteCells (textL n) = [.int .u8 ((n : Int) % 256), .int .u8 ((n : Int) / 256 % 256), .int .u8 ((n : Int) / 65536), .int .u8 77] := by
  simp only [textL, byteCells, List.map_cons, List.map_nil, UInt8.toNat_ofNat']
  have : n / 65536 % 2 ^ 8 = n / 65536 := Nat.mod_eq_of_lt (by omega)
  rw [this]
  simp
set_option maxRecDepth 100000 in
set_option maxHeartbeats 4000000 in
theorem kitText_any (n : Nat) (w : World) (hn : n < 16777216) : Calls Tryz.prog 58 #[.int .i64 (n : Int)] w (fun e w' => e = .returned (.string (textB n)) ∧ Below w.heap.size w w') := by
  have hcv : (convert 109 9 (.slice (some ⟨w.heap.size, 0, none⟩) 4 4)).run Tryz.prog (w.alloc (.cells #[.int .u8 ((n : Int) % 256), .int .u8 ((n : Int) / 256 % 256), .int .u8 ((n : Int) / 65536), .int .u8 77] 5)) = .ok (.string (textB n)) (w.alloc (.cells #[.int .u8 ((n : Int) % 256), .int .u8 ((n : Int) / 256 % 256), .int .u8 ((n : Int) / 65536), .int .u8 77] 5)) := by
    have h := own_new w w.heap.size 5 (textL n) (Nat.le_refl _) (by unfold maxLen; simp [textL])
    rw [textL_cells hn] at h
    exact run_convert_own (l := textL n) _ _ _ 5 rfl rfl rfl rfl (by rw [textL_cells hn]; exact h)
  go_enter Tryz.func58, Tryz.ntmps58
  go_wp2_with fail
  go_ret
  exact ⟨rfl, (Below.refl _ _).alloc (Nat.le_refl _) _⟩
set_option maxRecDepth 100000 in
set_option maxHeartbeats 4000000 in
theorem kitValue_any (n : Nat) (w : World) (hn : n < 16777216) : Calls Tryz.prog 59 #[.string (textB n)] w (fun e w' => e = .returned (.int .i64 (n : Int)) ∧ Below w.heap.size w w') := by
  have ha : (UInt8.ofNat n).toNat = n % 256 := by rw [UInt8.toNat_ofNat']
  have hb : (UInt8.ofNat (n / 256)).toNat = n / 256 % 256 := by rw [UInt8.toNat_ofNat']
  have hc : (UInt8.ofNat (n / 65536)).toNat = n / 65536 := by rw [UInt8.toNat_ofNat']; exact Nat.mod_eq_of_lt (by omega)
  have hs : (textB n).size = 4 := rfl
  have h0 : (textB n)[0]'(by rw [hs]; decide) = UInt8.ofNat n := rfl
  have h1 : (textB n)[1]'(by rw [hs]; decide) = UInt8.ofNat (n / 256) := rfl
  have h2 : (textB n)[2]'(by rw [hs]; decide) = UInt8.ofNat (n / 65536) := rfl
  have h3 : (textB n)[3]'(by rw [hs]; decide) = 77 := rfl
  generalize textB n = s at *
  generalize UInt8.ofNat n = a at *
  generalize UInt8.ofNat (n / 256) = b at *
  generalize UInt8.ofNat (n / 65536) = c at *
  have h77 : ((s[3]'(by rw [hs]; decide)).toNat : Int) = 77 := by rw [h3]; rfl
  go_enter Tryz.func59, Tryz.ntmps59
  go_wp2_with fail
  go_quiet (fail)
  have he : (n : Int) % 256 + (n : Int) / 256 % 256 * 256 + (n : Int) / 65536 * 65536 = n := by omega
  rw [he]
  go_wp2_with fail
  go_ret
  exact ⟨rfl, ⟨rfl, rfl, rfl, Nat.le_refl _, fun _ _ => rfl⟩⟩
end Go.Proofs.YtfckomjbgopmaaaGreatDoor.Sch
end
section
set_option linter.unusedVariables false
namespace Go.Proofs.YtfckomjbgopmaaaGreatDoor.Tree
open Go.RowKit Go.WideShapes Go.ChangeShapes Words Owned

section
variable {e : TypeId} {N N' n n' : Nat} {w w' : World} {vs vs' : Nat → Value} {xs xs' : Nat → List Value}
theorem own_le {B B' k m : Nat} {v : Value} {ys : List Value} (h : w.ownsRow B e m v k ys) (hB : B' ≤ B) : w.ownsRow B' e m v k ys :=
  ⟨h.1, h.2.elim .inl fun ⟨g, cap, cur, hv, g1, g2, g3⟩ => .inr ⟨g, cap, cur, hv, Nat.le_trans hB g1, g2, g3⟩⟩
/-- Rows chosen, none twice. -/
theorem Fam.pull (h : Fam e N w n vs vs xs fun _ => []) (f : Nat → Nat) (hf : ∀ j, j < n' → f j < n) (hi : ∀ i j, i < n' → j < n' → f i = f j → i = j) (hv : ∀ j, j < n' → vs' j = vs (f j)) (hx : ∀ j, j < n' → xs' j = xs (f j)) : Fam e N w n' vs' vs' xs' fun _ => [] := by
  refine ⟨fun j hj => ?_, fun i j g hi' hj' a b => hi i j hi' hj' ?_⟩
  · rw [hv j hj, hx j hj]; exact h.ent _ (hf j hj)
  · rw [hv i hi'] at a; rw [hv j hj'] at b
    exact h.apart _ _ g (hf i hi') (hf j hj') a b
/-- One family ahead of another. -/
theorem Fam.join (h : Fam e N w n vs vs xs fun _ => []) (k : Fam e N' w n' vs' vs' xs' fun _ => []) (hN : N ≤ N') (hb : ∀ j g, j < n → (vs j).ownBlock = some g → g < N') :
    Fam e N w (n + n') (fun j => if j < n then vs j else vs' (j - n)) (fun j => if j < n then vs j else vs' (j - n)) (fun j => if j < n then xs j else xs' (j - n)) fun _ => [] := by
  have key : ∀ i j g, i < n → j < n' → TouchE (vs i) (vs i) g → TouchE (vs' j) (vs' j) g → False := by
    intro i j g hi hj a b
    have h1 := hb i g hi (a.elim id id)
    have h2 := ((k.ent j hj).lt b).1
    omega
  refine ⟨fun j hj => ?_, fun i j g hi hj a b => ?_⟩
  · try dsimp only
    split
    · exact h.ent j ‹_›
    · have := k.ent (j - n) (by omega)
      exact ⟨own_le this.v hN, own_le this.m hN⟩
  · try dsimp only at a b
    by_cases h1 : i < n
    · rw [if_pos h1] at a
      by_cases h2 : j < n
      · rw [if_pos h2] at b
        exact h.apart i j g h1 h2 a b
      · rw [if_neg h2] at b
        exact (key i (j - n) g h1 (by omega) a b).elim
    · rw [if_neg h1] at a
      by_cases h2 : j < n
      · rw [if_pos h2] at b
        exact (key j (i - n) g h2 (by omega) b a).elim
      · rw [if_neg h2] at b
        have := k.apart (i - n) (j - n) g (by omega) (by omega) a b
        omega
def nthV (vs : List Value) (j : Nat) : Value := vs.getD j undef
def nthN {X : Type} (k : IntKind) (nums : X → List Int) (xs : List X) (j : Nat) : List Value := (((xs[j]?).map nums).getD []).map (Value.int k)
/-- The numbers of a row of structs. -/
theorem fam_numL {X : Type} {nums : X → List Int} {k : IntKind} {hi : Nat} {ys : List X} {us : List Value} (h : NumL e k nums w N hi ys us) :
    Fam e N w ys.length (nthV us) (nthV us) (nthN k nums ys) (fun _ => []) ∧ ∀ j g, j < ys.length → (nthV us j).ownBlock = some g → g < hi := by
  obtain ⟨h1, lv, h2, h3, h4, h5⟩ := h
  have hn : ∀ j (hj : j < ys.length), NumsIn e k (lv j) (lv (j + 1)) w (nums ys[j]) (nthV us j) := fun j hj => by
    have hu : us[j]? = some (nthV us j) := by unfold nthV; rw [List.getD_eq_getElem?_getD, List.getElem?_eq_getElem (by omega)]; rfl
    exact h5 j _ _ (List.getElem?_eq_getElem hj) hu
  have hx : ∀ j (hj : j < ys.length), nthN k nums ys j = (nums ys[j]).map (Value.int k) := fun j hj => by unfold nthN; rw [List.getElem?_eq_getElem hj]; rfl
  have hge : ∀ j, N ≤ lv j := fun j => Nat.le_trans h3 (h2 0 j (Nat.zero_le _))
  refine ⟨⟨fun j hj => ?_, fun i j g hi hj a b => ?_⟩, fun j g hj hg => ?_⟩
  · rw [hx j hj]
    have := own_le (hn j hj).own (hge j)
    exact ⟨by rw [List.length_map]; exact this, by simpa using this⟩
  · have a := a.elim id id
    have b := b.elim id id
    have a1 := ((hn i hi).own.lt g a).1
    have a2 := (hn i hi).lt g a
    have b1 := ((hn j hj).own.lt g b).1
    have b2 := (hn j hj).lt g b
    rcases Nat.lt_trichotomy i j with hij | hij | hij
    · have := h2 (i + 1) j (by omega); omega
    · exact hij
    · have := h2 (j + 1) i (by omega); omega
  · have := (hn j hj).lt g hg
    have := h2 (j + 1) ys.length (by omega)
    omega
theorem nthN_len {X : Type} (k : IntKind) (nums : X → List Int) (ys : List X) (m : Nat) (h : ∀ y ∈ ys, (nums y).length ≤ m) (j : Nat) : (nthN k nums ys j).length ≤ m := by
  unfold nthN
  rw [List.length_map]
  rcases h' : ys[j]? with _ | y
  · simp
  · simpa using h y (List.mem_of_getElem? h')
/-- What lies in a row of structs: an element's numbers. -/
theorem vals3_at {X : Type} {pre : X → List Value} (hp : ∀ x, (pre x).length = 2) {ys : List X} {us : List Value} (hl : us.length = ys.length) {j : Nat} (hj : j < ys.length) : (vals3 pre ys us)[3 * j + 2]? = some (nthV us j) := by
  induction ys generalizing us j with
  | nil => simp at hj
  | cons y ys ih =>
    cases us with
    | nil => simp at hl
    | cons u us =>
      have e1 : vals3 pre (y :: ys) (u :: us) = (pre y ++ [u]) ++ vals3 pre ys us := by simp [vals3]
      rw [e1]
      cases j with
      | zero => rw [List.getElem?_append_left (by simp [hp])]; rw [List.getElem?_append_right (by simp [hp])]; simp [hp, nthV]
      | succ j =>
        rw [List.getElem?_append_right (by simp [hp]; omega)]
        have := ih (us := us) (by simpa using hl) (j := j) (by simpa using hj)
        rw [show 3 * (j + 1) + 2 - (pre y ++ [u]).length = 3 * j + 2 by simp [hp]; omega, this]
        simp [nthV]
end
end Go.Proofs.YtfckomjbgopmaaaGreatDoor.Tree
end
section
set_option linter.unusedVariables false
namespace Go.Proofs.YtfckomjbgopmaaaGreatDoor.Sch
open Go.RowKit Words Tree SchP Kit Owned AnaP

def off (ne : Nat → Nat) : Nat → Nat
  | 0 => 0
  | i + 1 => off ne i + ne i
theorem off_le {ne : Nat → Nat} {M nd : Nat} (h : ∀ i, i < nd → ne i ≤ M) : off ne nd ≤ nd * M := by
  induction nd with
  | zero => simp [off]
  | succ n ih =>
    have := ih fun i hi => h i (by omega)
    have := h n (by omega)
    simp only [off, Nat.add_mul, Nat.one_mul]
    omega
theorem off_mono {ne : Nat → Nat} {i j : Nat} (h : i ≤ j) : off ne i ≤ off ne j := by
  induction j with
  | zero => obtain rfl : i = 0 := by omega
            exact Nat.le_refl _
  | succ n ih =>
    rcases Nat.lt_or_ge i (n + 1) with h' | h'
    · have := ih (by omega); simp only [off]; omega
    · obtain rfl : i = n + 1 := by omega
      exact Nat.le_refl _
theorem off_lt {ne : Nat → Nat} {i k nd : Nat} (hi : i < nd) (hk : k < ne i) : off ne i + k < off ne nd := by
  have := off_mono (ne := ne) (i := i + 1) (j := nd) (by omega)
  simp only [off] at this
  omega
/-- m rows have been gathered. -/
structure Ad1 (vs : Nat → Value) (w : World) (m : Nat) (all : Value) (wr : World) : Prop where
  more : wr.ownsRow w.heap.size 55 1 all m ((List.range m).map vs)
  below : Below w.heap.size w wr
theorem Ad1.next {vs : Nat → Value} {w wr w' : World} {m : Nat} {all all' : Value} {o : Obj} (h : Ad1 vs w m all wr) (ho : w'.ownsRow w.heap.size 55 1 all' (m + 1) ((List.range m).map vs ++ [vs m])) (hg : (wr.alloc o).grownBy w' all.ownBlock) : Ad1 vs w (m + 1) all' w' := by
  refine ⟨by rw [List.range_succ, List.map_append]; exact ho, ?_⟩
  exact (h.below.alloc h.below.size o).grown hg (by have := h.below.size; simp; omega) (fun r e => (h.more.lt r e).1)
/-- A cell of a row is written. -/
theorem own_set_at {w : World} {B e m n g cap o : Nat} {v u : Value} {cs : List Value} (h : w.ownsRow B e m v n cs) (hv : v = .slice (some ⟨g, 0, none⟩) n cap) : (w.setCell ⟨g, o, none⟩ u).ownsRow B e m v n (cs.set o u) := by
  rcases h.2 with ⟨e', h0⟩ | ⟨g', cap', cur, e', hb, hh, hc, hm, hs, ht⟩
  · rw [hv] at e'; cases e'
  · rw [hv] at e'
    cases e'
    refine ⟨by rw [List.length_set]; exact h.1, .inr ⟨g, cap, cur.setIfInBounds o u, hv, hb, Blk.set_ hh o u, hc, hm, by simpa using hs, ?_⟩⟩
    rw [Array.toList_setIfInBounds, List.take_set, ht]
/-- Some entries have been written over. -/
structure Ad3 (B N nd : Nat) (Lv : Value) (dv : Nat → Value) (ne : Nat → Nat) (w : World) (i k : Nat) (wr : World) : Prop where
  out : ∃ cs : Nat → List Value, (∀ j, j < nd → wr.ownsRow N 68 3 (dv j) (ne j) (cs j)) ∧ ∀ j q, j < nd → (j < i ∨ (j = i ∧ q < k)) → q < ne j → (cs j)[q * 3]? = some (.string (textB (1000 * j + q)))
  lst : wr.ownsRow B 30 1 Lv nd ((List.range nd).map dv)
  below : Below N w wr
section
variable {B N nd : Nat} {Lv : Value} {dv : Nat → Value} {ne : Nat → Nat} {w wr w' : World} {i k : Nat}
theorem Ad3.next (h : Ad3 B N nd Lv dv ne w i k wr) (hk : ne i ≤ k) : Ad3 B N nd Lv dv ne w (i + 1) 0 wr := by
  obtain ⟨cs, h1, h2⟩ := h.out
  refine ⟨⟨cs, h1, fun j q hj hq hl => h2 j q hj ?_ hl⟩, h.lst, h.below⟩
  rcases hq with hq | ⟨_, hq⟩
  · rcases Nat.lt_or_ge j i with h' | h'
    · exact .inl h'
    · obtain rfl : j = i := by omega
      exact .inr ⟨rfl, by omega⟩
  · omega
theorem Ad3.on (h : Ad3 B N nd Lv dv ne w i k wr) (hN : N ≤ wr.heap.size) (hb : Below wr.heap.size wr w') : Ad3 B N nd Lv dv ne w i k w' := by
  obtain ⟨cs, h1, h2⟩ := h.out
  exact ⟨⟨cs, fun j hj => own_below (h1 j hj) hb, h2⟩, own_below h.lst hb, h.below.trans (hb.mono hN)⟩
theorem Ad3.step (h : Ad3 B N nd Lv dv ne w i k wr) (hA : ∀ i j g, i < nd → j < nd → (dv i).ownBlock = some g → (dv j).ownBlock = some g → i = j) (hi : i < nd) {g cap : Nat} (hv : dv i = .slice (some ⟨g, 0, none⟩) (ne i) cap) (hg : N ≤ g) (hk : k < ne i) (u v : Value) :
    Ad3 B N nd Lv dv ne w i (k + 1) (((wr.setCell ⟨g, k * 3, none⟩ (.string (textB (1000 * i + k)))).setCell ⟨g, k * 3 + 1, none⟩ u).setCell ⟨g, k * 3 + 2, none⟩ v) := by
  obtain ⟨cs, h1, h2⟩ := h.out
  have hbi : (dv i).ownBlock = some g := by rw [hv]; rfl
  have hcells : ∃ c fz, wr.heap[g]? = some (.cells c 68 fz) := by
    rcases (h1 i hi).2 with ⟨e', h0⟩ | ⟨g', cap', cur, e', hb, hh, _⟩
    · rw [hv] at e'; cases e'
    · rw [hv] at e'; cases e'; exact ⟨_, _, hh⟩
  have hk3 : ∀ (W : World) (q : Nat) (z : Value) (g' : Nat), g' ≠ g → (W.setCell ⟨g, q, none⟩ z).heap[g']? = W.heap[g']? := fun W q z g' hne => Below.heap_setCell W ⟨g, q, none⟩ z g' hne
  have hkeep : ∀ g', g' ≠ g → (((wr.setCell ⟨g, k * 3, none⟩ (.string (textB (1000 * i + k)))).setCell ⟨g, k * 3 + 1, none⟩ u).setCell ⟨g, k * 3 + 2, none⟩ v).heap[g']? = wr.heap[g']? := fun g' hne => by rw [hk3 _ _ _ _ hne, hk3 _ _ _ _ hne, hk3 _ _ _ _ hne]
  refine ⟨⟨fun j => if j = i then (((cs i).set (k * 3) (.string (textB (1000 * i + k)))).set (k * 3 + 1) u).set (k * 3 + 2) v else cs j, fun j hj => ?_, fun j q hj hq hl => ?_⟩, ?_, ?_⟩
  · dsimp only
    split
    · rename_i e; subst e
      exact own_set_at (own_set_at (own_set_at (h1 j hj) hv) hv) hv
    · rename_i hne
      exact own_keep (h1 j hj) fun g' hg' => hkeep g' fun e => hne (hA j i g hj hi (by rw [hg', e]) hbi)
  · dsimp only
    split
    · rename_i e; subst e
      have hlen := (h1 j hj).1
      rw [List.getElem?_set_ne (by omega), List.getElem?_set_ne (by omega), List.getElem?_set]
      split
      · rename_i e; have e : k = q := by omega
        subst e
        rw [if_pos (by omega)]
      · exact h2 j q hj (.inr ⟨rfl, by omega⟩) hl
    · exact h2 j q hj (.inl (by omega)) hl
  · refine own_keep h.lst fun g' hg' => hkeep g' fun e => ?_
    subst e
    obtain ⟨c, fz, hc⟩ := hcells
    rcases h.lst.2 with ⟨e', h0⟩ | ⟨g2, cap', cur, e', hb, hh, _⟩
    · rw [e'] at hg'; cases hg'
    · rw [e'] at hg'
      have : g2 = g' := by simpa [Value.ownBlock] using hg'
      subst this
      rw [hc] at hh
      injection hh with hh
      injection hh with _ hh
      exact absurd hh (by decide)
  · exact ((h.below.setCell (p := ⟨g, k * 3, none⟩) hg _).setCell (p := ⟨g, k * 3 + 1, none⟩) hg _).setCell (p := ⟨g, k * 3 + 2, none⟩) hg _
/-- The list lies beside the entries. -/
theorem Ad3.list_ne {ga ge c c' n' : Nat} (h : Ad3 B N nd (.slice (some ⟨ga, 0, none⟩) nd c) dv ne w i k wr) {j : Nat} (hj : j < nd) (hv : dv j = .slice (some ⟨ge, 0, none⟩) n' c') : ga ≠ ge := by
  obtain ⟨cs, h1, h2⟩ := h.out
  rcases own_own_ne h.lst (h1 j hj) (by decide) with h' | h'
  · cases h'
  · rintro rfl; exact h' (by rw [hv]; rfl)
/-- What a document's row holds. -/
theorem Ad3.doc (h : Ad3 B N nd Lv dv ne w i k wr) {j : Nat} (hj : j < nd) : ∃ gl, (∃ c, Lv = .slice (some ⟨gl, 0, none⟩) nd c) ∧ wr.cell? ⟨gl, j, none⟩ = some (dv j) := by
  obtain ⟨gl, cap, cur, e, hb, hx⟩ := own_at_blk h.lst (by omega)
  exact ⟨gl, ⟨cap, e⟩, (hb.cell j).trans (hx j _ (by simp [hj]))⟩
/-- Where an entry lies. -/
theorem Ad3.ent (h : Ad3 B N nd Lv dv ne w i k wr) {j q : Nat} (hj : j < nd) (hq : q < ne j) : ∃ g cap, dv j = .slice (some ⟨g, 0, none⟩) (ne j) cap ∧ N ≤ g ∧ g < wr.heap.size ∧ (∃ u0 u1 u2, wr.cell? ⟨g, q * 3, none⟩ = some u0 ∧ wr.cell? ⟨g, q * 3 + 1, none⟩ = some u1 ∧ wr.cell? ⟨g, q * 3 + 2, none⟩ = some u2) ∧ ∀ o, wr.frozen? ⟨g, o, none⟩ = false := by
  obtain ⟨cs, h1, h2⟩ := h.out
  obtain ⟨g, cap, cur, e, hb, hx⟩ := own_at_blk (h1 j hj) (by omega)
  have hlen := (h1 j hj).1
  have hin := (h1 j hj).lt g (by rw [e]; rfl)
  refine ⟨g, cap, e, hin.1, hin.2, ⟨_, _, _, (hb.cell _).trans (hx _ _ (List.getElem?_eq_getElem (by omega))), (hb.cell _).trans (hx _ _ (List.getElem?_eq_getElem (by omega))), (hb.cell _).trans (hx _ _ (List.getElem?_eq_getElem (by omega)))⟩, fun o => hb.frozen o⟩
theorem Ad3.read (h : Ad3 B N nd Lv dv ne w nd 0 wr) {j q : Nat} (hj : j < nd) (hq : q < ne j) : ∃ g cap, dv j = .slice (some ⟨g, 0, none⟩) (ne j) cap ∧ wr.cell? ⟨g, q * 3, none⟩ = some (.string (textB (1000 * j + q))) := by
  obtain ⟨cs, h1, h2⟩ := h.out
  obtain ⟨g, cap, cur, e, hb, hx⟩ := own_at_blk (h1 j hj) (by omega)
  exact ⟨g, cap, e, (hb.cell _).trans (hx _ _ (h2 j q hj (.inl hj) hq))⟩
end
end Go.Proofs.YtfckomjbgopmaaaGreatDoor.Sch
end
