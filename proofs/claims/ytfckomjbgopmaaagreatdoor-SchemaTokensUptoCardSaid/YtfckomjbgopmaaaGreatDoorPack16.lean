/- Contract: slices.Clone over numbers. Contracts: rows of cells compared, lent, kept. Written by gen_cells.py out of the texts on entries. A document's cells, in plain Lean: which documents are taken, entry by entry and all together; their order makes no difference, nor does one that is left away; cells are told as entries again. The decimals and the tokens of a text come as functions. What a call keeps: all that lay there but some blocks. Over any program. -/
import Derived.Test.YtfckomjbgopmaaaGreatDoorPack12
import Derived.Test.YtfckomjbgopmaaaGreatDoorPack15
import Derived.Test.YtfckomjbgopmaaaGreatDoorPack9
section
set_option linter.unusedVariables false
namespace Go.Proofs.YtfckomjbgopmaaaGreatDoor.Sch
open Go.RowKit Words Tree SchP Kit Owned

set_option maxRecDepth 100000 in
theorem eql_nilS (n c : Nat) (w : World) : (binOp .eql 55 (.slice none n c) (.slice none 0 0)).run Tryz.prog w = .ok (.bool true) w := by rfl
set_option maxRecDepth 100000 in
theorem eql_someS (ad : Addr) (n c : Nat) (w : World) : (binOp .eql 55 (.slice (some ad) n c) (.slice none 0 0)).run Tryz.prog w = .ok (.bool false) w := by rfl
set_option maxRecDepth 100000 in
theorem clone_any (v : Value) (l : List Int) (w : World) (hv : T.At bare w (fun g => g < w.heap.size) (numsT .i64 l) v) (hl : l.length * 8 ≤ 140737488351232) :
    Calls Tryz.prog 31 #[v] w (FreshT (numsT .i64 l) w) := by
  obtain ⟨A, cap, rfl, hc, hm, hr⟩ := at_nums hv
  clear hv
  obtain ⟨i0, hi, hz0, hz1, hz2⟩ := info_parts infoI64
  cases A with
  | none =>
    have h0 : l = [] := by
      rcases Nat.eq_zero_or_pos l.length with h | h
      · exact List.eq_nil_of_length_eq_zero h
      · obtain ⟨ad, e, _⟩ := hr.2 h; cases e
    subst h0
    clear hr
    have hq := eql_nilS
    go_enter Tryz.func31, Tryz.ntmps31
    go_wp2_with fail
    go_ret
    exact ⟨_, rfl, nums_cells (B := w.heap.size) (e := 2) (World.ownsRow_nil _ _ _ _), Below.refl _ _⟩
  | some ad =>
    have hq := eql_someS
    go_enter Tryz.func31, Tryz.ntmps31
    go_wp2_with (at_builtin; refine wpList_append_any _ rfl (.tmp 5) (.tmp 6) 55 rfl w.heap.size 2 i0 (.int .i64 0) 1 8 Tryz.underlying55 hi hz0 hz1 hz2 rfl (by decide) _ 0 [] rfl (own_empty w _ _ _ (Nat.le_refl _)) w.heap.size (some ad) l.length cap (l.map (Value.int .i64)) rfl (hr.alloc (Nat.le_refl _) _) ?c2 ?c3 ?c4 ?c5 ?_)
    case c2 => intro u hu; obtain ⟨z, _, rfl⟩ := List.mem_map.1 hu; rfl
    case c3 => unfold maxLen; omega
    case c4 => omega
    case c5 => simp
    intro v1 w1 ho1 hg1 _
    have hb1 : Below w.heap.size w w1 := ((Below.refl _ w).alloc (Nat.le_refl _) _).grown hg1 (by simp) (fun r e => by simp [Value.ownBlock] at e; omega)
    replace ho1 : w1.ownsRow w.heap.size 2 1 v1 l.length (l.map (Value.int .i64)) := by simpa using ho1
    have HB1 := Lib.hid hb1
    have HO1 := Lib.hid ho1
    clear hg1 hb1 ho1
    go_wp2_with fail
    go_ret
    exact ⟨_, rfl, nums_cells HO1.out, HB1.out⟩
end Go.Proofs.YtfckomjbgopmaaaGreatDoor.Sch
end
section
set_option linter.unusedVariables false
namespace Go.Proofs.YtfckomjbgopmaaaGreatDoor.Sch
open Go.RowKit Words Tree SchP Kit Owned

/-- The marks behind rows of cells and of their numbers. -/
def markC : List Value := [.int .i64 (-71), .string ⟨#[]⟩, .slice none 0 0]
def lentC : Nat → List (List Value) := fun s => if s = 1 then [[.int .i64 (-7171)]] else if s = 3 then [markC] else []
theorem lentC_three : lentC 3 = [markC] := rfl
theorem infoC : (Tryz.prog.info? 57).map (fun i => (i.zero, i.size, i.bytes)) = some (some (.agg #[.int .i64 0, .string ⟨#[]⟩, .slice none 0 0]), 3, 48) := by kernel_rfl
/-- Rows of numbers hang on the mark of rows of one cell alone. -/
theorem nums_sent {a b : Nat → List (List Value)} (h : a 1 = b 1) {w : World} {S : Nat → Prop} {k : IntKind} {l : List Int} {v : Value} (hv : T.At a w S (numsT k l) v) : T.At b w S (numsT k l) v := by
  simp only [numsT, T.At] at hv ⊢
  obtain ⟨A, cap, vs, h1, h2, h3, h4, h5, h6⟩ := hv
  obtain rfl := AtL.lits h6
  rw [h] at h2 h5
  exact ⟨A, cap, _, h1, h2, h3, h4, h5, AtL.of_lits⟩
def LentC (t : T) (w : World) (e : Ending) (w' : World) : Prop := ∃ v, e = .returned v ∧ T.At lentC w' (fun g => w.heap.size ≤ g ∧ g < w'.heap.size) t v ∧ Below w.heap.size w w'

set_option maxRecDepth 100000 in
set_option maxHeartbeats 4000000 in
theorem lentCells_any (u : Value) (l : List CT) (w : World) (hu : T.At bare w (fun g => g < w.heap.size) (cellsT l) u) (hl : l.length * 48 ≤ 140737488351232) (hf : ∀ f ∈ l, COk f) :
    Calls Tryz.prog 10 #[u] w (LentC (cellsT l) w) := by
  obtain ⟨A, cap, rfl, hc, hm, hel⟩ := at_row ccells_len hu
  have EL := Lib.hid hel
  clear hel hu
  go_enter Tryz.func10, Tryz.ntmps10
  go_wp2_with fail
  go_loopw [3, 4] (fun v i wr => ∃ k : Nat, k ≤ l.length ∧ i = .int .i64 k ∧ Hid (LentRow lentC 57 3 ccells w wr v l k)) (fun _ i _ => l.length - (intOf i).toNat)
  case atStart => exact ⟨0, by omega, rfl, Lib.hid (lentRow_zero _ w l)⟩
  case round =>
    obtain ⟨k, hkk, rfl, HK⟩ := hrel
    have HKB : Hid (Below w.heap.size w wr) := Lib.hid (by obtain ⟨_, _, _, h⟩ := HK.out; exact h)
    have hzr := HKB.out.size
    by_cases hlt : k < l.length
    · obtain ⟨ad, us, rfl, hba, au, lu, cu⟩ := EL.out k hlt
      replace cu := cu.keep (w' := wr) (fun p hp => HKB.out.cell (by rw [hp, block_of_add]; exact hba))
      have hab : (ad.add (k * 3)).block < wr.heap.size := by rw [block_of_add]; omega
      have HF := Lib.hid (hf l[k] (List.getElem_mem hlt))
      have HFQ : Hid (∃ f, l[k] = f) := Lib.hid ⟨_, rfl⟩
      obtain ⟨f, hfk⟩ := HFQ.out
      rw [hfk] at au HF
      obtain ⟨vc, rfl, gc⟩ := at_ccells au
      obtain ⟨X, z, rfl, _, _, hrd⟩ := at_nums gc
      have a0 := cu.zero
      have a1 := cu.at_ 1 _ rfl (by omega)
      have a2 := cu.at_ 2 _ rfl (by omega)
      have HRD := Lib.hid hrd
      clear cu au lu gc hrd HFQ
      go_wp2_with fail
      have HWN := Lib.hid ((Below.refl _ wr).alloc (Nat.le_refl _) (Obj.cells #[.int .i64 f.field, .string f.text, .slice X f.nums.length z] 57))
      have BF := Lib.hid (Blk.new wr 57 #[.int .i64 f.field, .string f.text, .slice X f.nums.length z])
      have hzn : (wr.alloc (Obj.cells #[.int .i64 f.field, .string f.text, .slice X f.nums.length z] 57)).heap.size = wr.heap.size + 1 := by simp
      clear a0 a1 a2
      generalize wr.alloc (Obj.cells #[.int .i64 f.field, .string f.text, .slice X f.nums.length z] 57) = W1 at *
      refine (lent64_any X z f.nums W1 (((HRD.out.below HKB.out).below (HWN.out.mono HKB.out.size)).more (by have := HKB.out.size; omega)) HF.out.nums.1).mono ?_
      rintro e w3 ⟨vl, rfl, al, b3⟩
      replace al := nums_sent (a := lent) (b := lentC) rfl al
      obtain ⟨Y, z2, rfl, _, _⟩ := at_slice al
      have hz3 := b3.size
      have BF3 := Lib.hid (BF.out.below b3 BF.out.lt)
      have HB3 := Lib.hid (HWN.out.trans (b3.mono (by omega)) : Below wr.heap.size wr w3)
      have AL3 := Lib.hid al
      have c2 : w3.cell? ⟨wr.heap.size, 2, none⟩ = some (.slice X f.nums.length z) := BF3.out.cell 2
      have f2 : w3.frozen? ⟨wr.heap.size, 2, none⟩ = false := BF3.out.frozen 2
      clear al b3
      go_upto_region 7 with fail
      have BF4 : Hid (Blk (w3.setCell ⟨wr.heap.size, 2, none⟩ (.slice Y f.nums.length z2)) wr.heap.size 57 #[.int .i64 f.field, .string f.text, .slice Y f.nums.length z2]) := Lib.hid (BF3.out.set_ 2 _)
      have HB4 : Hid (Below wr.heap.size wr (w3.setCell ⟨wr.heap.size, 2, none⟩ (.slice Y f.nums.length z2))) := Lib.hid (HB3.out.setCell (Nat.le_refl _) _)
      have hs4 : (w3.setCell ⟨wr.heap.size, 2, none⟩ (.slice Y f.nums.length z2)).heap.size = w3.heap.size := by simp [World.setCell]
      have AL4 : Hid (T.At lentC (w3.setCell ⟨wr.heap.size, 2, none⟩ (.slice Y f.nums.length z2)) (fun g => wr.heap.size ≤ g ∧ g < w3.heap.size) (numsT .i64 f.nums) (.slice Y f.nums.length z2)) :=
        Lib.hid (At.keep (fun p hp => World.cell?_setCell_other _ _ _ _ (by intro e; subst e; have := hp.1; simp at this; omega)) (fun g h => ⟨by omega, h.2⟩) AL3.out)
      clear c2 f2 BF3 HB3 AL3 BF
      generalize w3.setCell ⟨wr.heap.size, 2, none⟩ (.slice Y f.nums.length z2) = W4 at *
      have b0 := BF4.out.cell 0
      have b1 := BF4.out.cell 1
      have b2 := BF4.out.cell 2
      obtain ⟨xs, hx, ha, hB⟩ := HK.out
      have hown := own_below hx HB4.out
      have HX := Lib.hid hx; have HA := Lib.hid ha
      have HFK := Lib.hid hfk
      have HS4 := Lib.hid hs4
      obtain ⟨i0, hi1, hi2, hi3, hi4⟩ := info_parts infoC
      clear hx ha hB hfk hs4
      go_wp2_with (at_builtin; refine wpList_append_any _ rfl (.tmp 23) (.tmp 25) 25 rfl w.heap.size 57 i0 _ 3 48 Tryz.underlying25 hi1 hi2 hi3 hi4 rfl (by decide) _ k xs rfl (hown.alloc _) (W4.heap.size + 1) (some ⟨W4.heap.size, 0, none⟩) 1 1 [.int .i64 f.field, .string f.text, .slice Y f.nums.length z2] rfl ?d1 ?d2 ?d3 ?d4 ?d5 ?_)
      all_goals have hs4 := HS4.out
      case d1 => exact ⟨rfl, fun _ => ⟨_, rfl, Nat.lt_succ_self _, fun j u hu => cells_new W4 _ _ j u hu⟩⟩
      case d2 => intro u hu; simp only [List.mem_cons, List.not_mem_nil, or_false] at hu; rcases hu with rfl | rfl | rfl <;> rfl
      case d3 => unfold maxLen; omega
      case d4 => omega
      case d5 => simp; omega
      intro v' w5 ho hg hv
      have HST : Hid (LentRow lentC 57 3 ccells w w5 v' l (k + 1)) := Lib.hid (by
        refine lentRow_step (us := [.int .i64 f.field, .string f.text, .slice Y f.nums.length z2]) (w3 := W4.alloc (.cells #[.int .i64 f.field, .string f.text, .slice Y f.nums.length z2] 57)) hlt HX.out HA.out HKB.out ?_ (HB4.out.alloc HB4.out.size _) ho hg (by simpa using hv)
        rw [HFK.out]
        refine ccells_mk (At.keep (fun p hp => World.cell?_alloc_lt _ _ _ (by omega)) (fun g h => ⟨h.1, by simp; omega⟩) AL4.out))
      clear ho hg hv hown hi1 hi2 hi3 hi4 b0 b1 b2
      go_wp2_with fail
      go_roundw
      case rel => exact ⟨k + 1, by omega, by go_num, HST⟩
      case measure => simp [intOf]; omega
    · obtain rfl : k = l.length := by omega
      obtain ⟨xs, hx, ha, hB⟩ := HK.out
      have HX := Lib.hid hx; have HA := Lib.hid ha
      obtain ⟨i0, hi1, hi2, hi3, hi4⟩ := info_parts infoC
      clear ha hB
      go_wp2_with (at_builtin; refine wpList_append_own _ rfl (.tmp 27) (.tmp 29) 25 rfl w.heap.size 57 i0 _ 3 48 Tryz.underlying25 hi1 hi2 hi3 hi4 rfl (by decide) _ l.length xs rfl (hx.alloc _) ⟨wr.heap.size, 0, none⟩ 1 1 markC rfl rfl ?d6 ?d7 ?d8 ?d9 ?d10 ?_)
      case d6 => intro j u hu; exact cells_new wr markC _ j u hu
      case d7 => intro u hu; simp only [markC, List.mem_cons, List.not_mem_nil, or_false] at hu; rcases hu with rfl | rfl | rfl <;> rfl
      case d8 => unfold maxLen; omega
      case d9 => omega
      case d10 => simp; omega
      intro v' w4 ho hg _
      rcases ho.2 with ⟨_, h0⟩ | ⟨g, cap', cur, rfl, hB', hgg, hn, hm', hcs, ht⟩
      · omega
      have HE := Lib.hid (lentRow_end ccells_len lentC_three HX.out HA.out HKB.out ((Below.refl _ wr).alloc (Nat.le_refl _) _) ho hn hm' hg)
      have hmm := hm'
      unfold maxLen at hmm
      clear ho hg hgg hcs ht hx hi1 hi2 hi3 hi4 hB' hm'
      go_wp2_with fail
      go_ret
      exact ⟨_, rfl, HE.out.1, HE.out.2⟩

end Go.Proofs.YtfckomjbgopmaaaGreatDoor.Sch
end
section
namespace SchP
open AnaP

section
variable (dec : FT → ByteArray → Option Int) (run : FT → ByteArray → Option Nat)

/-- How many numbers an entry of a field has. -/
def wantN (f : FT) : Int := if f.kind = 3 then 1 else if f.kind = 5 then f.dims else 0
def kindOk (f : FT) (text : ByteArray) (nums : List Int) : Bool := decide ((nums.length : Int) = wantN f) && (decide (wantN f ≤ 0) || decide (text.size = 0))
/-- An entry's value in a cell, and its tokens. -/
def valueF (f : FT) (k : Nat) (e : ET) : Option (CT × Nat) :=
  if f.kind = 1 then (run f e.text).map fun n => (⟨k, e.text, []⟩, n)
  else if f.kind = 2 then (if e.text.size ≤ 256 then some (⟨k, e.text, []⟩, 0) else none)
  else if f.kind = 4 then (dec f e.text).map fun n => (⟨k, ⟨#[]⟩, [n]⟩, 0)
  else some (⟨k, ⟨#[]⟩, e.nums⟩, 0)
def ofK (k : Nat) (out : List (CT × Nat)) : List (CT × Nat) := out.filter fun c => decide (c.1.field = k)
def sumK (k : Nat) (out : List (CT × Nat)) : Nat := ((ofK k out).map (·.2)).sum
/-- The next cell, or why there is none. -/
def stepF (l : List FT) (out : List (CT × Nat)) (e : ET) : Except Int (CT × Nat) := match findF l e.field with
  | none => .error 81
  | some k => match l[k]? with
    | none => .error 81
    | some f =>
      if kindOk f e.text e.nums = false then .error 82
      else if f.many = false ∧ 0 < (ofK k out).length then .error 84
      else match valueF dec run f k e with
        | none => .error 83
        | some c => if f.kind = 1 ∧ 4096 < sumK k out + c.2 then .error 83 else .ok c
def goF (l : List FT) : List (CT × Nat) → List ET → Except Int (List (CT × Nat))
  | out, [] => .ok out
  | out, e :: d => match stepF dec run l out e with
    | .error n => .error n
    | .ok c => goF l (out ++ [c]) d
def cellsF (l : List FT) (d : List ET) : Except Int (List CT) :=
  if checkS l = false then .error 80 else if 64 < d.length then .error 84 else (goF dec run l [] d).map fun o => o.map (·.1)

/-- An entry by itself. -/
def oneF (l : List FT) (e : ET) : Option (CT × Nat) := match findF l e.field with
  | none => none
  | some k => match l[k]? with
    | none => none
    | some f => if kindOk f e.text e.nums = false then none else valueF dec run f k e
/-- Cells that may be together. -/
def Fits (l : List FT) (out : List (CT × Nat)) : Prop := ∀ (k : Nat) (f : FT), l[k]? = some f → (f.many = false → (ofK k out).length ≤ 1) ∧ (f.kind = 1 → sumK k out ≤ 4096)

theorem ofK_append (k : Nat) (a b : List (CT × Nat)) : ofK k (a ++ b) = ofK k a ++ ofK k b := List.filter_append ..
theorem Fits.nil (l : List FT) : Fits l [] := fun k f hk => by simp [ofK, sumK]

variable {dec run}
theorem valueF_zero {f : FT} {k : Nat} {e : ET} {c : CT × Nat} (h : valueF dec run f k e = some c) (hf : f.kind ≠ 1) : c.2 = 0 := by
  unfold valueF at h
  rw [if_neg hf] at h
  split at h
  · split at h
    · cases h; rfl
    · cases h
  · split at h
    · cases hr : dec f e.text with
      | none => rw [hr] at h; cases h
      | some n => rw [hr] at h; cases h; rfl
    · cases h; rfl
/-! ### Cells told as entries again -/
variable (txt : FT → Int → ByteArray)
def wantC (f : FT) : Int := if f.kind = 3 ∨ f.kind = 4 then 1 else if f.kind = 5 then f.dims else 0
def backE (l : List FT) (c : CT) : Except Int ET := if c.field < 0 ∨ (l.length : Int) ≤ c.field then .error 81 else match l[c.field.toNat]? with
  | none => .error 81
  | some f =>
    if ¬ ((c.nums.length : Int) = wantC f) ∨ (0 < wantC f ∧ 0 < c.text.size) then .error 82
    else if f.kind = 4 then .ok ⟨f.name, txt f (c.nums.getD 0 0), []⟩ else .ok ⟨f.name, c.text, c.nums⟩
def backGo (l : List FT) : List CT → Except Int (List ET)
  | [] => .ok []
  | c :: cs => match backE txt l c with
    | .error n => .error n
    | .ok e => match backGo l cs with
      | .error n => .error n
      | .ok d => .ok (e :: d)
def backF (l : List FT) (cs : List CT) : Except Int (List ET) := if checkS l = false then .error 80 else backGo txt l cs

theorem may_of {l : List FT} (h : checkS l = true) {k : Nat} {f : FT} (hk : l[k]? = some f) : mayB f = true := by
  obtain ⟨hk1, rfl⟩ := List.getElem?_eq_some_iff.1 hk
  unfold checkS at h
  simp only [Bool.and_eq_true] at h
  have h2 := h.2
  unfold okTo at h2
  rw [List.all_eq_true] at h2
  have h3 := h2 k (List.mem_range.2 hk1)
  rw [okAt_eq hk1, Bool.and_eq_true] at h3
  exact h3.2
theorem kind_of {f : FT} (h : mayB f = true) : f.kind = 1 ∨ f.kind = 2 ∨ f.kind = 3 ∨ f.kind = 4 ∨ (f.kind = 5 ∧ 1 ≤ f.dims ∧ f.dims ≤ 4) := by
  unfold mayB at h
  simp only [Bool.and_eq_true] at h
  have h2 := h.2
  unfold kindB at h2
  split at h2
  · exact .inl ‹_›
  · split at h2
    · omega
    · split at h2
      · omega
      · split at h2
        · rename_i h5
          have := of_decide_eq_true h2
          exact .inr (.inr (.inr (.inr ⟨h5, this⟩)))
        · cases h2
end
end SchP
end
section
set_option linter.unusedVariables false
namespace Go.Proofs.YtfckomjbgopmaaaGreatDoor.Tree
open Go.RowKit Go.WideShapes Go.ChangeShapes Words Owned

/-- All is kept but the blocks of N; memory may have grown. -/
structure But (N : Nat → Prop) (w w' : World) : Prop where
  os : w'.os = w.os
  tape : w'.tape = w.tape
  output : w'.output = w.output
  size : w.heap.size ≤ w'.heap.size
  block : ∀ g, g < w.heap.size → ¬ N g → w'.heap[g]? = w.heap[g]?
section
variable {N N' : Nat → Prop} {w w' w'' : World}
theorem But.of_below (h : Below w.heap.size w w') : But N w w' := ⟨h.os, h.tape, h.output, h.size, fun g hg _ => h.block g hg⟩
theorem But.refl (N : Nat → Prop) (w : World) : But N w w := But.of_below (Below.refl _ _)
theorem But.trans (h : But N w w') (k : But N w' w'') : But N w w'' := ⟨k.os.trans h.os, k.tape.trans h.tape, k.output.trans h.output, Nat.le_trans h.size k.size, fun g hg hn => (k.block g (Nat.lt_of_lt_of_le hg h.size) hn).trans (h.block g hg hn)⟩
theorem But.mono (h : But N w w') (hN : ∀ g, N g → N' g) : But N' w w' := ⟨h.os, h.tape, h.output, h.size, fun g hg hn => h.block g hg fun hg' => hn (hN g hg')⟩
theorem But.below {B : Nat} (h : But N w w') (hB : B ≤ w.heap.size) (hN : ∀ g, g < B → ¬ N g) : Below B w w' := ⟨h.os, h.tape, h.output, h.size, fun g hg => h.block g (by omega) (hN g hg)⟩
theorem But.grown {row : Option Nat} (h : w.grownBy w' row) (hr : ∀ r, row = some r → N r) : But N w w' := ⟨h.os, h.tape, h.output, h.size, fun g hg hn => h.block g hg (fun e => hn (hr g e.symm))⟩
theorem But.alloc (h : But N w w') (o : Obj) : But N w (w'.alloc o) := h.trans (But.of_below ((Below.refl _ _).alloc (Nat.le_refl _) _))
theorem But.set (h : But N w w') {p : Addr} (hp : N p.block ∨ w.heap.size ≤ p.block) (u : Value) : But N w (w'.setCell p u) :=
  ⟨h.os, h.tape, h.output, by simpa [World.setCell] using h.size, fun g hg hn => (Below.heap_setCell w' p u g (by rintro rfl; rcases hp with hp | hp; exact hn hp; omega)).trans (h.block g hg hn)⟩
/-- Blocks made meanwhile may be written. -/
theorem But.more (h : But N w w') (k : But N' w' w'') (hN : ∀ g, N' g → N g ∨ w.heap.size ≤ g) : But N w w'' :=
  ⟨k.os.trans h.os, k.tape.trans h.tape, k.output.trans h.output, Nat.le_trans h.size k.size, fun g hg hn => (k.block g (Nat.lt_of_lt_of_le hg h.size) (fun h' => (hN g h').elim hn (fun h'' => by omega))).trans (h.block g hg hn)⟩
theorem But.blk {g : Nat} {t : TypeId} {cs : Array Value} (h : But N w w') (hb : Blk w g t cs) (hn : ¬ N g) : Blk w' g t cs := (h.block g hb.lt hn).trans hb
theorem But.cell (h : But N w w') {p : Addr} (hp : p.block < w.heap.size) (hn : ¬ N p.block) : w'.cell? p = w.cell? p := World.cell?_of_block (h.block p.block hp hn)
end
/-- A row that is gathered is kept where blocks beside it are written. -/
theorem rowM_but {sent : Nat → List (List Value)} {X : Type} {f : X → List T} {s : Nat} {et : TypeId} {box : Option Nat} {N m : Nat} {M : Nat → Prop} {wr w' : World} {v : Value} {xs : List X} (h : RowM sent et s f box N m wr v xs) (hb : But M wr w') (hM : ∀ g, M g → g < N ∨ m ≤ g) (hm : m ≤ wr.heap.size) : RowM sent et s f box N m w' v xs := by
  obtain ⟨cs, ho, hl, ha⟩ := h
  have hk : ∀ g, N ≤ g → g < m → w'.heap[g]? = wr.heap[g]? := fun g h1 h2 => hb.block g (by omega) fun hg => by have := hM g hg; omega
  refine ⟨cs, ⟨ho.1, ho.2.elim .inl fun ⟨g, cap, cur, hv, h1, h2, h3⟩ => .inr ⟨g, cap, cur, hv, h1, (hk g h1 (hl g (by rw [hv]; rfl))).trans h2, h3⟩⟩, hl, ?_⟩
  exact AtL.keep (fun p hp => World.cell?_of_block (hk p.block hp.1 hp.2.1)) (fun g hg => ⟨hg.1, hg.2.1, hg.2.2.1.of (hk g hg.1 hg.2.1), hg.2.2.2⟩) ha
end Go.Proofs.YtfckomjbgopmaaaGreatDoor.Tree
end
