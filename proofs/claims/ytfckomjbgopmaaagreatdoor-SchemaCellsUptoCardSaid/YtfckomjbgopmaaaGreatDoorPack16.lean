/- Contracts: rows of cells compared, lent, kept. Written by gen_cells.py out of the texts on entries. A document's cells, in plain Lean: which documents are taken, entry by entry and all together; their order makes no difference, nor does one that is left away; cells are told as entries again. The decimals and the tokens of a text come as functions. What a call keeps: all that lay there but some blocks. Over any program. -/
import Derived.Test.YtfckomjbgopmaaaGreatDoorSchKept
import Derived.Test.YtfckomjbgopmaaaGreatDoorPack8
import Derived.Test.YtfckomjbgopmaaaGreatDoorPack15
section
set_option linter.unusedVariables false
namespace Go.Proofs.YtfckomjbgopmaaaGreatDoor.Sch
open Go.RowKit Words Tree SchP Kit Owned

theorem cdiff (x y : CT) : (¬ x.field = y.field) ∨ (x.field = y.field ∧ ¬ x.text = y.text) ∨ (x.field = y.field ∧ x.text = y.text ∧ ¬ x.nums = y.nums) ∨ x = y := by
  by_cases h1 : x.field = y.field
  · by_cases h2 : x.text = y.text
    · by_cases h3 : x.nums = y.nums
      · exact .inr (.inr (.inr (by cases x; cases y; simp_all)))
      · exact .inr (.inr (.inl ⟨h1, h2, h3⟩))
    · exact .inr (.inl ⟨h1, h2⟩)
  · exact .inl h1
theorem infoC : (Tryz.prog.info? 57).map (fun i => (i.zero, i.size, i.bytes)) = some (some (.agg #[.int .i64 0, .string ⟨#[]⟩, .slice none 0 0]), 3, 48) := by kernel_rfl
set_option maxRecDepth 100000 in
set_option maxHeartbeats 4000000 in
theorem kitCells_any (v u : Value) (xs ys : List CT) (w : World) (hv : T.At bare w (fun g => g < w.heap.size) (cellsT xs) v) (hu : T.At bare w (fun g => g < w.heap.size) (cellsT ys) u)
    (hx : xs.length * 48 ≤ 140737488351232) (hy : ys.length * 48 ≤ 140737488351232) (ox : ∀ e ∈ xs, COk e) (oy : ∀ e ∈ ys, COk e) (r : Bool) (hr : r = true ↔ xs = ys) :
    Calls Tryz.prog 22 #[v, u] w (AnsB r w) := by
  obtain ⟨A, c, rfl, _, hmA, eA⟩ := at_row ccells_len hv
  obtain ⟨B, d, rfl, _, hmB, eB⟩ := at_row ccells_len hu
  have EA := Lib.hid eA; have EB := Lib.hid eB; have HR := Lib.hid hr; have OX := Lib.hid ox; have OY := Lib.hid oy
  clear eA eB hv hu hr ox oy
  by_cases hl : xs.length = ys.length
  · have HL := Lib.hid hl
    have hbne : ((xs.length : Int) != (ys.length : Int)) = false := by rw [hl]; simp
    clear hl
    go_enter Tryz.func22, Tryz.ntmps22
    go_wp2_with fail
    go_loopw [5] (fun i wr => ∃ (k : Nat), k ≤ xs.length ∧ i = .int .i64 k ∧ Hid (xs.take k = ys.take k) ∧ Hid (Below w.heap.size w wr)) (fun i _ => xs.length - (intOf i).toNat)
    case atStart => exact ⟨0, by omega, rfl, Lib.hid (by simp), Lib.hid (Below.refl _ _)⟩
    case round =>
      obtain ⟨k, hk, rfl, HE, HW⟩ := hrel
      by_cases hlt : k < xs.length
      · have hlt2 : k < ys.length := by have := HL.out; omega
        obtain ⟨ad, us, rfl, hba, au, lu, cu⟩ := EA.out k hlt
        obtain ⟨bd, us2, rfl, hbb, au2, lu2, cu2⟩ := EB.out k hlt2
        replace cu := cu.keep (w' := wr) (fun p hp => HW.out.cell (by rw [hp, block_of_add]; exact hba))
        replace cu2 := cu2.keep (w' := wr) (fun p hp => HW.out.cell (by rw [hp, block_of_add]; exact hbb))
        have hok := OX.out _ (List.getElem_mem hlt)
        have hok2 := OY.out _ (List.getElem_mem hlt2)
        have HST : Hid (xs.take (k + 1) = xs.take k ++ [xs[k]] ∧ ys.take (k + 1) = ys.take k ++ [ys[k]]) := Lib.hid ⟨take_snoc hlt, take_snoc hlt2⟩
        have HNE : Hid (¬ xs[k] = ys[k] → r = false) := Lib.hid (fun h => by
          rcases bool_cases HR.out with ⟨e, _⟩ | ⟨_, e⟩
          · exact absurd e (ne_at hlt hlt2 h)
          · exact e)
        generalize hx1 : xs[k] = x at *
        generalize hx2 : ys[k] = y at *
        clear hx1 hx2
        obtain ⟨n, t, l⟩ := x
        obtain ⟨m, s, j⟩ := y
        obtain ⟨vl, rfl, al⟩ := at_ccells au
        obtain ⟨vj, rfl, aj⟩ := at_ccells au2
        obtain ⟨X, z, rfl, _, _, hrl⟩ := at_nums al
        obtain ⟨Y, z2, rfl, _, _, hrj⟩ := at_nums aj
        obtain ⟨a0, a1, a2⟩ := three cu
        obtain ⟨b0, b1, b2⟩ := three cu2
        have HC : Hid (∀ (q : Bool) (W : World), (q = true ↔ l = j) → Below w.heap.size w W → Calls Tryz.prog 52 #[.slice X l.length z, .slice Y j.length z2] W (AnsB q W)) := Lib.hid (fun q W hq hW =>
          int64s_any X Y z z2 l j W ((hrl.below hW).more hW.size) ((hrj.below hW).more hW.size) hok.nums.1 hok2.nums.1 q hq)
        clear cu cu2 au au2 lu lu2 al aj hrl hrj hok hok2
        have HD := Lib.hid (cdiff ⟨n, t, l⟩ ⟨m, s, j⟩)
        rcases HD.out with hd | ⟨hd1, hd⟩ | ⟨hd1, hd2, hd⟩ | hd
        · have HF := Lib.hid (HNE.out (fun e => hd (by injection e)))
          obtain ⟨hn1, hn2⟩ := bne_int hd
          clear hd HD HNE
          go_wp2_with fail
          go_quiet (fail)
          go_wp2_with fail
          go_ret
          rw [HF.out]
          exact ⟨rfl, HW.out.trans ⟨rfl, rfl, rfl, Nat.le_refl _, fun _ _ => rfl⟩⟩
        · obtain ⟨hn1, hn2⟩ := bne_str hd
          dsimp only at hd1
          subst hd1
          have HF := Lib.hid (HNE.out (fun e => hd (by injection e)))
          clear hd HD HNE
          go_wp2_with fail
          go_quiet (fail)
          go_wp2_with fail
          go_ret
          rw [HF.out]
          exact ⟨rfl, HW.out.trans ⟨rfl, rfl, rfl, Nat.le_refl _, fun _ _ => rfl⟩⟩
        · have HF := Lib.hid (HNE.out (fun e => hd (by injection e)))
          have HCF := Lib.hid (fun W hW => HC.out false W (by simpa using hd) hW)
          dsimp only at hd1 hd2
          subst hd1 hd2
          clear hd HD HNE HC
          go_upto_region 6 with fail
          have hBW : Below w.heap.size w ({ wr with drawn := wr.drawn + 1 } : World) := HW.out.trans ⟨rfl, rfl, rfl, Nat.le_refl _, fun _ _ => rfl⟩
          change ({ wr with drawn := wr.drawn + 1 } : World).cell? _ = _ at a0 a1 a2 b0 b1 b2
          refine wp_region_still_tail 35 (by kernel_rfl) (by kernel_rfl) ?_
          simp only [List.take_succ_cons, List.take_zero, List.drop_succ_cons, List.drop_zero]
          clear HW
          generalize ({ wr with drawn := wr.drawn + 1 } : World) = W at *
          repeat still_step
          refine wpStill_nil ?_
          change wpList _ _ _ _ _ _
          have HBW := Lib.hid hBW; clear hBW
          clear a0 a1 a2 b0 b1 b2
          go_wp2_with fail
          refine (HCF.out _ HBW.out).mono ?_
          rintro e W2 ⟨rfl, bW⟩
          have BW := Lib.hid (HBW.out.trans (bW.mono HBW.out.size))
          clear bW
          go_wp2_with fail
          go_ret
          rw [HF.out]
          exact ⟨rfl, BW.out⟩
        · have HCT := Lib.hid (fun W hW => HC.out true W (by injection hd with _ _ h3; simpa using h3) hW)
          have HQ := Lib.hid hd
          injection hd with h1 h2 h3
          subst h1 h2 h3
          clear HD HNE HC
          go_upto_region 6 with fail
          have hBW : Below w.heap.size w ({ wr with drawn := wr.drawn + 1 } : World) := HW.out.trans ⟨rfl, rfl, rfl, Nat.le_refl _, fun _ _ => rfl⟩
          change ({ wr with drawn := wr.drawn + 1 } : World).cell? _ = _ at a0 a1 a2 b0 b1 b2
          refine wp_region_still_tail 35 (by kernel_rfl) (by kernel_rfl) ?_
          simp only [List.take_succ_cons, List.take_zero, List.drop_succ_cons, List.drop_zero]
          clear HW
          generalize ({ wr with drawn := wr.drawn + 1 } : World) = W at *
          repeat still_step
          refine wpStill_nil ?_
          change wpList _ _ _ _ _ _
          have HBW := Lib.hid hBW; clear hBW
          clear a0 a1 a2 b0 b1 b2
          go_wp2_with fail
          refine (HCT.out _ HBW.out).mono ?_
          rintro e W2 ⟨rfl, bW⟩
          have BW := Lib.hid (HBW.out.trans (bW.mono HBW.out.size))
          clear bW
          go_wp2_with fail
          go_roundw
          case rel => exact ⟨k + 1, by omega, by go_num, Lib.hid (by rw [HST.out.1, HST.out.2, HE.out]), BW⟩
          case measure => simp [intOf]; omega
      · obtain rfl : k = xs.length := by omega
        have HT : Hid (r = true) := Lib.hid (HR.out.2 (take_all HE.out HL.out))
        go_wp2_with fail
        go_ret
        rw [HT.out]
        exact ⟨rfl, HW.out⟩
  · have hbne : ((xs.length : Int) != (ys.length : Int)) = true := by rw [bne_iff_ne]; omega
    have HF : Hid (r = false) := Lib.hid (by
      rcases bool_cases HR.out with ⟨e, _⟩ | ⟨_, e⟩
      · exact absurd (by rw [e]) hl
      · exact e)
    clear hl
    go_enter Tryz.func22, Tryz.ntmps22
    go_wp2_with fail
    go_ret
    rw [HF.out]
    exact ⟨rfl, Below.refl _ _⟩

end Go.Proofs.YtfckomjbgopmaaaGreatDoor.Sch
end
section
namespace SchP
open AnaP

section
variable (dec : FT → ByteArray → Option Int) (run : FT → ByteArray → Option Nat)

/-- How many numbers an entry of a field has. -/
def wantN (f : FT) : Int := if f.kind = 3 then 1 else if f.kind = 5 then f.dims else 0
def kindOk (f : FT) (text : ByteArray) (nums : List Int) : Bool := decide ((nums.length : Int) = wantN f) && (decide (wantN f ≤ 0) || decide (text.size = 0))
/-- An entry's value in a cell, and its tokens. -/
def valueF (f : FT) (k : Nat) (e : ET) : Option (CT × Nat) :=
  if f.kind = 1 then (run f e.text).map fun n => (⟨k, e.text, []⟩, n)
  else if f.kind = 2 then (if e.text.size ≤ 256 then some (⟨k, e.text, []⟩, 0) else none)
  else if f.kind = 4 then (dec f e.text).map fun n => (⟨k, ⟨#[]⟩, [n]⟩, 0)
  else some (⟨k, ⟨#[]⟩, e.nums⟩, 0)
def ofK (k : Nat) (out : List (CT × Nat)) : List (CT × Nat) := out.filter fun c => decide (c.1.field = k)
def sumK (k : Nat) (out : List (CT × Nat)) : Nat := ((ofK k out).map (·.2)).sum
/-- The next cell, or why there is none. -/
def stepF (l : List FT) (out : List (CT × Nat)) (e : ET) : Except Int (CT × Nat) := match findF l e.field with
  | none => .error 81
  | some k => match l[k]? with
    | none => .error 81
    | some f =>
      if kindOk f e.text e.nums = false then .error 82
      else if f.many = false ∧ 0 < (ofK k out).length then .error 84
      else match valueF dec run f k e with
        | none => .error 83
        | some c => if f.kind = 1 ∧ 4096 < sumK k out + c.2 then .error 83 else .ok c
def goF (l : List FT) : List (CT × Nat) → List ET → Except Int (List (CT × Nat))
  | out, [] => .ok out
  | out, e :: d => match stepF dec run l out e with
    | .error n => .error n
    | .ok c => goF l (out ++ [c]) d
def cellsF (l : List FT) (d : List ET) : Except Int (List CT) :=
  if checkS l = false then .error 80 else if 64 < d.length then .error 84 else (goF dec run l [] d).map fun o => o.map (·.1)

/-- An entry by itself. -/
def oneF (l : List FT) (e : ET) : Option (CT × Nat) := match findF l e.field with
  | none => none
  | some k => match l[k]? with
    | none => none
    | some f => if kindOk f e.text e.nums = false then none else valueF dec run f k e
/-- Cells that may be together. -/
def Fits (l : List FT) (out : List (CT × Nat)) : Prop := ∀ (k : Nat) (f : FT), l[k]? = some f → (f.many = false → (ofK k out).length ≤ 1) ∧ (f.kind = 1 → sumK k out ≤ 4096)

theorem ofK_append (k : Nat) (a b : List (CT × Nat)) : ofK k (a ++ b) = ofK k a ++ ofK k b := List.filter_append ..
theorem sumK_append (k : Nat) (a b : List (CT × Nat)) : sumK k (a ++ b) = sumK k a + sumK k b := by simp [sumK, ofK_append]
theorem Fits.sub {l : List FT} {a b : List (CT × Nat)} (h : b.Sublist a) (ha : Fits l a) : Fits l b := fun k f hk => by
  obtain ⟨h1, h2⟩ := ha k f hk
  have hs : (ofK k b).Sublist (ofK k a) := h.filter _
  refine ⟨fun hm => Nat.le_trans hs.length_le (h1 hm), fun hm => Nat.le_trans ?_ (h2 hm)⟩
  have : ∀ {x y : List Nat}, x.Sublist y → x.sum ≤ y.sum := by
    intro x y hxy
    induction hxy with
    | slnil => simp
    | cons a _ ih => simp only [List.sum_cons]; omega
    | cons_cons a _ ih => simp only [List.sum_cons]; omega
  exact this (hs.map _)
theorem Fits.nil (l : List FT) : Fits l [] := fun k f hk => by simp [ofK, sumK]

variable {dec run}
theorem oneF_field {l : List FT} {e : ET} {c : CT × Nat} (h : oneF dec run l e = some c) : ∃ (k : Nat) (f : FT), findF l e.field = some k ∧ l[k]? = some f ∧ kindOk f e.text e.nums = true ∧ valueF dec run f k e = some c ∧ c.1.field = k := by
  unfold oneF at h
  split at h
  · cases h
  · rename_i k hk
    split at h
    · cases h
    · rename_i f hf
      split at h
      · cases h
      · rename_i hkk
        refine ⟨k, f, hk, hf, by simpa using hkk, h, ?_⟩
        unfold valueF at h
        split at h
        · cases hr : run f e.text with
          | none => rw [hr] at h; cases h
          | some n => rw [hr] at h; cases h; rfl
        · split at h
          · split at h
            · cases h; rfl
            · cases h
          · split at h
            · cases hr : dec f e.text with
              | none => rw [hr] at h; cases h
              | some n => rw [hr] at h; cases h; rfl
            · cases h; rfl
theorem valueF_zero {f : FT} {k : Nat} {e : ET} {c : CT × Nat} (h : valueF dec run f k e = some c) (hf : f.kind ≠ 1) : c.2 = 0 := by
  unfold valueF at h
  rw [if_neg hf] at h
  split at h
  · split at h
    · cases h; rfl
    · cases h
  · split at h
    · cases hr : dec f e.text with
      | none => rw [hr] at h; cases h
      | some n => rw [hr] at h; cases h; rfl
    · cases h; rfl
/-- A step goes just if the entry may be by itself and its cell beside the others. -/
theorem stepF_iff {l : List FT} {out : List (CT × Nat)} {e : ET} {c : CT × Nat} (ho : Fits l out) : stepF dec run l out e = .ok c ↔ oneF dec run l e = some c ∧ Fits l (out ++ [c]) := by
  constructor
  · intro h
    unfold stepF at h
    split at h
    · cases h
    · rename_i k hk
      split at h
      · cases h
      · rename_i f hf
        split at h
        · cases h
        · rename_i hkk
          split at h
          · cases h
          · rename_i hm
            split at h
            · cases h
            · rename_i c' hc'
              split at h
              · cases h
              · rename_i hs
                injection h with h
                subst h
                have h1 : oneF dec run l e = some c' := by
                  unfold oneF
                  simp only [hk, hf]
                  rw [if_neg hkk]; exact hc'
                obtain ⟨k', f', g1, g2, _, g3, g4⟩ := oneF_field h1
                rw [hk] at g1; cases g1
                refine ⟨h1, fun j g hj => ?_⟩
                rw [ofK_append, sumK_append, List.length_append]
                by_cases hjk : j = k
                · subst hjk
                  rw [hf] at hj; cases hj
                  refine ⟨fun hmm => ?_, fun hmm => ?_⟩
                  · have : (ofK j out).length = 0 := by
                      rcases Nat.eq_zero_or_pos (ofK j out).length with h0 | h0
                      · exact h0
                      · exact absurd ⟨hmm, h0⟩ hm
                    rw [this]
                    have := List.length_filter_le (fun c : CT × Nat => decide (c.1.field = j)) [c']
                    simpa [ofK] using this
                  · have : sumK j [c'] = c'.2 := by simp [sumK, ofK, g4]
                    rw [this]
                    omega
                · have h0 : ofK j [c'] = [] := by
                    simp only [ofK, List.filter_cons, List.filter_nil, g4]
                    rw [if_neg (by simp; omega)]
                  have h1 : sumK j [c'] = 0 := by simp [sumK, h0]
                  rw [h0, h1]
                  exact ho j g hj
  · rintro ⟨h1, h2⟩
    obtain ⟨k, f, g1, g2, g3, g4, g5⟩ := oneF_field h1
    obtain ⟨h3, h4⟩ := h2 k f g2
    have e1 : (ofK k [c]) = [c] := by simp [ofK, g5]
    have e2 : sumK k [c] = c.2 := by simp [sumK, e1]
    rw [ofK_append, e1, List.length_append, List.length_singleton] at h3
    rw [sumK_append, e2] at h4
    unfold stepF
    simp only [g1, g2, g3, g4]
    rw [if_neg (by simp), if_neg (by rintro ⟨hm, h0⟩; have := h3 hm; omega), if_neg (by rintro ⟨hm, h0⟩; have := h4 hm; omega)]
/-- All goes just if every entry may be by itself, and all their cells together. -/
theorem goF_iff {l : List FT} : ∀ {d : List ET} {out r : List (CT × Nat)}, Fits l out → (goF dec run l out d = .ok r ↔ ∃ cs, d.map (oneF dec run l) = cs.map some ∧ r = out ++ cs ∧ Fits l (out ++ cs))
  | [], out, r, ho => by
    simp only [goF, List.map_nil]
    constructor
    · intro h
      injection h with h
      exact ⟨[], rfl, by simp [h], by simpa using ho⟩
    · rintro ⟨cs, h1, h2, _⟩
      have : cs = [] := by cases cs <;> simp_all
      subst this
      rw [h2, List.append_nil]
  | e :: d, out, r, ho => by
    simp only [goF, List.map_cons]
    cases hs : stepF dec run l out e with
    | error n =>
      constructor
      · intro h; cases h
      · rintro ⟨cs, h1, h2, h3⟩
        cases cs with
        | nil => simp at h1
        | cons c cs =>
          simp only [List.map_cons, List.cons.injEq] at h1
          have := (stepF_iff (dec := dec) (run := run) (e := e) (c := c) ho).2 ⟨h1.1, Fits.sub (a := out ++ c :: cs) (List.Sublist.append_left (by simp) _) h3⟩
          rw [hs] at this; cases this
    | ok c =>
      obtain ⟨h1, h2⟩ := (stepF_iff ho).1 hs
      dsimp only
      rw [goF_iff h2]
      constructor
      · rintro ⟨cs, h3, h4, h5⟩
        exact ⟨c :: cs, by simp [h1, h3], by simp [h4], by simpa using h5⟩
      · rintro ⟨cs, h3, h4, h5⟩
        cases cs with
        | nil => simp at h3
        | cons c' cs =>
          simp only [List.map_cons, List.cons.injEq] at h3
          obtain ⟨h3, h6⟩ := h3
          rw [h1] at h3
          cases h3
          exact ⟨cs, h6, by simp [h4], by simpa using h5⟩
theorem cellsF_iff {l : List FT} {d : List ET} {r : List CT} : cellsF dec run l d = .ok r ↔ checkS l = true ∧ d.length ≤ 64 ∧ ∃ cs, d.map (oneF dec run l) = cs.map some ∧ r = cs.map (·.1) ∧ Fits l cs := by
  unfold cellsF
  by_cases h1 : checkS l = false
  · rw [if_pos h1]
    constructor
    · intro h; cases h
    · rintro ⟨h, _⟩; rw [h1] at h; cases h
  · rw [if_neg h1]
    by_cases h2 : 64 < d.length
    · rw [if_pos h2]
      constructor
      · intro h; cases h
      · rintro ⟨_, h, _⟩; omega
    · rw [if_neg h2]
      constructor
      · intro h
        cases hg : goF dec run l [] d with
        | error n => rw [hg] at h; cases h
        | ok o =>
          rw [hg] at h
          injection h with h
          obtain ⟨cs, h3, h4, h5⟩ := (goF_iff (Fits.nil l)).1 hg
          rw [List.nil_append] at h4 h5
          subst h4
          exact ⟨by simpa using h1, by omega, o, h3, h.symm, h5⟩
      · rintro ⟨_, _, cs, h3, h4, h5⟩
        have := (goF_iff (dec := dec) (run := run) (d := d) (r := cs) (Fits.nil l)).2 ⟨cs, h3, by simp, by simpa using h5⟩
        rw [this, h4]; rfl
/-! ### Cells told as entries again -/
variable (txt : FT → Int → ByteArray)
theorem may_of {l : List FT} (h : checkS l = true) {k : Nat} {f : FT} (hk : l[k]? = some f) : mayB f = true := by
  obtain ⟨hk1, rfl⟩ := List.getElem?_eq_some_iff.1 hk
  unfold checkS at h
  simp only [Bool.and_eq_true] at h
  have h2 := h.2
  unfold okTo at h2
  rw [List.all_eq_true] at h2
  have h3 := h2 k (List.mem_range.2 hk1)
  rw [okAt_eq hk1, Bool.and_eq_true] at h3
  exact h3.2
theorem kind_of {f : FT} (h : mayB f = true) : f.kind = 1 ∨ f.kind = 2 ∨ f.kind = 3 ∨ f.kind = 4 ∨ (f.kind = 5 ∧ 1 ≤ f.dims ∧ f.dims ≤ 4) := by
  unfold mayB at h
  simp only [Bool.and_eq_true] at h
  have h2 := h.2
  unfold kindB at h2
  split at h2
  · exact .inl ‹_›
  · split at h2
    · omega
    · split at h2
      · omega
      · split at h2
        · rename_i h5
          have := of_decide_eq_true h2
          exact .inr (.inr (.inr (.inr ⟨h5, this⟩)))
        · cases h2
end
end SchP
end
section
set_option linter.unusedVariables false
namespace Go.Proofs.YtfckomjbgopmaaaGreatDoor.Tree
open Go.RowKit Go.WideShapes Go.ChangeShapes Words Owned

/-- All is kept but the blocks of N; memory may have grown. -/
structure But (N : Nat → Prop) (w w' : World) : Prop where
  os : w'.os = w.os
  tape : w'.tape = w.tape
  output : w'.output = w.output
  size : w.heap.size ≤ w'.heap.size
  block : ∀ g, g < w.heap.size → ¬ N g → w'.heap[g]? = w.heap[g]?
section
variable {N N' : Nat → Prop} {w w' w'' : World}
theorem But.of_below (h : Below w.heap.size w w') : But N w w' := ⟨h.os, h.tape, h.output, h.size, fun g hg _ => h.block g hg⟩
theorem But.refl (N : Nat → Prop) (w : World) : But N w w := But.of_below (Below.refl _ _)
theorem But.trans (h : But N w w') (k : But N w' w'') : But N w w'' := ⟨k.os.trans h.os, k.tape.trans h.tape, k.output.trans h.output, Nat.le_trans h.size k.size, fun g hg hn => (k.block g (Nat.lt_of_lt_of_le hg h.size) hn).trans (h.block g hg hn)⟩
theorem But.mono (h : But N w w') (hN : ∀ g, N g → N' g) : But N' w w' := ⟨h.os, h.tape, h.output, h.size, fun g hg hn => h.block g hg fun hg' => hn (hN g hg')⟩
theorem But.below {B : Nat} (h : But N w w') (hB : B ≤ w.heap.size) (hN : ∀ g, g < B → ¬ N g) : Below B w w' := ⟨h.os, h.tape, h.output, h.size, fun g hg => h.block g (by omega) (hN g hg)⟩
theorem But.grown {row : Option Nat} (h : w.grownBy w' row) (hr : ∀ r, row = some r → N r) : But N w w' := ⟨h.os, h.tape, h.output, h.size, fun g hg hn => h.block g hg (fun e => hn (hr g e.symm))⟩
theorem But.alloc (h : But N w w') (o : Obj) : But N w (w'.alloc o) := h.trans (But.of_below ((Below.refl _ _).alloc (Nat.le_refl _) _))
theorem But.set (h : But N w w') {p : Addr} (hp : N p.block ∨ w.heap.size ≤ p.block) (u : Value) : But N w (w'.setCell p u) :=
  ⟨h.os, h.tape, h.output, by simpa [World.setCell] using h.size, fun g hg hn => (Below.heap_setCell w' p u g (by rintro rfl; rcases hp with hp | hp; exact hn hp; omega)).trans (h.block g hg hn)⟩
/-- Blocks made meanwhile may be written. -/
theorem But.more (h : But N w w') (k : But N' w' w'') (hN : ∀ g, N' g → N g ∨ w.heap.size ≤ g) : But N w w'' :=
  ⟨k.os.trans h.os, k.tape.trans h.tape, k.output.trans h.output, Nat.le_trans h.size k.size, fun g hg hn => (k.block g (Nat.lt_of_lt_of_le hg h.size) (fun h' => (hN g h').elim hn (fun h'' => by omega))).trans (h.block g hg hn)⟩
theorem But.blk {g : Nat} {t : TypeId} {cs : Array Value} (h : But N w w') (hb : Blk w g t cs) (hn : ¬ N g) : Blk w' g t cs := (h.block g hb.lt hn).trans hb
theorem But.cell (h : But N w w') {p : Addr} (hp : p.block < w.heap.size) (hn : ¬ N p.block) : w'.cell? p = w.cell? p := World.cell?_of_block (h.block p.block hp hn)
end
/-- A row that is gathered is kept where blocks beside it are written. -/
theorem rowM_but {sent : Nat → List (List Value)} {X : Type} {f : X → List T} {s : Nat} {et : TypeId} {box : Option Nat} {N m : Nat} {M : Nat → Prop} {wr w' : World} {v : Value} {xs : List X} (h : RowM sent et s f box N m wr v xs) (hb : But M wr w') (hM : ∀ g, M g → g < N ∨ m ≤ g) (hm : m ≤ wr.heap.size) : RowM sent et s f box N m w' v xs := by
  obtain ⟨cs, ho, hl, ha⟩ := h
  have hk : ∀ g, N ≤ g → g < m → w'.heap[g]? = wr.heap[g]? := fun g h1 h2 => hb.block g (by omega) fun hg => by have := hM g hg; omega
  refine ⟨cs, ⟨ho.1, ho.2.elim .inl fun ⟨g, cap, cur, hv, h1, h2, h3⟩ => .inr ⟨g, cap, cur, hv, h1, (hk g h1 (hl g (by rw [hv]; rfl))).trans h2, h3⟩⟩, hl, ?_⟩
  exact AtL.keep (fun p hp => World.cell?_of_block (hk p.block hp.1 hp.2.1)) (fun g hg => ⟨hg.1, hg.2.1, hg.2.2.1.of (hk g hg.1 hg.2.1), hg.2.2.2⟩) ha
end Go.Proofs.YtfckomjbgopmaaaGreatDoor.Tree
end
