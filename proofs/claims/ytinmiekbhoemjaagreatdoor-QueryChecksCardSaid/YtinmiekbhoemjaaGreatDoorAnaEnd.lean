/- Contracts: the closures of the cutting functions: what may be in a run, what begins one, where a run ends. -/
import Derived.Test.YtinmiekbhoemjaaGreatDoorAnaLink
import Derived.Test.YtinmiekbhoemjaaGreatDoorAnaRunP
import Derived.RangeFuncBox
import Derived.Deep.RegionHeld3
import Derived.Deep.AppendLies
import Derived.StillTactics
import Derived.WalkSpells
set_option linter.unusedVariables false
namespace Go.Proofs.YtinmiekbhoemjaaGreatDoor.Ana
open Go.RowKit Go.Lib AnaP Words Tree Kit Owned FoldP FoldInts

theorem word_any (r : Int) (w : World) : Calls Tryz.prog 111 #[.int .i32 r] w (PureB (wordF r) w) := by
  have HR : Hid (wordF r = (letterF r || digitF r)) := Lib.hid rfl
  cases hl : letterF r with
  | true =>
    have HC : Hid (∀ W, Calls Tryz.prog 112 #[.int .i32 r] W (PureB true W)) := Lib.hid (fun W => by rw [← hl]; exact letter_any r W)
    have HE : Hid (wordF r = true) := Lib.hid (by rw [HR.out, hl]; rfl)
    clear hl
    go_enter Tryz.func111, Tryz.ntmps111
    go_wp2_with fail
    refine (HC.out _).mono ?_
    rintro e w' ⟨rfl, rfl⟩
    go_wp2_with fail
    go_ret
    rw [HE.out]
    exact ⟨rfl, rfl⟩
  | false =>
    have HC : Hid (∀ W, Calls Tryz.prog 112 #[.int .i32 r] W (PureB false W)) := Lib.hid (fun W => by rw [← hl]; exact letter_any r W)
    have HE : Hid (wordF r = digitF r) := Lib.hid (by rw [HR.out, hl]; rfl)
    clear hl
    go_enter Tryz.func111, Tryz.ntmps111
    go_wp2_with fail
    refine (HC.out _).mono ?_
    rintro e w' ⟨rfl, rfl⟩
    go_wp2_with fail
    refine (digit_any r _).mono ?_
    rintro e w' ⟨rfl, rfl⟩
    go_wp2_with fail
    go_ret
    rw [HE.out]
    exact ⟨rfl, rfl⟩
theorem may_any (r : Int) (b : Nat) (w : World) (hb : w.cell? ⟨b, 0, none⟩ = some (.func (.func 111) #[] #[])) : Calls Tryz.prog 114 #[.int .i32 r, .pointer (some ⟨b, 0, none⟩)] w (PureB (mayF r) w) := by
  have HR : Hid (mayF r = (wordF r || markF r)) := Lib.hid rfl
  cases hl : wordF r with
  | true =>
    have HC : Hid (∀ W, Calls Tryz.prog 111 #[.int .i32 r] W (PureB true W)) := Lib.hid (fun W => by rw [← hl]; exact word_any r W)
    have HE : Hid (mayF r = true) := Lib.hid (by rw [HR.out, hl]; rfl)
    clear hl
    go_enter Tryz.func114, Tryz.ntmps114
    go_wp2_with fail
    refine (HC.out _).mono ?_
    rintro e w' ⟨rfl, rfl⟩
    go_wp2_with fail
    go_ret
    rw [HE.out]
    exact ⟨rfl, rfl⟩
  | false =>
    have HC : Hid (∀ W, Calls Tryz.prog 111 #[.int .i32 r] W (PureB false W)) := Lib.hid (fun W => by rw [← hl]; exact word_any r W)
    have HE : Hid (mayF r = markF r) := Lib.hid (by rw [HR.out, hl]; rfl)
    clear hl
    go_enter Tryz.func114, Tryz.ntmps114
    go_wp2_with fail
    refine (HC.out _).mono ?_
    rintro e w' ⟨rfl, rfl⟩
    go_wp2_with fail
    refine (mark_any r _).mono ?_
    rintro e w' ⟨rfl, rfl⟩
    go_wp2_with fail
    go_ret
    rw [HE.out]
    exact ⟨rfl, rfl⟩
theorem solid_any (r : Int) (w : World) : Calls Tryz.prog 93 #[.int .i32 r] w (PureB (solidF r) w) := by
  have HR : Hid (solidF r = !blankF r) := Lib.hid rfl
  have HC := Lib.hid (blank_any r)
  generalize blankF r = b at *
  go_enter Tryz.func93, Tryz.ntmps93
  go_wp2_with fail
  refine (HC.out _).mono ?_
  rintro e w' ⟨rfl, rfl⟩
  go_wp2_with fail
  go_ret
  rw [HR.out]
  exact ⟨rfl, rfl⟩
theorem any2_any (r : Int) (w : World) : Calls Tryz.prog 96 #[.int .i32 r] w (PureB (anyF r) w) := by
  go_enter Tryz.func96, Tryz.ntmps96
  go_wp2_with fail
  go_ret
  exact ⟨rfl, rfl⟩
theorem any3_any (r : Int) (w : World) : Calls Tryz.prog 97 #[.int .i32 r] w (PureB (anyF r) w) := by
  go_enter Tryz.func97, Tryz.ntmps97
  go_wp2_with fail
  go_ret
  exact ⟨rfl, rfl⟩

/-- A token that has just been laid is appended, in a region that draws its order. -/
theorem step_append_tok {ops : Array Oper} {o : Oper} {a : Act} {K : Act → World → Prop} {Q : Exit → Act → World → Prop} {E : Prop} (hgd : o.guard = none) (sl x : Operand)
    (ho : o.op = .call { callee := .builtin .append, args := #[sl, x], argTypes := #[83, 83] }) (B : Nat) (ao : Option Addr) (cp : Nat) (ts : List TokD) (w : World)
    (hs : a.eval sl = .slice ao ts.length cp) (hown : w.ownsRow B 117 4 (.slice ao ts.length cp) ts.length (tokCells ts)) (t : TokD) (hx : a.eval x = .slice (some ⟨w.heap.size, 0, none⟩) 1 1)
    (hl : ts.length ≤ 1099511627776) (hB : B ≤ w.heap.size)
    (h : ∀ g cap w', w'.ownsRow B 117 4 (.slice (some ⟨g, 0, none⟩) (ts.length + 1) cap) (ts.length + 1) (tokCells (ts ++ [t])) → (w.alloc (.cells #[.string t.text, .int .i64 t.pos, .int .i64 t.frm, .int .i64 t.til] 117)).grownBy w' (Value.slice ao ts.length cp).ownBlock → ((Value.slice ao ts.length cp).ownBlock = some g ∨ g = w.heap.size + 1) → K (a.put o.dst (.slice (some ⟨g, 0, none⟩) (ts.length + 1) cap)) w') :
    if Region.wanted o (yielded ops a.tmps) = true then Oper.wp Tryz.prog o a (w.alloc (.cells #[.string t.text, .int .i64 t.pos, .int .i64 t.frm, .int .i64 t.til] 117)) K Q else E := by
  obtain ⟨i0, hi, hz0, hz1, hz2⟩ := info_parts infoTok
  refine step_append_lies _ hgd sl x _ ho B 117 i0 (.agg #[.string ⟨#[]⟩, .int .i64 0, .int .i64 0, .int .i64 0]) 4 40 Tryz.underlying83 hi hz0 hz1 hz2 rfl (by decide) _ ts.length (tokCells ts) hs (hown.alloc _) ⟨w.heap.size, 0, none⟩ 1 1
    [.string t.text, .int .i64 t.pos, .int .i64 t.frm, .int .i64 t.til] hx rfl ?_ ?_ (by decide) (by unfold maxLen; omega) (by omega) (by simp; omega) _ rfl ?_
  · intro j u hu; exact cells_new w [.string t.text, .int .i64 t.pos, .int .i64 t.frm, .int .i64 t.til] _ j u hu
  · intro u hu; exact tok_one (ts := [t]) hu
  · intro g cap w' h1 h2 h3 _
    exact h g cap w' (by rw [tokCells_append]; exact h1) h2 (by simpa using h3)

/-- What the closure 'end' leaves: tokens in their box, no run begun; whatever else lay lies. -/
structure EndW (B bf bo : Nat) (ts : List TokD) (w w' : World) : Prop where
  out : ∃ v, Boxed w' bo 83 v ∧ w'.ownsRow B 117 4 v ts.length (tokCells ts)
  frm : Boxed w' bf 3 (.int .i64 (-1))
  others : KeepsOthers w w'
  below : Below B w w'
  cells : ∀ g t cs, Blk w g t cs → t ≠ 117 → g ≠ bf → g ≠ bo → Blk w' g t cs
def EndRet (B bf bo : Nat) (ts : List TokD) (w : World) (e : Ending) (w' : World) : Prop := e = .returned (.tuple #[]) ∧ EndW B bf bo ts w w'

/-- Behind a draw. -/
structure EndStart (B : Nat) (w w' : World) : Prop where
  below : Below B w w'
  others : KeepsOthers w w'
  cells : ∀ g t cs, Blk w g t cs → Blk w' g t cs
set_option maxRecDepth 100000 in
set_option maxHeartbeats 1000000 in
theorem end_none (B bf bo bt : Nat) (at_ : Int) (ts : List TokD) (v : Value) (w : World) (hB : B ≤ bf) (hF : Boxed w bf 3 (.int .i64 (-1))) (hO : Boxed w bo 83 v) (ho : w.ownsRow B 117 4 v ts.length (tokCells ts)) :
    Calls Tryz.prog 115 #[.int .i64 at_, .pointer (some ⟨bf, 0, none⟩), .pointer (some ⟨bo, 0, none⟩), .pointer (some ⟨bt, 0, none⟩)] w (EndRet B bf bo ts w) := by
  have c1 := hF.cell
  have c2 := hF.frozen
  have hne : bo ≠ bf := fun e => by subst e; exact Blk.ne_ (t := 83) (t' := 3) hO hF (by decide) rfl
  have HP : Hid (EndW B bf bo ts w (w.setCell ⟨bf, 0, none⟩ (.int .i64 (-1)))) := Lib.hid
    ⟨⟨v, hO.other hne _, ho.kept (row := some bf) (grownBy_setCell' w bf _) (.inr (hF.not_row (by decide) ho).symm)⟩, hF.set _, KeepsOthers.setCell _ _ _, (Below.refl _ _).setCell (p := ⟨bf, 0, none⟩) hB _, fun g t cs h _ h1 _ => h.far (p := ⟨bf, 0, none⟩) h1 _⟩
  clear hF hO ho
  go_enter Tryz.func115, Tryz.ntmps115
  go_wp2_with fail
  go_end0
  exact ⟨rfl, HP.out⟩

set_option maxRecDepth 100000 in
set_option maxHeartbeats 1000000 in
theorem end_some (B bf bo bt a j : Nat) (s : ByteArray) (ts : List TokD) (v : Value) (w : World) (hB : B ≤ bf) (hBo : B ≤ bo) (haj : a ≤ j) (hj : j ≤ s.size) (hs : s.size ≤ 1099511627776) (hl : ts.length ≤ 1099511627776)
    (hF : Boxed w bf 3 (.int .i64 (a : Int))) (hO : Boxed w bo 83 v) (hT : Boxed w bt 9 (.string s)) (ho : w.ownsRow B 117 4 v ts.length (tokCells ts)) :
    Calls Tryz.prog 115 #[.int .i64 (j : Int), .pointer (some ⟨bf, 0, none⟩), .pointer (some ⟨bo, 0, none⟩), .pointer (some ⟨bt, 0, none⟩)] w (EndRet B bf bo (ts ++ [⟨s.extract a j, ts.length, a, j⟩]) w) := by
  obtain ⟨i0, hi, hz0, hz1, hz2⟩ := info_parts infoTok
  have c1 := hF.cell
  have c2 := hF.frozen
  have c3 := hO.cell
  have c4 := hO.frozen
  have c5 := hT.cell
  have hBw : B ≤ w.heap.size := by have := hF.lt; omega
  have hx1 : (0 : Int) ≤ (a : Int) := by omega
  have hx2 : (a : Int) ≤ (j : Int) := by omega
  have hx3 : (j : Int) ≤ (s.size : Int) := by omega
  obtain ⟨ao, cp, rfl⟩ : ∃ ao cp, v = .slice ao ts.length cp := by
    obtain ⟨ao, c, e, _⟩ := reads_slice ho
    exact ⟨ao, c, e⟩
  have ag : (Value.slice ao ts.length cp).ownBlock ≠ some bf := (hF.not_row (by decide) ho).symm
  have ak : (Value.slice ao ts.length cp).ownBlock ≠ some bo := (hO.not_row (by decide) ho).symm
  have hne : bo ≠ bf := fun e => by subst e; exact Blk.ne_ (t := 83) (t' := 3) hO hF (by decide) rfl
  have h63 : ts.length + 1 ≤ maxLen := by unfold maxLen; omega
  have hby : (ts.length + 1) * 40 ≤ 140737488355328 := by omega
  have hF2 := hF; have hO2 := hO
  go_enter Tryz.func115, Tryz.ntmps115
  go_wp2_with fail
  have hoW : w.drew.ownsRow B 117 4 (.slice ao ts.length cp) ts.length (tokCells ts) := ho
  have hFW : Boxed w.drew bf 3 (.int .i64 (a : Int)) := hF2
  have hOW : Boxed w.drew bo 83 (.slice ao ts.length cp) := hO2
  have hTW : Boxed w.drew bt 9 (.string s) := hT
  have hBw : B ≤ w.drew.heap.size := hBw
  have HB0 : Hid (EndStart B w w.drew) := Lib.hid ⟨(Below.refl _ _).drew, ⟨Nat.le_refl _, fun _ _ h _ => h⟩, fun _ _ _ h => h⟩
  clear hF hO c1 c2 c3 c4 c5 ho hF2 hO2 hT
  have hs0 : w.drew.cell? ⟨bf, 0, none⟩ = some (.int .i64 (a : Int)) ∧ w.drew.cell? ⟨bt, 0, none⟩ = some (.string s) := ⟨hFW.cell, hTW.cell⟩
  have hco : w.drew.cell? ⟨bo, 0, none⟩ = some (.slice ao ts.length cp) := hOW.cell
  refine wp_region_held_drew (S := fun W => W.cell? ⟨bf, 0, none⟩ = some (.int .i64 (a : Int)) ∧ W.cell? ⟨bt, 0, none⟩ = some (.string s)) (by kernel_rfl) hs0 (fun hS0 => ?_)
  generalize w.drew = W at *
  have ag' : (Value.slice ao ts.length cp).ownBlock ≠ some bt := (hTW.not_row (by decide) hoW).symm
  have hnt : bo ≠ bt := fun e => by subst e; exact Blk.ne_ (t := 83) (t' := 9) hOW hTW (by decide) rfl
  have SA : (W.alloc (.cells #[.string (s.extract a j), .int .i64 (ts.length : Int), .int .i64 (a : Int), .int .i64 (j : Int)] 117)).cell? ⟨bf, 0, none⟩ = some (.int .i64 (a : Int)) ∧ (W.alloc (.cells #[.string (s.extract a j), .int .i64 (ts.length : Int), .int .i64 (a : Int), .int .i64 (j : Int)] 117)).cell? ⟨bt, 0, none⟩ = some (.string s) := ⟨(hFW.alloc _).cell, (hTW.alloc _).cell⟩
  have SB : (W.alloc (.cells #[.string (s.extract a j), .int .i64 (ts.length : Int), .int .i64 (a : Int), .int .i64 (j : Int)] 117)).cell? ⟨bo, 0, none⟩ = some (.slice ao ts.length cp) := (hOW.alloc _).cell
  have SG : ∀ w3, (W.alloc (.cells #[.string (s.extract a j), .int .i64 (ts.length : Int), .int .i64 (a : Int), .int .i64 (j : Int)] 117)).grownBy w3 (Value.slice ao ts.length cp).ownBlock → w3.cell? ⟨bf, 0, none⟩ = some (.int .i64 (a : Int)) ∧ w3.cell? ⟨bt, 0, none⟩ = some (.string s) := fun w3 h => ⟨((hFW.alloc _).kept h (Ne.symm ag)).cell, ((hTW.alloc _).kept h (Ne.symm ag')).cell⟩
  have SC : ∀ w3, (W.alloc (.cells #[.string (s.extract a j), .int .i64 (ts.length : Int), .int .i64 (a : Int), .int .i64 (j : Int)] 117)).grownBy w3 (Value.slice ao ts.length cp).ownBlock → w3.cell? ⟨bo, 0, none⟩ = some (.slice ao ts.length cp) := fun w3 h => ((hOW.alloc _).kept h (Ne.symm ak)).cell
  have SF : ∀ w3, (W.alloc (.cells #[.string (s.extract a j), .int .i64 (ts.length : Int), .int .i64 (a : Int), .int .i64 (j : Int)] 117)).grownBy w3 (Value.slice ao ts.length cp).ownBlock → w3.frozen? ⟨bo, 0, none⟩ = false := fun w3 h => ((hOW.alloc _).kept h (Ne.symm ak)).frozen
  have SS : ∀ (w3 : World) (u : Value), (w3.cell? ⟨bf, 0, none⟩ = some (.int .i64 (a : Int)) ∧ w3.cell? ⟨bt, 0, none⟩ = some (.string s)) → ((w3.setCell ⟨bo, 0, none⟩ u).cell? ⟨bf, 0, none⟩ = some (.int .i64 (a : Int)) ∧ (w3.setCell ⟨bo, 0, none⟩ u).cell? ⟨bt, 0, none⟩ = some (.string s)) := fun w3 u h =>
    ⟨(World.cell?_setCell_far w3 ⟨bo, 0, none⟩ ⟨bf, 0, none⟩ u hne).trans h.1, (World.cell?_setCell_far w3 ⟨bo, 0, none⟩ ⟨bt, 0, none⟩ u hnt).trans h.2⟩
  have SN : ∀ w3, (W.alloc (.cells #[.string (s.extract a j), .int .i64 (ts.length : Int), .int .i64 (a : Int), .int .i64 (j : Int)] 117)).grownBy w3 (Value.slice ao ts.length cp).ownBlock → w3.frozen? ⟨bf, 0, none⟩ = false := fun w3 h => ((hFW.alloc _).kept h (Ne.symm ag)).frozen
  have FIN : ∀ gg cap3 w3, w3.ownsRow B 117 4 (.slice (some ⟨gg, 0, none⟩) (ts.length + 1) cap3) (ts.length + 1) (tokCells (ts ++ [(⟨s.extract a j, ts.length, a, j⟩ : TokD)])) → (W.alloc (.cells #[.string (s.extract a j), .int .i64 (ts.length : Int), .int .i64 (a : Int), .int .i64 (j : Int)] 117)).grownBy w3 (Value.slice ao ts.length cp).ownBlock →
      EndW B bf bo (ts ++ [(⟨s.extract a j, ts.length, a, j⟩ : TokD)]) w ((w3.setCell ⟨bo, 0, none⟩ (.slice (some ⟨gg, 0, none⟩) (ts.length + 1) cap3)).setCell ⟨bf, 0, none⟩ (.int .i64 (-1))) := fun gg cap3 w3 h1 h2 => by
    obtain ⟨_, q2, q3, q4, q5⟩ := hOW.appended (by decide) hoW hBw hBo h1 h2
    have q6 : Boxed (w3.setCell ⟨bo, 0, none⟩ (.slice (some ⟨gg, 0, none⟩) (ts.length + 1) cap3)) bf 3 (.int .i64 (a : Int)) := ((hFW.alloc _).kept h2 (Ne.symm ag)).other (Ne.symm hne) _
    refine ⟨⟨_, q2.other hne _, ?_⟩, q6.set _, (HB0.out.others.trans q4).trans (KeepsOthers.setCell _ _ _), (HB0.out.below.trans q5).setCell (p := ⟨bf, 0, none⟩) hB _, fun g t cs h h3 h4 h5 => ?_⟩
    · rw [List.length_append, List.length_singleton]
      exact q3.kept (row := some bf) (grownBy_setCell' _ bf _) (.inr (q6.not_row (by decide) q3).symm)
    · have k1 := HB0.out.cells g t cs h
      have k2 : Blk w3 g t cs := (k1.alloc _).grown h2 (Ne.symm (own_blk_ne hoW k1 (Ne.symm h3)))
      exact (k2.far (p := ⟨bo, 0, none⟩) h5 _).far (p := ⟨bf, 0, none⟩) h4 _
  clear hFW hOW hTW
  refine' wpAnyH_take (i := 1) (v := _) (by simp only [List.getElem?_toArray, List.getElem?_cons_succ, List.getElem?_cons_zero]; rfl) (by kernel_rfl) (by kernel_rfl) (by kernel_rfl) (by exact fun _ _ _ h => h) (Or.inl ⟨by rfl, ?hx1⟩) hS0 ?rx1
  case hx1 => intro V hSw; obtain ⟨f0, f2⟩ := hSw; go_simp; try with_reducible rfl
  try simp only [Act.put, List.setIfInBounds_toArray, List.set_cons_zero, List.set_cons_succ]
  refine' wpAnyH_take (i := 2) (v := _) (by simp only [List.getElem?_toArray, List.getElem?_cons_succ, List.getElem?_cons_zero]; rfl) (by kernel_rfl) (by kernel_rfl) (by kernel_rfl) (by exact fun _ _ _ h => h) (Or.inl ⟨by rfl, ?hx2⟩) hS0 ?rx2
  case hx2 => intro V hSw; obtain ⟨f0, f2⟩ := hSw; go_simp; try with_reducible rfl
  try simp only [Act.put, List.setIfInBounds_toArray, List.set_cons_zero, List.set_cons_succ]
  refine' wpAnyH_take (i := 3) (v := _) (by simp only [List.getElem?_toArray, List.getElem?_cons_succ, List.getElem?_cons_zero]; rfl) (by kernel_rfl) (by kernel_rfl) (by kernel_rfl) (by exact fun _ _ _ h => h) (Or.inl ⟨by rfl, ?hx3⟩) hS0 ?rx3
  case hx3 => intro V hSw; clear hSw; go_simp; try with_reducible rfl
  try simp only [Act.put, List.setIfInBounds_toArray, List.set_cons_zero, List.set_cons_succ]
  refine' wpAnyH_take (i := 4) (v := _) (by simp only [List.getElem?_toArray, List.getElem?_cons_succ, List.getElem?_cons_zero]; rfl) (by kernel_rfl) (by kernel_rfl) (by kernel_rfl) (by exact fun _ _ _ h => h) (Or.inl ⟨by rfl, ?hx4⟩) hS0 ?rx4
  case hx4 => intro V hSw; clear hSw; go_simp; try with_reducible rfl
  try simp only [Act.put, List.setIfInBounds_toArray, List.set_cons_zero, List.set_cons_succ]
  refine' wpAnyH_take (i := 7) (v := _) (by simp only [List.getElem?_toArray, List.getElem?_cons_succ, List.getElem?_cons_zero]; rfl) (by kernel_rfl) (by kernel_rfl) (by kernel_rfl) (by exact fun _ _ _ h => h) (Or.inl ⟨by rfl, ?hx5⟩) hS0 ?rx5
  case hx5 => intro V hSw; obtain ⟨f0, f2⟩ := hSw; go_simp; try with_reducible rfl
  try simp only [Act.put, List.setIfInBounds_toArray, List.set_cons_zero, List.set_cons_succ]
  refine' wpAnyH_take (i := 8) (v := _) (by simp only [List.getElem?_toArray, List.getElem?_cons_succ, List.getElem?_cons_zero]; rfl) (by kernel_rfl) (by kernel_rfl) (by kernel_rfl) (by exact fun _ _ _ h => h) (Or.inl ⟨by rfl, ?hx6⟩) hS0 ?rx6
  case hx6 => intro V hSw; clear hSw; go_simp; try with_reducible rfl
  try simp only [Act.put, List.setIfInBounds_toArray, List.set_cons_zero, List.set_cons_succ]
  refine wpAnyH_ready (rs := [0, 5]) (by kernel_rfl) (by simp) ?_
  refine' AllReadyH.cons (by simp only [List.getElem?_toArray, List.getElem?_cons_zero]; rfl) (fun K hK => ?_) ?_
  · go_simp
    refine hK.out _ _ hS0 (fun hS1 => ?_)
    try simp only [Act.put, List.setIfInBounds_toArray, List.set_cons_zero, List.set_cons_succ]
    refine wpAnyH_ready (rs := [5]) (by kernel_rfl) (by simp) ?_
    refine' AllReadyH.cons (by simp only [List.getElem?_toArray, List.getElem?_cons_succ, List.getElem?_cons_zero]; rfl) (fun K hK => ?_) AllReadyH.nil
    go_simp
    refine hK.out _ _ hS0 (fun hS1 => ?_)
    try simp only [Act.put, List.setIfInBounds_toArray, List.set_cons_zero, List.set_cons_succ]
    refine' wpAnyH_take (i := 6) (v := _) (by simp only [List.getElem?_toArray, List.getElem?_cons_succ, List.getElem?_cons_zero]; rfl) (by kernel_rfl) (by kernel_rfl) (by kernel_rfl) (by exact fun _ _ _ h => h) (Or.inl ⟨by rfl, ?hx7⟩) hS0 ?rx7
    case hx7 => intro V hSw; clear hSw; go_simp; try with_reducible rfl
    try simp only [Act.put, List.setIfInBounds_toArray, List.set_cons_zero, List.set_cons_succ]
    refine' wpAnyH_take (i := 9) (v := _) (by simp only [List.getElem?_toArray, List.getElem?_cons_succ, List.getElem?_cons_zero]; rfl) (by kernel_rfl) (by kernel_rfl) (by kernel_rfl) (by exact fun _ _ _ h => h) (Or.inl ⟨by rfl, ?hx8⟩) hS0 ?rx8
    case hx8 => intro V hSw; clear hSw; go_simp; try with_reducible rfl
    try simp only [Act.put, List.setIfInBounds_toArray, List.set_cons_zero, List.set_cons_succ]
    refine wpAnyH_ready (rs := [10]) (by kernel_rfl) (by simp) ?_
    refine' AllReadyH.cons (by simp only [List.getElem?_toArray, List.getElem?_cons_succ, List.getElem?_cons_zero]; rfl) (fun K hK => ?_) AllReadyH.nil
    go_simp
    refine hK.out _ _ SA (fun hS1 => ?_)
    try simp only [Act.put, List.setIfInBounds_toArray, List.set_cons_zero, List.set_cons_succ]
    refine wpAnyH_ready (rs := [11]) (by kernel_rfl) (by simp) ?_
    refine' AllReadyH.cons (by simp only [List.getElem?_toArray, List.getElem?_cons_succ, List.getElem?_cons_zero]; rfl) (fun K hK => ?_) AllReadyH.nil
    refine step_append_tok (by rfl) _ _ (by rfl) B ao cp ts W (by rfl) hoW ⟨s.extract a j, ts.length, a, j⟩ (by rfl) hl hBw ?_
    intro gg cap3 w3 hown3 hgrow3 _
    have hS3 := SG _ hgrow3
    have h3c := SC _ hgrow3
    have h3f := SF _ hgrow3
    have h3g := SN _ hgrow3
    refine hK.out _ _ hS3 (fun hS2 => ?_)
    try simp only [Act.put, List.setIfInBounds_toArray, List.set_cons_zero, List.set_cons_succ]
    refine wpAnyH_ready (rs := [12]) (by kernel_rfl) (by simp) ?_
    refine' AllReadyH.cons (by simp only [List.getElem?_toArray, List.getElem?_cons_succ, List.getElem?_cons_zero]; rfl) (fun K hK => ?_) AllReadyH.nil
    go_simp
    refine hK.out _ _ (SS _ _ hS2) (fun hS4 => ?_)
    try simp only [Act.put, List.setIfInBounds_toArray, List.set_cons_zero, List.set_cons_succ]
    refine wpAnyH_done (by kernel_rfl) ?_ _
    have HFIN := Lib.hid (FIN _ _ _ hown3 hgrow3)
    clear hown3 hgrow3 h3c h3f hS3 hS2
    go_wp2_with fail
    go_end0
    exact ⟨rfl, HFIN.out⟩
  refine' AllReadyH.cons (by simp only [List.getElem?_toArray, List.getElem?_cons_succ, List.getElem?_cons_zero]; rfl) (fun K hK => ?_) AllReadyH.nil
  go_simp
  refine hK.out _ _ hS0 (fun hS1 => ?_)
  try simp only [Act.put, List.setIfInBounds_toArray, List.set_cons_zero, List.set_cons_succ]
  refine' wpAnyH_take (i := 6) (v := _) (by simp only [List.getElem?_toArray, List.getElem?_cons_succ, List.getElem?_cons_zero]; rfl) (by kernel_rfl) (by kernel_rfl) (by kernel_rfl) (by exact fun _ _ _ h => h) (Or.inl ⟨by rfl, ?hx9⟩) hS0 ?rx9
  case hx9 => intro V hSw; clear hSw; go_simp; try with_reducible rfl
  try simp only [Act.put, List.setIfInBounds_toArray, List.set_cons_zero, List.set_cons_succ]
  refine' wpAnyH_take (i := 9) (v := _) (by simp only [List.getElem?_toArray, List.getElem?_cons_succ, List.getElem?_cons_zero]; rfl) (by kernel_rfl) (by kernel_rfl) (by kernel_rfl) (by exact fun _ _ _ h => h) (Or.inl ⟨by rfl, ?hx10⟩) hS0 ?rx10
  case hx10 => intro V hSw; clear hSw; go_simp; try with_reducible rfl
  try simp only [Act.put, List.setIfInBounds_toArray, List.set_cons_zero, List.set_cons_succ]
  refine wpAnyH_ready (rs := [0, 10]) (by kernel_rfl) (by simp) ?_
  refine' AllReadyH.cons (by simp only [List.getElem?_toArray, List.getElem?_cons_zero]; rfl) (fun K hK => ?_) ?_
  · go_simp
    refine hK.out _ _ hS0 (fun hS1 => ?_)
    try simp only [Act.put, List.setIfInBounds_toArray, List.set_cons_zero, List.set_cons_succ]
    refine wpAnyH_ready (rs := [10]) (by kernel_rfl) (by simp) ?_
    refine' AllReadyH.cons (by simp only [List.getElem?_toArray, List.getElem?_cons_succ, List.getElem?_cons_zero]; rfl) (fun K hK => ?_) AllReadyH.nil
    go_simp
    refine hK.out _ _ SA (fun hS1 => ?_)
    try simp only [Act.put, List.setIfInBounds_toArray, List.set_cons_zero, List.set_cons_succ]
    refine wpAnyH_ready (rs := [11]) (by kernel_rfl) (by simp) ?_
    refine' AllReadyH.cons (by simp only [List.getElem?_toArray, List.getElem?_cons_succ, List.getElem?_cons_zero]; rfl) (fun K hK => ?_) AllReadyH.nil
    refine step_append_tok (by rfl) _ _ (by rfl) B ao cp ts W (by rfl) hoW ⟨s.extract a j, ts.length, a, j⟩ (by rfl) hl hBw ?_
    intro gg cap3 w3 hown3 hgrow3 _
    have hS3 := SG _ hgrow3
    have h3c := SC _ hgrow3
    have h3f := SF _ hgrow3
    have h3g := SN _ hgrow3
    refine hK.out _ _ hS3 (fun hS2 => ?_)
    try simp only [Act.put, List.setIfInBounds_toArray, List.set_cons_zero, List.set_cons_succ]
    refine wpAnyH_ready (rs := [12]) (by kernel_rfl) (by simp) ?_
    refine' AllReadyH.cons (by simp only [List.getElem?_toArray, List.getElem?_cons_succ, List.getElem?_cons_zero]; rfl) (fun K hK => ?_) AllReadyH.nil
    go_simp
    refine hK.out _ _ (SS _ _ hS2) (fun hS4 => ?_)
    try simp only [Act.put, List.setIfInBounds_toArray, List.set_cons_zero, List.set_cons_succ]
    refine wpAnyH_done (by kernel_rfl) ?_ _
    have HFIN := Lib.hid (FIN _ _ _ hown3 hgrow3)
    clear hown3 hgrow3 h3c h3f hS3 hS2
    go_wp2_with fail
    go_end0
    exact ⟨rfl, HFIN.out⟩
  refine' AllReadyH.cons (by simp only [List.getElem?_toArray, List.getElem?_cons_succ, List.getElem?_cons_zero]; rfl) (fun K hK => ?_) AllReadyH.nil
  go_simp
  refine hK.out _ _ SA (fun hS1 => ?_)
  try simp only [Act.put, List.setIfInBounds_toArray, List.set_cons_zero, List.set_cons_succ]
  refine wpAnyH_ready (rs := [0]) (by kernel_rfl) (by simp) ?_
  refine' AllReadyH.cons (by simp only [List.getElem?_toArray, List.getElem?_cons_zero]; rfl) (fun K hK => ?_) AllReadyH.nil
  have hca := SB
  go_simp
  refine hK.out _ _ hS1 (fun hS5 => ?_)
  try simp only [Act.put, List.setIfInBounds_toArray, List.set_cons_zero, List.set_cons_succ]
  refine wpAnyH_ready (rs := [11]) (by kernel_rfl) (by simp) ?_
  refine' AllReadyH.cons (by simp only [List.getElem?_toArray, List.getElem?_cons_succ, List.getElem?_cons_zero]; rfl) (fun K hK => ?_) AllReadyH.nil
  refine step_append_tok (by rfl) _ _ (by rfl) B ao cp ts W (by rfl) hoW ⟨s.extract a j, ts.length, a, j⟩ (by rfl) hl hBw ?_
  intro gg cap3 w3 hown3 hgrow3 _
  have hS3 := SG _ hgrow3
  have h3c := SC _ hgrow3
  have h3f := SF _ hgrow3
  have h3g := SN _ hgrow3
  refine hK.out _ _ hS3 (fun hS2 => ?_)
  try simp only [Act.put, List.setIfInBounds_toArray, List.set_cons_zero, List.set_cons_succ]
  refine wpAnyH_ready (rs := [12]) (by kernel_rfl) (by simp) ?_
  refine' AllReadyH.cons (by simp only [List.getElem?_toArray, List.getElem?_cons_succ, List.getElem?_cons_zero]; rfl) (fun K hK => ?_) AllReadyH.nil
  go_simp
  refine hK.out _ _ (SS _ _ hS2) (fun hS4 => ?_)
  try simp only [Act.put, List.setIfInBounds_toArray, List.set_cons_zero, List.set_cons_succ]
  refine wpAnyH_done (by kernel_rfl) ?_ _
  have HFIN := Lib.hid (FIN _ _ _ hown3 hgrow3)
  clear hown3 hgrow3 h3c h3f hS3 hS2
  go_wp2_with fail
  go_end0
  exact ⟨rfl, HFIN.out⟩
end Go.Proofs.YtinmiekbhoemjaaGreatDoor.Ana
