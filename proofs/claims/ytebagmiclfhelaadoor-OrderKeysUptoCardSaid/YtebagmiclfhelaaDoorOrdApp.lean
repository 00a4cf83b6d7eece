/- Keys appended to a row of the call's own, or to one whose capacity is its length. -/
import Derived.Test.YtebagmiclfhelaaDoorOrdRef4
import Derived.ArgAppend
set_option linter.unusedVariables false
namespace Go.Proofs.YtebagmiclfhelaaDoor.OrdLib
open Go.RowKit Go.Lib OrdP Kit OrdRef Words Owned

def keyN (z : Int) : KeyD := ⟨z, 0, ⟨#[]⟩⟩
/-- A row that is the call's own, or one that is full. -/
def App (w : World) (B : Nat) (v : Value) (n : Nat) (xs : List Value) : Prop :=
  w.ownsRow B 35 3 v n xs ∨ (∃ ao, v = .slice ao n n ∧ ((ao = none → n = 0) ∧ ∀ ad, ao = some ad → ad.block < w.heap.size) ∧ Reads w w.heap.size 3 ao n xs)
theorem App.kept {w w' : World} {B n : Nat} {v : Value} {xs : List Value} {row : Option Nat} (h : App w B v n xs) (hg : w.grownBy w' row) (hne : ∀ x, v.ownBlock = some x → row ≠ some x) : App w' B v n xs := by
  rcases h with h | ⟨ao, rfl, h0, hr⟩
  · left
    refine h.kept hg ?_
    cases hv : v.ownBlock with
    | none => exact .inl rfl
    | some x => exact .inr (fun e => hne x hv e.symm)
  · right
    refine ⟨ao, rfl, ⟨h0.1, fun ad e => Nat.lt_of_lt_of_le (h0.2 ad e) hg.size⟩, hr.1, fun hn => ?_⟩
    obtain ⟨ad, ha, hb, hc⟩ := hr.2 hn
    subst ha
    refine ⟨ad, rfl, Nat.lt_of_lt_of_le hb hg.size, fun j u hu => ?_⟩
    have hbl := hg.block ad.block hb (fun e => hne ad.block rfl e.symm)
    have e : w'.cell? (ad.add j) = w.cell? (ad.add j) := World.cell?_of_block (w := w) (by rw [block_of_add]; exact hbl)
    rw [e]; exact hc j u hu
theorem App.alloc {w : World} {B n : Nat} {v : Value} {xs : List Value} (h : App w B v n xs) (o : Obj) : App (w.alloc o) B v n xs := h.kept (World.grownBy_alloc w o none) (fun _ _ => by simp)
theorem App.lt {w : World} {B n : Nat} {v : Value} {xs : List Value} (h : App w B v n xs) : ∀ x, v.ownBlock = some x → x < w.heap.size := by
  intro x hx
  rcases h with h | ⟨ao, rfl, h0, hr⟩
  · exact (h.lt x hx).2
  · cases ao with
    | none => cases hx
    | some a => have e : a.block = x := Option.some.inj hx
                rw [← e]; exact h0.2 a rfl
theorem App.form {w : World} {B n : Nat} {v : Value} {xs : List Value} (h : App w B v n xs) : ∃ ao cap, v = .slice ao n cap ∧ n ≤ cap ∧ cap ≤ maxLen + n ∧ Reads w w.heap.size 3 ao n xs := by
  rcases h with h | ⟨ao, rfl, h0, hr⟩
  · rcases h.2 with ⟨rfl, h0⟩ | ⟨g, cap, cur, rfl, hb, hg, hn, hm, hs, ht⟩
    · subst h0
      exact ⟨none, 0, rfl, Nat.le_refl _, Nat.zero_le _, h.1, fun hh => absurd hh (by omega)⟩
    · exact ⟨_, cap, rfl, hn, by omega, Reads.of_own h⟩
  · exact ⟨ao, n, rfl, Nat.le_refl _, by omega, hr⟩
theorem reads_kept {w w' : World} {n m : Nat} {ao : Option Addr} {xs : List Value} {row : Option Nat} (h : Reads w w.heap.size m ao n xs) (hg : w.grownBy w' row) (hne : 0 < n → ∀ ad, ao = some ad → row ≠ some ad.block) : Reads w' w'.heap.size m ao n xs := by
  refine ⟨h.1, fun hn => ?_⟩
  obtain ⟨ad, ha, hb, hc⟩ := h.2 hn
  refine ⟨ad, ha, Nat.lt_of_lt_of_le hb hg.size, fun j u hu => ?_⟩
  have hbl := hg.block ad.block hb (fun e => hne hn ad ha e.symm)
  have e : w'.cell? (ad.add j) = w.cell? (ad.add j) := World.cell?_of_block (w := w) (by rw [block_of_add]; exact hbl)
  rw [e]; exact hc j u hu
theorem rep_snoc (z : Int) (k : Nat) : keyCells (List.replicate k (keyN z)) ++ (keyN z).cells = keyCells (List.replicate (k + 1) (keyN z)) := by
  rw [List.replicate_succ', keyCells_append]; rfl
theorem rep_len (z : Int) (k : Nat) : (keyCells (List.replicate k (keyN z))).length = k * 3 := by rw [keyCells_length, List.length_replicate]
/-- The kind of an appended key. -/
theorem reads_rep {w : World} {B n k j : Nat} {ao : Option Addr} {xl : List Value} {z : Int} (h : Reads w B 3 ao (n + k) (xl ++ keyCells (List.replicate k (keyN z)))) (hx : xl.length = n * 3) (hj : j < k) :
    ∃ ad, ao = some ad ∧ ad.block < B ∧ w.cell? (ad.add ((n + j) * 3)) = some (.int .i64 z) := by
  obtain ⟨ad, ha, hb, hc⟩ := h.2 (by omega)
  refine ⟨ad, ha, hb, hc _ _ ?_⟩
  rw [List.getElem?_append_right (by omega), hx, show (n + j) * 3 - n * 3 = j * 3 + 0 by omega]
  have := keyCells_get (List.replicate k (keyN z)) j (keyN z) (by rw [List.getElem?_replicate, if_pos hj]) 0 (by omega)
  rw [this]; rfl
theorem reads_pre {w : World} {B n k : Nat} {ao : Option Addr} {ks : List KeyD} {ys : List Value} (h : Reads w B 3 ao (n + k) (keyCells ks ++ ys)) (hn : n = ks.length) : Reads w B 3 ao n (keyCells ks) := by
  subst hn
  refine ⟨keyCells_length ks, fun hh => ?_⟩
  obtain ⟨ad, ha, hb, hc⟩ := h.2 (by omega)
  exact ⟨ad, ha, hb, fun j u hu => hc j u (by rw [List.getElem?_append_left (List.getElem?_eq_some_iff.1 hu).1]; exact hu)⟩
theorem clip_lt0 {w : World} {B n : Nat} {lo : Option Addr} {ks : List KeyD} (h : ClipRow w B (.slice lo n n) ks) : ∀ ad, lo = some ad → ad.block < w.heap.size := by
  rintro ad rfl
  rcases h with ⟨_, hv⟩ | ⟨g, cur, hv, hB, hg, _⟩
  · injection hv with h1 _ _; cases h1
  · injection hv with h1 _ _
    obtain rfl := Option.some.inj h1
    exact hg.lt
theorem clip_app {w : World} {B C : Nat} {lo : Option Addr} {ks : List KeyD} (h : ClipRow w B (.slice lo ks.length ks.length) ks) (hr : Reads w w.heap.size 3 lo ks.length (keyCells ks)) : App w C (.slice lo ks.length ks.length) ks.length (keyCells ks) := by
  refine .inr ⟨lo, rfl, ⟨fun e => ?_, fun ad e => (clip_lt0 h ad e)⟩, hr⟩
  subst e
  rcases h with ⟨rfl, _⟩ | ⟨g, cur, hv, _⟩
  · rfl
  · injection hv with h1 _ _; cases h1
theorem grown_any {w w' : World} (h : w.grownBy w' none) (row : Option Nat) : w.grownBy w' row := ⟨h.os, h.tape, h.output, h.size, fun k hk _ => h.block k hk (by simp)⟩

/-- What two rows that grow side by side, and a third one, owe each other. -/
def Apart3 (w : World) (n : Nat) (lv mv : Value) (no : Option Addr) : Prop :=
  (∀ x, lv.ownBlock = some x → mv.ownBlock ≠ some x) ∧ (0 < n → ∀ y, no = some y → lv.ownBlock ≠ some y.block ∧ mv.ownBlock ≠ some y.block) ∧ (∀ x, lv.ownBlock = some x → w.heap.size ≤ x) ∧ (∀ x, mv.ownBlock = some x → w.heap.size ≤ x)
def Far (w : World) (lo mo no : Option Addr) : Prop :=
  (∀ x y : Addr, lo = some x → mo = some y → x.block < y.block) ∧ (∀ x y : Addr, lo = some x → no = some y → x.block < y.block) ∧ (∀ x y : Addr, mo = some x → no = some y → x.block < y.block) ∧ (∀ x : Addr, lo = some x → w.heap.size ≤ x.block) ∧ (∀ x : Addr, mo = some x → w.heap.size ≤ x.block)
theorem own_some {lo : Option Addr} {n c x : Nat} (h : (Value.slice lo n c).ownBlock = some x) : ∃ a, lo = some a ∧ a.block = x := by
  cases lo with
  | none => cases h
  | some a => exact ⟨a, rfl, Option.some.inj h⟩
theorem Far.apart {w : World} {lo mo no : Option Addr} (h : Far w lo mo no) (N n c n' c' : Nat) : Apart3 w N (.slice lo n c) (.slice mo n' c') no := by
  obtain ⟨h1, h2, h3, h4, h5⟩ := h
  refine ⟨fun x hx hm => ?_, fun _ y hy => ⟨fun hx => ?_, fun hx => ?_⟩, fun x hx => ?_, fun x hx => ?_⟩
  · obtain ⟨a, ha, e1⟩ := own_some hx
    obtain ⟨b, hb, e2⟩ := own_some hm
    have := h1 a b ha hb; omega
  · obtain ⟨a, ha, e1⟩ := own_some hx
    have := h2 a y ha hy; omega
  · obtain ⟨a, ha, e1⟩ := own_some hx
    have := h3 a y ha hy; omega
  · obtain ⟨a, ha, e1⟩ := own_some hx
    have := h4 a ha; omega
  · obtain ⟨a, ha, e1⟩ := own_some hx
    have := h5 a ha; omega
def Full (w : World) (lo : Option Addr) (n : Nat) : Prop := ∀ ad, lo = some ad → ∃ cur, ad = ⟨ad.block, 0, none⟩ ∧ Blk w ad.block 35 cur ∧ n * 3 ≤ cur.size
theorem full_start {w : World} {B : Nat} {lo : Option Addr} {ks : List KeyD} (h : ClipRow w B (.slice lo ks.length ks.length) ks) : Full w lo ks.length := by
  rintro ad rfl
  rcases h with ⟨_, hv⟩ | ⟨g, cur, hv, hB, hg, hs, _⟩
  · injection hv with h1 _ _; cases h1
  · injection hv with h1 _ _
    obtain rfl := Option.some.inj h1
    exact ⟨cur, rfl, hg, hs⟩
theorem clip_some {w : World} {B : Nat} {lo : Option Addr} {ks : List KeyD} (h : ClipRow w B (.slice lo ks.length ks.length) ks) (hn : 0 < ks.length) : ∃ g, lo = some ⟨g, 0, none⟩ := by
  rcases h with ⟨h0, _⟩ | ⟨g, cur, hv, _⟩
  · rw [h0] at hn; simp at hn
  · injection hv with h1 _ _; exact ⟨g, h1⟩
theorem full_set {w : World} {g n j : Nat} (h : Full w (some ⟨g, 0, none⟩) n) (u0 u1 u2 : Value) : Full (((w.setCell ⟨g, j * 3, none⟩ u0).setCell ⟨g, j * 3 + 1, none⟩ u1).setCell ⟨g, j * 3 + 2, none⟩ u2) (some ⟨g, 0, none⟩) n := by
  intro ad had
  obtain ⟨cur, _, hb, hs⟩ := h _ rfl
  obtain rfl := Option.some.inj had
  exact ⟨_, rfl, ((hb.set_ _ _).set_ _ _).set_ _ _, by simpa using hs⟩
def set3 (w : World) (g j : Nat) : World := ((w.setCell ⟨g, j * 3, none⟩ (.int .i64 (-7))).setCell ⟨g, j * 3 + 1, none⟩ (.int .i64 0)).setCell ⟨g, j * 3 + 2, none⟩ (.string ⟨#[]⟩)
theorem grown_set3 {a w : World} {g j : Nat} (h : a.grownBy w ((some (⟨g, 0, none⟩ : Addr)).map (·.block))) : a.grownBy (set3 w g j) ((some (⟨g, 0, none⟩ : Addr)).map (·.block)) := by
  have h' : a.grownBy w (some g) := h
  have := only_setCell (only_setCell (only_setCell h' (p := ⟨g, j * 3, none⟩) (.inl rfl) (.int .i64 (-7))) (p := ⟨g, j * 3 + 1, none⟩) (.inl rfl) (.int .i64 0)) (p := ⟨g, j * 3 + 2, none⟩) (.inl rfl) (.string ⟨#[]⟩)
  exact this
theorem below_set3 {B : Nat} {a w : World} {g j : Nat} (h : Below B a w) (hg : B ≤ g) : Below B a (set3 w g j) :=
  ((h.setCell (p := ⟨g, j * 3, none⟩) hg _).setCell (p := ⟨g, j * 3 + 1, none⟩) hg _).setCell (p := ⟨g, j * 3 + 2, none⟩) hg _
theorem full_set3 {w : World} {g n j : Nat} (h : Full w (some ⟨g, 0, none⟩) n) : Full (set3 w g j) (some ⟨g, 0, none⟩) n := full_set h _ _ _
theorem loop3_start {w WA wr : World} {lo mo no : Option Addr} {kz : List KeyD} {C1 C2 : Nat} (L8 : ClipRow WA C1 (.slice lo kz.length kz.length) kz) (M8 : ClipRow WA C2 (.slice mo kz.length kz.length) kz) (N8 : Reads WA WA.heap.size 3 no kz.length (keyCells kz))
    (HR : Reads WA WA.heap.size 3 mo kz.length (keyCells kz)) (HG : WA.grownBy wr (lo.map (·.block))) (HBK : Full wr lo kz.length) (HD : Far w lo mo no) :
    ∃ xl : List Value, xl.length = kz.length * 3 ∧ App wr w.heap.size (.slice lo kz.length kz.length) (kz.length + 0) (xl ++ keyCells (List.replicate 0 (keyN (-8)))) ∧ App wr w.heap.size (.slice mo kz.length kz.length) (kz.length + 0) (keyCells kz ++ keyCells (List.replicate 0 (keyN (-9)))) ∧ Reads wr wr.heap.size 3 no kz.length (keyCells kz) := by
  have e0 : ∀ z, keyCells (List.replicate 0 (keyN z)) = [] := fun _ => rfl
  rw [e0, e0, List.append_nil, Nat.add_zero]
  have hne : ∀ y, (mo = some y ∨ no = some y) → lo.map (·.block) ≠ some y.block := fun y hy h => by
    cases lo with
    | none => cases h
    | some a =>
      have e1 : a.block = y.block := Option.some.inj h
      rcases hy with hy | hy
      · have := HD.1 a y rfl hy; omega
      · have := HD.2.1 a y rfl hy; omega
  have ham : App wr w.heap.size (.slice mo kz.length kz.length) kz.length (keyCells kz) := (clip_app M8 HR).kept HG (fun x hx h => by
    obtain ⟨b, hb, rfl⟩ := own_some hx
    exact hne b (.inl hb) h)
  have hrn := reads_kept N8 HG (fun _ y hy h => hne y (.inr hy) h)
  cases lo with
  | none =>
    have h0 : kz.length = 0 := by
      rcases L8 with ⟨h0, _⟩ | ⟨g, cur, hv, _⟩
      · rw [h0]; rfl
      · injection hv with h1 _ _; cases h1
    exact ⟨[], by rw [h0]; rfl, .inr ⟨none, rfl, ⟨fun _ => h0, fun _ e => by cases e⟩, by rw [h0]; exact Reads.none_⟩, ham, hrn⟩
  | some ad =>
    obtain ⟨cur, had, hbk, hcs⟩ := HBK ad rfl
    refine ⟨cur.toList.take (kz.length * 3), by simp; omega, .inr ⟨some ad, rfl, ⟨(fun e => by cases e), fun a e => by cases e; exact hbk.lt⟩, by simp; omega, fun _ => ⟨ad, rfl, hbk.lt, fun q u hu => ?_⟩⟩, ham, hrn⟩
    rw [List.append_nil] at hu
    have hq : q < kz.length * 3 := by have := (List.getElem?_eq_some_iff.1 hu).1; simp at this; omega
    rw [had, add_zero_at, hbk.cell, ← hu, List.getElem?_take_of_lt hq, Array.getElem?_toList]

def Step3 (w w1 : World) (lv mv : Value) (no : Option Addr) (n k1 k2 : Nat) (xl : List Value) (kz : List KeyD) : Prop :=
  App w1 w.heap.size lv (n + k1) (xl ++ keyCells (List.replicate k1 (keyN (-8)))) ∧ App w1 w.heap.size mv (n + k2) (keyCells kz ++ keyCells (List.replicate k2 (keyN (-9)))) ∧ Apart3 w kz.length lv mv no ∧ Reads w1 w1.heap.size 3 no kz.length (keyCells kz) ∧ Below w.heap.size w w1
theorem reads_block {w : World} {n m : Nat} {no : Option Addr} {xs : List Value} (h : Reads w w.heap.size m no n xs) (hn : 0 < n) : ∀ y, no = some y → y.block < w.heap.size := by
  intro y hy
  obtain ⟨ad, ha, hb, _⟩ := h.2 hn
  rw [hy] at ha
  obtain rfl := Option.some.inj ha
  exact hb
theorem loop3_left {w wr w1 : World} {lv mv v1 : Value} {no : Option Addr} {k : Nat} {xl : List Value} {kz : List KeyD} {o : Obj}
    (HAL : App wr w.heap.size lv (kz.length + k) (xl ++ keyCells (List.replicate k (keyN (-8))))) (HAM : App wr w.heap.size mv (kz.length + k) (keyCells kz ++ keyCells (List.replicate k (keyN (-9))))) (HDJ : Apart3 w kz.length lv mv no) (HRN : Reads wr wr.heap.size 3 no kz.length (keyCells kz)) (HBW : Below w.heap.size w wr)
    (h1 : w1.ownsRow w.heap.size 35 3 v1 (kz.length + k + 1) (xl ++ (keyCells (List.replicate k (keyN (-8))) ++ (keyN (-8)).cells))) (g1 : (wr.alloc o).grownBy w1 lv.ownBlock) (o1 : ∀ x, v1.ownBlock = some x → lv.ownBlock = some x ∨ wr.heap.size + 1 ≤ x) : Step3 w w1 v1 mv no kz.length (k + 1) k xl kz := by
  obtain ⟨d1, d2, d3, d4⟩ := HDJ
  refine ⟨.inl ?_, (HAM.alloc o).kept g1 (fun x hx h => d1 x h hx), ⟨fun x hx hm => ?_, fun hn y hy => ⟨fun hx => ?_, (d2 hn y hy).2⟩, fun x hx => ?_, d4⟩, ?_, ?_⟩
  · rw [rep_snoc] at h1; exact h1
  · rcases o1 x hx with h | h
    · exact d1 x h hm
    · have := HAM.lt x hm; omega
  · rcases o1 _ hx with h | h
    · exact (d2 hn y hy).1 h
    · have := reads_block HRN hn y hy; omega
  · rcases o1 x hx with h | h
    · exact d3 x h
    · have := HBW.size; omega
  · have e1 : Reads (wr.alloc o) (wr.alloc o).heap.size 3 no kz.length (keyCells kz) := reads_kept HRN (World.grownBy_alloc wr o none) (fun _ _ _ => by simp)
    exact reads_kept e1 g1 (fun hn y hy => (d2 hn y hy).1)
  · exact (HBW.alloc HBW.size o).grown g1 (by have := HBW.size; simp; omega) (fun x hx => d3 x hx)
theorem loop3_right {w w1 w2 : World} {lv mv v2 : Value} {no : Option Addr} {k : Nat} {xl : List Value} {kz : List KeyD} {o : Obj} (S : Step3 w w1 lv mv no kz.length (k + 1) k xl kz)
    (h1 : w2.ownsRow w.heap.size 35 3 v2 (kz.length + k + 1) (keyCells kz ++ (keyCells (List.replicate k (keyN (-9))) ++ (keyN (-9)).cells))) (g1 : (w1.alloc o).grownBy w2 mv.ownBlock) (o1 : ∀ x, v2.ownBlock = some x → mv.ownBlock = some x ∨ w1.heap.size + 1 ≤ x) : Step3 w w2 lv v2 no kz.length (k + 1) (k + 1) xl kz := by
  obtain ⟨HAL, HAM, ⟨d1, d2, d3, d4⟩, HRN, HBW⟩ := S
  refine ⟨(HAL.alloc o).kept g1 (fun x hx h => d1 x hx h), .inl ?_, ⟨fun x hx hm => ?_, fun hn y hy => ⟨(d2 hn y hy).1, fun hx => ?_⟩, d3, fun x hx => ?_⟩, ?_, ?_⟩
  · rw [rep_snoc] at h1; exact h1
  · rcases o1 x hm with h | h
    · exact d1 x hx h
    · have := HAL.lt x hx; omega
  · rcases o1 _ hx with h | h
    · exact (d2 hn y hy).2 h
    · have := reads_block HRN hn y hy; omega
  · rcases o1 x hx with h | h
    · exact d4 x h
    · have := HBW.size; omega
  · have e1 : Reads (w1.alloc o) (w1.alloc o).heap.size 3 no kz.length (keyCells kz) := reads_kept HRN (World.grownBy_alloc w1 o none) (fun _ _ _ => by simp)
    exact reads_kept e1 g1 (fun hn y hy => (d2 hn y hy).2)
  · exact (HBW.alloc HBW.size o).grown g1 (by have := HBW.size; simp; omega) (fun x hx => d4 x hx)

theorem wpList_append_app {w : World} {ops : Array Oper} {rest : List Oper} {o : Oper} {a : Act} {Q : Exit → Act → World → Prop} (hgd : o.guard = none) (s x : Operand)
    (ho : o.op = .call { callee := .builtin .append, args := #[s, x], argTypes := #[42, 42] })
    (B : Nat) (v : Value) (n : Nat) (xs : List Value) (hs : a.eval s = v) (happ : App w B v n xs) (hxl : xs.length = n * 3)
    (g c : Nat) (k : KeyD) (hx : a.eval x = .slice (some ⟨g, 0, none⟩) 1 c) (hblk : Blk w g 35 #[.int .i64 k.kind, .int .i64 k.num, .string k.text])
    (hn : n ≤ 4194304) (hbase : B ≤ w.heap.size)
    (h : ∀ v' w', w'.ownsRow B 35 3 v' (n + 1) (xs ++ k.cells) → w.grownBy w' v.ownBlock → (∀ x, v'.ownBlock = some x → v.ownBlock = some x ∨ w.heap.size ≤ x) → wpList Tryd.prog ops Q rest (a.put o.dst v') w') : wpList Tryd.prog ops Q (o :: rest) a w := by
  obtain ⟨i0, hi, hz0, hz1, hz2⟩ := info_parts infoKey
  have hc : ∀ j u, k.cells[j]? = some u → w.cell? ((⟨g, 0, none⟩ : Addr).add j) = some u := fun j u hu => by
    rw [add_zero_at, hblk.cell, ← hu]; simp [KeyD.cells]
  have hone : ∀ u ∈ k.cells, u.oneCell' = true := fun u hu => by
    unfold KeyD.cells at hu; simp at hu; rcases hu with rfl | rfl | rfl <;> rfl
  rcases happ with hown | ⟨ao, rfl, h0, hr⟩
  · refine wpList_append_any w hgd s x 42 ho B 35 i0 (.agg #[.int .i64 0, .int .i64 0, .string ⟨#[]⟩]) 3 32 Tryd.underlying42 hi hz0 hz1 hz2 rfl (by decide) v n xs hs hown w.heap.size (some ⟨g, 0, none⟩) 1 c k.cells hx ⟨rfl, fun _ => ⟨_, rfl, hblk.lt, hc⟩⟩ hone (by unfold maxLen; omega) (by omega) hbase ?_
    intro v' w' h1 h2 h3
    refine h v' w' h1 h2 (fun y hy => ?_)
    rcases h3 with h3 | h3
    · exact .inl (h3 ▸ hy)
    · rw [h3] at hy; cases hy; exact .inr (Nat.le_refl _)
  · refine wpList_append_grows w hgd s x 42 ho 35 i0 (.agg #[.int .i64 0, .int .i64 0, .string ⟨#[]⟩]) 3 32 Tryd.underlying42 hi hz0 hz1 hz2 rfl (by decide) ao n n xs hs (fun e => ⟨h0.1 e, h0.1 e⟩) hxl (fun b hb j u hu => ?_) ⟨g, 0, none⟩ 1 c k.cells hx rfl hc hone (by omega) (by unfold maxLen; omega) (by omega) ?_
    · have hn0 : 0 < n := by
        have := (List.getElem?_eq_some_iff.1 hu).1; omega
      obtain ⟨ad, ha, _, hcell⟩ := hr.2 hn0
      rw [hb] at ha
      obtain rfl := Option.some.inj ha
      exact hcell j u hu
    · intro v' w' h1 h2
      exact h v' w' (own_mono h1 hbase) (grown_any h2 _) (fun y hy => .inr (h1.lt y hy).1)
end Go.Proofs.YtebagmiclfhelaaDoor.OrdLib
