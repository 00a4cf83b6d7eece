/- More on rows that a call gathers: two of them side by side. Over any program. What Back answers, and the steps of it in plain Lean. A piece of a text is cut into runes as the text is; two texts with a blank between. -/
import Derived.Test.YtfckomjbgopmaaaGreatDoorPack18
import Derived.Test.YtfckomjbgopmaaaGreatDoorPack20
import Derived.Test.YtfckomjbgopmaaaGreatDoorOrdText
import Derived.Test.YtfckomjbgopmaaaGreatDoorPack16
import Derived.Test.YtfckomjbgopmaaaGreatDoorAnaRunP
section
set_option linter.unusedVariables false
namespace Go.Proofs.YtfckomjbgopmaaaGreatDoor.Tree
open Go.RowKit Go.WideShapes Go.ChangeShapes Words Owned

section
variable {sent : Nat → List (List Value)} {X : Type} {f : X → List T} {s : Nat} {et : TypeId} {box : Option Nat} {N : Nat}
end
end Go.Proofs.YtfckomjbgopmaaaGreatDoor.Tree
end
section
set_option linter.unusedVariables false
namespace Go.Proofs.YtfckomjbgopmaaaGreatDoor.Sch
open Go.RowKit Words Tree SchP Kit Owned AnaP

/-- A number's text in a decimal field. -/
def txtO (f : FT) (n : Int) : ByteArray := str (OrdLib.txtS n f.scale)
/-- What Back answers. -/
def BackRet (r : Except Int (List ET)) (w : World) (e : Ending) (w' : World) : Prop :=
  Below w.heap.size w w' ∧ match r with
    | .error n => e = .returned (.tuple #[.agg #[.slice none 0 0], .int .i64 n])
    | .ok es => ∃ v, e = .returned (.tuple #[.agg #[v], .int .i64 0]) ∧ T.At bare w' (fun g => w.heap.size ≤ g ∧ CellsAt w' g) (entriesT es) v

theorem backGo_step {txt : FT → Int → ByteArray} {l : List FT} {cs : List CT} {k : Nat} (h : k < cs.length) (pre : List ET) :
    (backGo txt l (cs.drop k)).map (pre ++ ·) = match backE txt l cs[k] with | .error n => .error n | .ok e => (backGo txt l (cs.drop (k + 1))).map ((pre ++ [e]) ++ ·) := by
  rw [List.drop_eq_getElem_cons h]
  simp only [backGo]
  cases backE txt l cs[k] with
  | error n => rfl
  | ok e =>
    simp only
    cases backGo txt l (cs.drop (k + 1)) with
    | error n => rfl
    | ok d => simp [Except.map]
theorem backE_81 {txt : FT → Int → ByteArray} {l : List FT} {c : CT} (h : c.field < 0 ∨ (l.length : Int) ≤ c.field) : backE txt l c = .error 81 := by unfold backE; rw [if_pos h]
theorem backE_in {txt : FT → Int → ByteArray} {l : List FT} {c : CT} {i : Nat} {f : FT} (hc : c.field = i) (hf : l[i]? = some f) : backE txt l c = if ¬ ((c.nums.length : Int) = wantC f) ∨ (0 < wantC f ∧ 0 < c.text.size) then .error 82 else if f.kind = 4 then .ok ⟨f.name, txt f (c.nums.getD 0 0), []⟩ else .ok ⟨f.name, c.text, c.nums⟩ := by
  have hi := (List.getElem?_eq_some_iff.1 hf).1
  unfold backE
  rw [if_neg (by rw [hc]; omega)]
  have : c.field.toNat = i := by omega
  simp only [this, hf]
/-- The program asks for a field's kind behind the text. -/
theorem backE_kind {txt : FT → Int → ByteArray} {l : List FT} {c : CT} {i : Nat} {f : FT} (hc : c.field = i) (hf : l[i]? = some f) (hm : mayB f = true) (h4 : f.kind ≠ 4) : backE txt l c = if kindP f c.text c.nums.length = true then .ok ⟨f.name, c.text, c.nums⟩ else .error 82 := by
  rw [backE_in hc hf, if_neg h4]
  unfold wantC kindP
  rcases kind_of hm with hk | hk | hk | hk | ⟨hk, hd1, hd2⟩
  · simp only [hk]; by_cases h : c.nums.length = 0 <;> simp [h]
  · simp only [hk]; by_cases h : c.nums.length = 0 <;> simp [h]
  · simp only [hk]
    by_cases h : c.nums.length = 1
    · by_cases h2 : c.text.size = 0
      · simp [h, h2]
      · simp [h, h2]
    · have : ¬ ((c.nums.length : Int) = 1) := by omega
      simp [h, this]
  · exact absurd hk h4
  · simp only [hk]
    by_cases h : (c.nums.length : Int) = f.dims
    · by_cases h2 : c.text.size = 0
      · simp [h, h2]
      · simp [h, h2]; omega
    · simp [h]
theorem backE_4 {txt : FT → Int → ByteArray} {l : List FT} {c : CT} {i : Nat} {f : FT} (hc : c.field = i) (hf : l[i]? = some f) (h4 : f.kind = 4) : backE txt l c = if c.nums.length = 1 ∧ c.text.size = 0 then .ok ⟨f.name, txt f (c.nums.getD 0 0), []⟩ else .error 82 := by
  rw [backE_in hc hf, if_pos h4]
  unfold wantC
  simp only [h4]
  by_cases h : c.nums.length = 1
  · by_cases h2 : c.text.size = 0
    · simp [h, h2]
    · simp [h, h2]
  · have : ¬ ((c.nums.length : Int) = 1) := by omega
    simp [h, this]
theorem backF_yes {txt : FT → Int → ByteArray} {l : List FT} {cs : List CT} (h : checkS l = true) : backF txt l cs = backGo txt l cs := by unfold backF; rw [if_neg (by rw [h]; decide)]

theorem eqk (a b : Int) : (a = b ∧ (a == b) = true) ∨ (a ≠ b ∧ (a == b) = false) := by
  by_cases h : a = b
  · exact .inl ⟨h, by simpa using h⟩
  · exact .inr ⟨h, by simpa using h⟩
theorem neqn (n : Nat) (k : Int) : ((n : Int) = k ∧ ((n : Int) != k) = false) ∨ ((n : Int) ≠ k ∧ ((n : Int) != k) = true) := by
  by_cases h : (n : Int) = k
  · exact .inl ⟨h, by simpa using h⟩
  · exact .inr ⟨h, by simpa using h⟩
/-- What holds when k cells have been told: the entries lie in the box gd. -/
structure BackSt (w : World) (u : Value) (l : List FT) (cs : List CT) (R : Except Int (List ET)) (gd k : Nat) (wr : World) : Prop where
  out : ∃ pre v, (backGo txtO l (cs.drop k)).map (pre ++ ·) = R ∧ pre.length = k ∧ RowG bare 68 3 ecells (some gd) gd wr v pre ∧ Blk wr gd 30 #[v]
  bs : Blk wr w.heap.size 24 #[u]
  br : Blk wr (w.heap.size + 1) 30 #[.slice none 0 0]
  below : Below w.heap.size w wr
  far : w.heap.size + 1 < gd ∧ gd < wr.heap.size
/-- A new entry lies in block g, its numbers beside it. -/
structure MadeE (W : World) (name text : ByteArray) (ns : List Int) (g : Nat) (Y : Option Addr) (z : Nat) (V : World) : Prop where
  below : Below W.heap.size W V
  ge : W.heap.size ≤ g
  blk : Blk V g 68 #[.string name, .string text, .slice Y ns.length z]
  nums : T.At bare V (fun h => W.heap.size ≤ h ∧ h ≠ g ∧ CellsAt V h) (numsT .i64 ns) (.slice Y ns.length z)
theorem at_far {W : World} {N g : Nat} {t : T} {v : Value} (h : T.At bare W (fun k => N ≤ k ∧ CellsAt W k) t v) {p : Addr} (hp : p.block = g) (hg : g < N) (u : Value) : T.At bare (W.setCell p u) (fun k => N ≤ k ∧ CellsAt (W.setCell p u) k) t v :=
  At.keep (fun q hq => World.cell?_setCell_other _ _ _ _ (by intro h; subst h; have := hq.1; omega)) (fun k hk => ⟨hk.1, hk.2.set _ _⟩) h
end Go.Proofs.YtfckomjbgopmaaaGreatDoor.Sch
end
section
namespace AnaP
open Go.Lib Go FoldP

/-! ### The decoder on a text that is cut short -/
def D2 (N b0 b1 : Nat) : Prop := b0 / 32 = 6 ∧ 1 < N ∧ b1 / 64 = 2 ∧ 128 ≤ b0 % 32 * 64 + b1 % 64
def ok3 (v : Nat) : Prop := v < 55296 ∨ (57344 ≤ v ∧ v ≤ 1114111)
def D3 (N b0 b1 b2 : Nat) : Prop := b0 / 16 = 14 ∧ 2 < N ∧ b1 / 64 = 2 ∧ b2 / 64 = 2 ∧ 2048 ≤ b0 % 16 * 4096 + b1 % 64 * 64 + b2 % 64 ∧ ok3 (b0 % 16 * 4096 + b1 % 64 * 64 + b2 % 64)
def D4 (N b0 b1 b2 b3 : Nat) : Prop := b0 / 8 = 30 ∧ 3 < N ∧ b1 / 64 = 2 ∧ b2 / 64 = 2 ∧ b3 / 64 = 2 ∧ 65536 ≤ b0 % 8 * 262144 + b1 % 64 * 4096 + b2 % 64 * 64 + b3 % 64 ∧ ok3 (b0 % 8 * 262144 + b1 % 64 * 4096 + b2 % 64 * 64 + b3 % 64)
theorem of_D1 {N b0 b1 b2 b3 : Nat} (h : b0 < 128) : decodeN N b0 b1 b2 b3 = (b0, 1) := by unfold decodeN; rw [if_pos h]
theorem of_D2 {N b0 b1 b2 b3 : Nat} (h : D2 N b0 b1) : decodeN N b0 b1 b2 b3 = (b0 % 32 * 64 + b1 % 64, 2) := by
  obtain ⟨h1, h2, h3, h4⟩ := h
  unfold decodeN; rw [if_neg (by omega), if_pos ⟨h1, h2, h3⟩, if_pos h4]
theorem of_D3 {N b0 b1 b2 b3 : Nat} (h : D3 N b0 b1 b2) : decodeN N b0 b1 b2 b3 = (b0 % 16 * 4096 + b1 % 64 * 64 + b2 % 64, 3) := by
  obtain ⟨h1, h2, h3, h4, h5, h6⟩ := h
  unfold decodeN; rw [if_neg (by omega), if_neg (by omega), if_pos ⟨h1, ⟨by omega, h3⟩, h2, h4⟩, if_pos ⟨h5, h6⟩]
theorem of_D4 {N b0 b1 b2 b3 : Nat} (h : D4 N b0 b1 b2 b3) : decodeN N b0 b1 b2 b3 = (b0 % 8 * 262144 + b1 % 64 * 4096 + b2 % 64 * 64 + b3 % 64, 4) := by
  obtain ⟨h1, h2, h3, h4, h5, h6, h7⟩ := h
  unfold decodeN; rw [if_neg (by omega), if_neg (by omega), if_neg (by omega), if_pos ⟨h1, ⟨by omega, h3⟩, ⟨by omega, h4⟩, h2, h5⟩, if_pos ⟨h6, h7⟩]
theorem of_D0 {N b0 b1 b2 b3 : Nat} (h : 128 ≤ b0) (h2 : ¬ D2 N b0 b1) (h3 : ¬ D3 N b0 b1 b2) (h4 : ¬ D4 N b0 b1 b2 b3) : decodeN N b0 b1 b2 b3 = (65533, 1) := by
  unfold decodeN; rw [if_neg (by omega)]
  by_cases c2 : b0 / 32 = 6 ∧ (1 < N ∧ b1 / 64 = 2)
  · rw [if_pos c2, if_neg (fun e => h2 ⟨c2.1, c2.2.1, c2.2.2, e⟩)]
  · rw [if_neg c2]
    by_cases c3 : b0 / 16 = 14 ∧ (1 < N ∧ b1 / 64 = 2) ∧ (2 < N ∧ b2 / 64 = 2)
    · rw [if_pos c3, if_neg (fun e => h3 ⟨c3.1, c3.2.2.1, c3.2.1.2, c3.2.2.2, e.1, e.2⟩)]
    · rw [if_neg c3]
      by_cases c4 : b0 / 8 = 30 ∧ (1 < N ∧ b1 / 64 = 2) ∧ (2 < N ∧ b2 / 64 = 2) ∧ (3 < N ∧ b3 / 64 = 2)
      · rw [if_pos c4, if_neg (fun e => h4 ⟨c4.1, c4.2.2.2.1, c4.2.1.2, c4.2.2.1.2, c4.2.2.2.2, e.1, e.2⟩)]
      · rw [if_neg c4]
/-- Two readings are one where the forms are. -/
theorem decodeN_same {N M b0 b1 b2 b3 c1 c2 c3 : Nat} (h2 : D2 N b0 b1 → D2 M b0 c1 ∧ b1 = c1) (h3 : D3 N b0 b1 b2 → D3 M b0 c1 c2 ∧ b1 = c1 ∧ b2 = c2) (h4 : D4 N b0 b1 b2 b3 → D4 M b0 c1 c2 c3 ∧ b1 = c1 ∧ b2 = c2 ∧ b3 = c3)
    (k2 : D2 M b0 c1 → D2 N b0 b1) (k3 : D3 M b0 c1 c2 → D3 N b0 b1 b2) (k4 : D4 M b0 c1 c2 c3 → D4 N b0 b1 b2 b3) : decodeN N b0 b1 b2 b3 = decodeN M b0 c1 c2 c3 := by
  by_cases a1 : b0 < 128
  · rw [of_D1 a1, of_D1 a1]
  · by_cases a2 : D2 N b0 b1
    · obtain ⟨e, rfl⟩ := h2 a2
      rw [of_D2 a2, of_D2 e]
    · by_cases a3 : D3 N b0 b1 b2
      · obtain ⟨e, rfl, rfl⟩ := h3 a3
        rw [of_D3 a3, of_D3 e]
      · by_cases a4 : D4 N b0 b1 b2 b3
        · obtain ⟨e, rfl, rfl, rfl⟩ := h4 a4
          rw [of_D4 a4, of_D4 e]
        · rw [of_D0 (by omega) a2 a3 a4, of_D0 (by omega) (fun h => a2 (k2 h)) (fun h => a3 (k3 h)) (fun h => a4 (k4 h))]
theorem decodeN_cut (N M n b0 b1 b2 b3 c1 c2 c3 : Nat) (hM : M = min n N) (e1 : 1 < n → c1 = b1) (e2 : 2 < n → c2 = b2) (e3 : 3 < n → c3 = b3) (h : (decodeN N b0 b1 b2 b3).2 ≤ n) : decodeN M b0 c1 c2 c3 = decodeN N b0 b1 b2 b3 := by
  refine (decodeN_same (fun a => ?_) (fun a => ?_) (fun a => ?_) (fun a => ?_) (fun a => ?_) (fun a => ?_)).symm
  · rw [of_D2 a] at h
    obtain rfl := e1 h
    unfold D2 at *; exact ⟨⟨a.1, by have := a.2.1; dsimp only at h; omega, a.2.2⟩, rfl⟩
  · rw [of_D3 a] at h
    dsimp only at h
    obtain rfl := e1 (by omega)
    obtain rfl := e2 (by omega)
    unfold D3 at *; exact ⟨⟨a.1, by have := a.2.1; omega, a.2.2⟩, rfl, rfl⟩
  · rw [of_D4 a] at h
    dsimp only at h
    obtain rfl := e1 (by omega)
    obtain rfl := e2 (by omega)
    obtain rfl := e3 (by omega)
    unfold D4 at *; exact ⟨⟨a.1, by have := a.2.1; omega, a.2.2⟩, rfl, rfl, rfl⟩
  · have := a.2.1
    obtain rfl := e1 (by omega)
    exact ⟨a.1, by omega, a.2.2⟩
  · have := a.2.1
    obtain rfl := e1 (by omega)
    obtain rfl := e2 (by omega)
    exact ⟨a.1, by omega, a.2.2⟩
  · have := a.2.1
    obtain rfl := e1 (by omega)
    obtain rfl := e2 (by omega)
    obtain rfl := e3 (by omega)
    exact ⟨a.1, by omega, a.2.2⟩
theorem getD_take_lt {l : List UInt8} {n i : Nat} (h : i < n) : (l.take n).getD i 0 = l.getD i 0 := by
  rw [List.getD_eq_getElem?_getD, List.getD_eq_getElem?_getD, List.getElem?_take, if_pos h]
theorem decodeL_take (l : List UInt8) (n : Nat) (hn : (decodeL l).2 ≤ n) : decodeL (l.take n) = decodeL l := by
  have h1 := decodeL_width l
  have h0 : 0 < n := Nat.lt_of_lt_of_le h1 hn
  rw [decodeL_N] at hn
  rw [decodeL_N (l.take n), decodeL_N l, List.length_take, getD_take_lt h0]
  exact decodeN_cut _ _ n _ _ _ _ _ _ _ rfl (fun h => by rw [getD_take_lt h]) (fun h => by rw [getD_take_lt h]) (fun h => by rw [getD_take_lt h]) hn

/-! ### The runes of a piece -/
/-- A piece of a text, between two of its runes. -/
def subL (l : List UInt8) (a b : Nat) : List UInt8 := (l.drop (posAt l a)).take (posAt l b - posAt l a)
theorem subL_len (l : List UInt8) (a b : Nat) : (subL l a b).length = posAt l b - posAt l a := by
  have := posAt_le l b
  simp [subL]; omega
theorem subL_drop (l : List UInt8) (a b k : Nat) : (subL l a b).drop k = (l.drop (posAt l a + k)).take (posAt l b - posAt l a - k) := by
  unfold subL; rw [List.drop_take, List.drop_drop]
/-- What is left of a piece, from its rune i on. -/
theorem runes_sub (l : List UInt8) (a b : Nat) (hab : a ≤ b) (hb : b ≤ nR l) : ∀ (f i : Nat), b - i ≤ f → a ≤ i → i ≤ b →
    (runesFrom (posAt l i - posAt l a) ((subL l a b).drop (posAt l i - posAt l a))).map (·.1) = ((List.range (b - i)).map fun k => posAt l (i + k) - posAt l a)
  | 0, i, hf, hi, hib => by
    obtain rfl : i = b := by omega
    rw [runesEnd _ _ (by rw [subL_len]; exact Nat.le_refl _)]; simp
  | f + 1, i, hf, hi, hib => by
    rcases Nat.lt_or_ge i b with h | h
    · have h1 := posAt_mono l a i hi (by omega)
      obtain ⟨h2, h3⟩ := posAt_next l i (by omega)
      have h4 := posAt_step l i (by omega)
      have h5 := posAt_mono l (i + 1) b (by omega) hb
      have e : (subL l a b).drop (posAt l i - posAt l a) = (l.drop (posAt l i)).take (posAt l b - posAt l i) := by
        rw [subL_drop, show posAt l a + (posAt l i - posAt l a) = posAt l i by omega, show posAt l b - posAt l a - (posAt l i - posAt l a) = posAt l b - posAt l i by omega]
      have hd : decodeL ((subL l a b).drop (posAt l i - posAt l a)) = decodeL (l.drop (posAt l i)) := by
        rw [e]; exact decodeL_take _ _ (by omega)
      rw [runesAt _ _ (by rw [subL_len]; omega), hd, List.map_cons]
      have ih := runes_sub l a b hab hb f (i + 1) (by omega) (by omega) (by omega)
      rw [show posAt l i - posAt l a + (decodeL (l.drop (posAt l i))).2 = posAt l (i + 1) - posAt l a by omega, ih]
      rw [show b - i = (b - (i + 1)) + 1 by omega, List.range_succ_eq_map, List.map_cons, List.map_map]
      simp only [Nat.add_zero, List.cons.injEq, true_and]
      apply List.map_congr_left
      intro k _
      simp only [Function.comp_apply]
      congr 2; omega
    · obtain rfl : i = b := by omega
      rw [runesEnd _ _ (by rw [subL_len]; exact Nat.le_refl _)]; simp
theorem sub_runes (l : List UInt8) (a b : Nat) (hab : a ≤ b) (hb : b ≤ nR l) : (runesL (subL l a b)).map (·.1) = (List.range (b - a)).map fun k => posAt l (a + k) - posAt l a := by
  have := runes_sub l a b hab hb (b - a) a (Nat.le_refl _) (Nat.le_refl _) hab
  rw [Nat.sub_self, List.drop_zero] at this
  exact this
theorem sub_nR (l : List UInt8) (a b : Nat) (hab : a ≤ b) (hb : b ≤ nR l) : nR (subL l a b) = b - a := by
  have := congrArg List.length (sub_runes l a b hab hb)
  simpa [nR] using this
theorem sub_posAt (l : List UInt8) (a b : Nat) (hab : a ≤ b) (hb : b ≤ nR l) (i : Nat) (hi : i ≤ b - a) : posAt (subL l a b) i = posAt l (a + i) - posAt l a := by
  have hn := sub_nR l a b hab hb
  rcases Nat.lt_or_ge i (b - a) with h | h
  · have h1 := runes_get (subL l a b) i (by omega)
    have h2 : ((runesL (subL l a b)).map (·.1))[i]? = some (posAt (subL l a b) i) := by rw [List.getElem?_map, h1]; rfl
    rw [sub_runes l a b hab hb, List.getElem?_map, List.getElem?_range h] at h2
    exact (Option.some.inj h2).symm
  · obtain rfl : i = b - a := by omega
    have h1 := posAt_end (subL l a b)
    rw [hn, subL_len] at h1
    rw [h1, show a + (b - a) = b by omega]
theorem extract_list (s : ByteArray) (x y : Nat) (hy : y ≤ s.size) : (s.extract x y).data.toList = (s.data.toList.drop x).take (y - x) := by
  rw [ByteArray.data_extract, Array.toList_extract, List.extract_eq_take_drop]
/-- A piece of a piece. -/
theorem extract_sub (s : ByteArray) (a b x y : Nat) (hxy : x ≤ y) (hy : a + y ≤ b) (hb : b ≤ s.size) : (s.extract a b).extract x y = s.extract (a + x) (a + y) := by
  apply ByteArray.ext
  rw [ByteArray.data_extract, ByteArray.data_extract, ByteArray.data_extract, Array.extract_extract]
  congr 1; omega
/-- The piece's own runes and text. -/
theorem sub_text (s : ByteArray) (a b : Nat) (hb : b ≤ nR s.data.toList) : (s.extract (posAt s.data.toList a) (posAt s.data.toList b)).data.toList = subL s.data.toList a b := by
  have := posAt_le s.data.toList b
  rw [extract_list _ _ _ (by simpa using this)]; rfl

/-! ### Two texts with a blank between -/
end AnaP
end
