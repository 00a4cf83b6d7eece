/- A piece of a text is cut into runes as the text is; two texts with a blank between. Plain laws: where tokens lie, a chain's last link, two texts with a blank between. Contracts: 'letters', and 'tokens' at the tokenizers of one run a token. Contract: the document's Check of a chain. Contracts of the document's Letter, Digit and Mark. -/
import Derived.Test.YtinmiekbhoemjaaGreatDoorAnaRunP
import Derived.Test.YtinmiekbhoemjaaGreatDoorAnaRuns
import Derived.Test.YtinmiekbhoemjaaGreatDoorPack11
import Derived.Deep.QuietTactic
import Derived.BigQuiet
import Derived.Test.YtinmiekbhoemjaaGreatDoorPack20
section
namespace AnaP
open Go.Lib Go FoldP

/-! ### The decoder on a text that is cut short -/
def D2 (N b0 b1 : Nat) : Prop := b0 / 32 = 6 ∧ 1 < N ∧ b1 / 64 = 2 ∧ 128 ≤ b0 % 32 * 64 + b1 % 64
def ok3 (v : Nat) : Prop := v < 55296 ∨ (57344 ≤ v ∧ v ≤ 1114111)
def D3 (N b0 b1 b2 : Nat) : Prop := b0 / 16 = 14 ∧ 2 < N ∧ b1 / 64 = 2 ∧ b2 / 64 = 2 ∧ 2048 ≤ b0 % 16 * 4096 + b1 % 64 * 64 + b2 % 64 ∧ ok3 (b0 % 16 * 4096 + b1 % 64 * 64 + b2 % 64)
def D4 (N b0 b1 b2 b3 : Nat) : Prop := b0 / 8 = 30 ∧ 3 < N ∧ b1 / 64 = 2 ∧ b2 / 64 = 2 ∧ b3 / 64 = 2 ∧ 65536 ≤ b0 % 8 * 262144 + b1 % 64 * 4096 + b2 % 64 * 64 + b3 % 64 ∧ ok3 (b0 % 8 * 262144 + b1 % 64 * 4096 + b2 % 64 * 64 + b3 % 64)
theorem of_D1 {N b0 b1 b2 b3 : Nat} (h : b0 < 128) : decodeN N b0 b1 b2 b3 = (b0, 1) := by unfold decodeN; rw [if_pos h]
theorem of_D2 {N b0 b1 b2 b3 : Nat} (h : D2 N b0 b1) : decodeN N b0 b1 b2 b3 = (b0 % 32 * 64 + b1 % 64, 2) := by
  obtain ⟨h1, h2, h3, h4⟩ := h
  unfold decodeN; rw [if_neg (by omega), if_pos ⟨h1, h2, h3⟩, if_pos h4]
theorem of_D3 {N b0 b1 b2 b3 : Nat} (h : D3 N b0 b1 b2) : decodeN N b0 b1 b2 b3 = (b0 % 16 * 4096 + b1 % 64 * 64 + b2 % 64, 3) := by
  obtain ⟨h1, h2, h3, h4, h5, h6⟩ := h
  unfold decodeN; rw [if_neg (by omega), if_neg (by omega), if_pos ⟨h1, ⟨by omega, h3⟩, h2, h4⟩, if_pos ⟨h5, h6⟩]
theorem of_D4 {N b0 b1 b2 b3 : Nat} (h : D4 N b0 b1 b2 b3) : decodeN N b0 b1 b2 b3 = (b0 % 8 * 262144 + b1 % 64 * 4096 + b2 % 64 * 64 + b3 % 64, 4) := by
  obtain ⟨h1, h2, h3, h4, h5, h6, h7⟩ := h
  unfold decodeN; rw [if_neg (by omega), if_neg (by omega), if_neg (by omega), if_pos ⟨h1, ⟨by omega, h3⟩, ⟨by omega, h4⟩, h2, h5⟩, if_pos ⟨h6, h7⟩]
theorem of_D0 {N b0 b1 b2 b3 : Nat} (h : 128 ≤ b0) (h2 : ¬ D2 N b0 b1) (h3 : ¬ D3 N b0 b1 b2) (h4 : ¬ D4 N b0 b1 b2 b3) : decodeN N b0 b1 b2 b3 = (65533, 1) := by
  unfold decodeN; rw [if_neg (by omega)]
  by_cases c2 : b0 / 32 = 6 ∧ (1 < N ∧ b1 / 64 = 2)
  · rw [if_pos c2, if_neg (fun e => h2 ⟨c2.1, c2.2.1, c2.2.2, e⟩)]
  · rw [if_neg c2]
    by_cases c3 : b0 / 16 = 14 ∧ (1 < N ∧ b1 / 64 = 2) ∧ (2 < N ∧ b2 / 64 = 2)
    · rw [if_pos c3, if_neg (fun e => h3 ⟨c3.1, c3.2.2.1, c3.2.1.2, c3.2.2.2, e.1, e.2⟩)]
    · rw [if_neg c3]
      by_cases c4 : b0 / 8 = 30 ∧ (1 < N ∧ b1 / 64 = 2) ∧ (2 < N ∧ b2 / 64 = 2) ∧ (3 < N ∧ b3 / 64 = 2)
      · rw [if_pos c4, if_neg (fun e => h4 ⟨c4.1, c4.2.2.2.1, c4.2.1.2, c4.2.2.1.2, c4.2.2.2.2, e.1, e.2⟩)]
      · rw [if_neg c4]
/-- Two readings are one where the forms are. -/
theorem decodeN_same {N M b0 b1 b2 b3 c1 c2 c3 : Nat} (h2 : D2 N b0 b1 → D2 M b0 c1 ∧ b1 = c1) (h3 : D3 N b0 b1 b2 → D3 M b0 c1 c2 ∧ b1 = c1 ∧ b2 = c2) (h4 : D4 N b0 b1 b2 b3 → D4 M b0 c1 c2 c3 ∧ b1 = c1 ∧ b2 = c2 ∧ b3 = c3)
    (k2 : D2 M b0 c1 → D2 N b0 b1) (k3 : D3 M b0 c1 c2 → D3 N b0 b1 b2) (k4 : D4 M b0 c1 c2 c3 → D4 N b0 b1 b2 b3) : decodeN N b0 b1 b2 b3 = decodeN M b0 c1 c2 c3 := by
  by_cases a1 : b0 < 128
  · rw [of_D1 a1, of_D1 a1]
  · by_cases a2 : D2 N b0 b1
    · obtain ⟨e, rfl⟩ := h2 a2
      rw [of_D2 a2, of_D2 e]
    · by_cases a3 : D3 N b0 b1 b2
      · obtain ⟨e, rfl, rfl⟩ := h3 a3
        rw [of_D3 a3, of_D3 e]
      · by_cases a4 : D4 N b0 b1 b2 b3
        · obtain ⟨e, rfl, rfl, rfl⟩ := h4 a4
          rw [of_D4 a4, of_D4 e]
        · rw [of_D0 (by omega) a2 a3 a4, of_D0 (by omega) (fun h => a2 (k2 h)) (fun h => a3 (k3 h)) (fun h => a4 (k4 h))]
theorem decodeN_cut (N M n b0 b1 b2 b3 c1 c2 c3 : Nat) (hM : M = min n N) (e1 : 1 < n → c1 = b1) (e2 : 2 < n → c2 = b2) (e3 : 3 < n → c3 = b3) (h : (decodeN N b0 b1 b2 b3).2 ≤ n) : decodeN M b0 c1 c2 c3 = decodeN N b0 b1 b2 b3 := by
  refine (decodeN_same (fun a => ?_) (fun a => ?_) (fun a => ?_) (fun a => ?_) (fun a => ?_) (fun a => ?_)).symm
  · rw [of_D2 a] at h
    obtain rfl := e1 h
    unfold D2 at *; exact ⟨⟨a.1, by have := a.2.1; dsimp only at h; omega, a.2.2⟩, rfl⟩
  · rw [of_D3 a] at h
    dsimp only at h
    obtain rfl := e1 (by omega)
    obtain rfl := e2 (by omega)
    unfold D3 at *; exact ⟨⟨a.1, by have := a.2.1; omega, a.2.2⟩, rfl, rfl⟩
  · rw [of_D4 a] at h
    dsimp only at h
    obtain rfl := e1 (by omega)
    obtain rfl := e2 (by omega)
    obtain rfl := e3 (by omega)
    unfold D4 at *; exact ⟨⟨a.1, by have := a.2.1; omega, a.2.2⟩, rfl, rfl, rfl⟩
  · have := a.2.1
    obtain rfl := e1 (by omega)
    exact ⟨a.1, by omega, a.2.2⟩
  · have := a.2.1
    obtain rfl := e1 (by omega)
    obtain rfl := e2 (by omega)
    exact ⟨a.1, by omega, a.2.2⟩
  · have := a.2.1
    obtain rfl := e1 (by omega)
    obtain rfl := e2 (by omega)
    obtain rfl := e3 (by omega)
    exact ⟨a.1, by omega, a.2.2⟩
theorem getD_take_lt {l : List UInt8} {n i : Nat} (h : i < n) : (l.take n).getD i 0 = l.getD i 0 := by
  rw [List.getD_eq_getElem?_getD, List.getD_eq_getElem?_getD, List.getElem?_take, if_pos h]
theorem decodeL_take (l : List UInt8) (n : Nat) (hn : (decodeL l).2 ≤ n) : decodeL (l.take n) = decodeL l := by
  have h1 := decodeL_width l
  have h0 : 0 < n := Nat.lt_of_lt_of_le h1 hn
  rw [decodeL_N] at hn
  rw [decodeL_N (l.take n), decodeL_N l, List.length_take, getD_take_lt h0]
  exact decodeN_cut _ _ n _ _ _ _ _ _ _ rfl (fun h => by rw [getD_take_lt h]) (fun h => by rw [getD_take_lt h]) (fun h => by rw [getD_take_lt h]) hn

/-! ### The runes of a piece -/
/-- A piece of a text, between two of its runes. -/
def subL (l : List UInt8) (a b : Nat) : List UInt8 := (l.drop (posAt l a)).take (posAt l b - posAt l a)
theorem subL_len (l : List UInt8) (a b : Nat) : (subL l a b).length = posAt l b - posAt l a := by
  have := posAt_le l b
  simp [subL]; omega
theorem subL_drop (l : List UInt8) (a b k : Nat) : (subL l a b).drop k = (l.drop (posAt l a + k)).take (posAt l b - posAt l a - k) := by
  unfold subL; rw [List.drop_take, List.drop_drop]
/-- What is left of a piece, from its rune i on. -/
theorem runes_sub (l : List UInt8) (a b : Nat) (hab : a ≤ b) (hb : b ≤ nR l) : ∀ (f i : Nat), b - i ≤ f → a ≤ i → i ≤ b →
    (runesFrom (posAt l i - posAt l a) ((subL l a b).drop (posAt l i - posAt l a))).map (·.1) = ((List.range (b - i)).map fun k => posAt l (i + k) - posAt l a)
  | 0, i, hf, hi, hib => by
    obtain rfl : i = b := by omega
    rw [runesEnd _ _ (by rw [subL_len]; exact Nat.le_refl _)]; simp
  | f + 1, i, hf, hi, hib => by
    rcases Nat.lt_or_ge i b with h | h
    · have h1 := posAt_mono l a i hi (by omega)
      obtain ⟨h2, h3⟩ := posAt_next l i (by omega)
      have h4 := posAt_step l i (by omega)
      have h5 := posAt_mono l (i + 1) b (by omega) hb
      have e : (subL l a b).drop (posAt l i - posAt l a) = (l.drop (posAt l i)).take (posAt l b - posAt l i) := by
        rw [subL_drop, show posAt l a + (posAt l i - posAt l a) = posAt l i by omega, show posAt l b - posAt l a - (posAt l i - posAt l a) = posAt l b - posAt l i by omega]
      have hd : decodeL ((subL l a b).drop (posAt l i - posAt l a)) = decodeL (l.drop (posAt l i)) := by
        rw [e]; exact decodeL_take _ _ (by omega)
      rw [runesAt _ _ (by rw [subL_len]; omega), hd, List.map_cons]
      have ih := runes_sub l a b hab hb f (i + 1) (by omega) (by omega) (by omega)
      rw [show posAt l i - posAt l a + (decodeL (l.drop (posAt l i))).2 = posAt l (i + 1) - posAt l a by omega, ih]
      rw [show b - i = (b - (i + 1)) + 1 by omega, List.range_succ_eq_map, List.map_cons, List.map_map]
      simp only [Nat.add_zero, List.cons.injEq, true_and]
      apply List.map_congr_left
      intro k _
      simp only [Function.comp_apply]
      congr 2; omega
    · obtain rfl : i = b := by omega
      rw [runesEnd _ _ (by rw [subL_len]; exact Nat.le_refl _)]; simp
theorem sub_runes (l : List UInt8) (a b : Nat) (hab : a ≤ b) (hb : b ≤ nR l) : (runesL (subL l a b)).map (·.1) = (List.range (b - a)).map fun k => posAt l (a + k) - posAt l a := by
  have := runes_sub l a b hab hb (b - a) a (Nat.le_refl _) (Nat.le_refl _) hab
  rw [Nat.sub_self, List.drop_zero] at this
  exact this
theorem sub_nR (l : List UInt8) (a b : Nat) (hab : a ≤ b) (hb : b ≤ nR l) : nR (subL l a b) = b - a := by
  have := congrArg List.length (sub_runes l a b hab hb)
  simpa [nR] using this
theorem sub_posAt (l : List UInt8) (a b : Nat) (hab : a ≤ b) (hb : b ≤ nR l) (i : Nat) (hi : i ≤ b - a) : posAt (subL l a b) i = posAt l (a + i) - posAt l a := by
  have hn := sub_nR l a b hab hb
  rcases Nat.lt_or_ge i (b - a) with h | h
  · have h1 := runes_get (subL l a b) i (by omega)
    have h2 : ((runesL (subL l a b)).map (·.1))[i]? = some (posAt (subL l a b) i) := by rw [List.getElem?_map, h1]; rfl
    rw [sub_runes l a b hab hb, List.getElem?_map, List.getElem?_range h] at h2
    exact (Option.some.inj h2).symm
  · obtain rfl : i = b - a := by omega
    have h1 := posAt_end (subL l a b)
    rw [hn, subL_len] at h1
    rw [h1, show a + (b - a) = b by omega]
theorem extract_list (s : ByteArray) (x y : Nat) (hy : y ≤ s.size) : (s.extract x y).data.toList = (s.data.toList.drop x).take (y - x) := by
  rw [ByteArray.data_extract, Array.toList_extract, List.extract_eq_take_drop]
/-- A piece of a piece. -/
theorem extract_sub (s : ByteArray) (a b x y : Nat) (hxy : x ≤ y) (hy : a + y ≤ b) (hb : b ≤ s.size) : (s.extract a b).extract x y = s.extract (a + x) (a + y) := by
  apply ByteArray.ext
  rw [ByteArray.data_extract, ByteArray.data_extract, ByteArray.data_extract, Array.extract_extract]
  congr 1; omega
/-- The piece's own runes and text. -/
theorem sub_text (s : ByteArray) (a b : Nat) (hb : b ≤ nR s.data.toList) : (s.extract (posAt s.data.toList a) (posAt s.data.toList b)).data.toList = subL s.data.toList a b := by
  have := posAt_le s.data.toList b
  rw [extract_list _ _ _ (by simpa using this)]; rfl

/-! ### Two texts with a blank between -/
end AnaP
end
section
namespace AnaP
open Go.Lib Go FoldP

/-! ### Where tokens lie -/
theorem tokOf_get (s : ByteArray) (cuts : List (Nat × Nat)) (i : Nat) (h : i < (tokOf s cuts).length) : (tokOf s cuts)[i] = tokAt s i (cuts[i]'(by rw [tokOf_len] at h; exact h)) := by
  simp [tokOf]
/-! ### A chain's last link -/
/-! ### Two texts with a blank between -/
end AnaP
end
section
set_option linter.unusedVariables false
namespace Go.Proofs.YtinmiekbhoemjaaGreatDoor.Ana
open Go.RowKit Go.Lib FoldP FoldInts Kit FoldForms FoldNext FoldIter AnaP Words Owned Tree

theorem OwnToks.base {ts : List TokD} {w0 w w' : World} {e : Ending} (h : OwnToks ts w e w') (hb : Below w0.heap.size w0 w) : OwnToks ts w0 e w' := by
  obtain ⟨v, h1, h2, h3⟩ := h
  exact ⟨v, h1, own_base h2 hb.size, hb.trans (h3.mono hb.size)⟩
theorem letters_any (s : ByteArray) (w : World) (hs : s.size ≤ 1099511627776) (hT : Tabs w) :
    Calls Tryz.prog 92 #[.string s] w (OwnToks (tokOf s (runIx mayF wordF (runeL s.data.toList) 0 none)) w) := by
  have hb0 : Below w.heap.size w (w.alloc (.cells #[.func (.func 111) #[] #[]] 125)) := (Below.refl _ _).alloc (Nat.le_refl _) _
  have HC := Lib.hid (runs_words s w.heap.size (w.alloc (.cells #[.func (.func 111) #[] #[]] 125)) hs (hT.next hb0) (by simp) ((Blk.new w 125 #[.func (.func 111) #[] #[]]).cell 0))
  have HB := Lib.hid hb0
  have hmf : ∀ (fn : Fn) (first cap : Array Value) (w : World), (Instr.makeFunc fn first cap).run Tryz.prog w = .ok (.func fn first cap) w := fun _ _ _ _ => rfl
  generalize tokOf s (runIx mayF wordF (runeL s.data.toList) 0 none) = R at *
  clear hb0 hT
  go_enter Tryz.func92, Tryz.ntmps92
  go_wp2_with fail
  refine HC.out.mono ?_
  rintro e w' h
  obtain ⟨v, rfl, h2, h3⟩ := h.base HB.out
  have H2 := Lib.hid h2; have H3 := Lib.hid h3
  clear h h2 h3
  go_wp2_with fail
  go_ret
  exact ⟨v, rfl, H2.out, H3.out⟩
theorem toks_1 (s : ByteArray) (w : World) (hs : s.size ≤ 1099511627776) (hT : Tabs w) :
    Calls Tryz.prog 75 #[.int .i64 1, .string s] w (OwnToks (tokensF 1 s) w) := by
  have HE : Hid (tokensF 1 s = tokOf s (runIx mayF wordF (runeL s.data.toList) 0 none)) := Lib.hid rfl
  have HC := Lib.hid (letters_any s w hs hT)
  rw [HE.out]
  generalize tokOf s (runIx mayF wordF (runeL s.data.toList) 0 none) = R at *
  clear hT
  go_enter Tryz.func75, Tryz.ntmps75
  go_wp2_with fail
  refine HC.out.mono ?_
  rintro e w' ⟨v, rfl, h2, h3⟩
  have H2 := Lib.hid h2; have H3 := Lib.hid h3
  clear h2 h3
  go_wp2_with fail
  go_ret
  exact ⟨v, rfl, H2.out, H3.out⟩
theorem toks_2 (s : ByteArray) (w : World) (hs : s.size ≤ 1099511627776) (hT : Tabs w) :
    Calls Tryz.prog 75 #[.int .i64 2, .string s] w (OwnToks (tokensF 2 s) w) := by
  have HE : Hid (tokensF 2 s = tokOf s (runIx solidF solidF (runeL s.data.toList) 0 none)) := Lib.hid rfl
  have HC := Lib.hid (runs_solid s w hs hT)
  rw [HE.out]
  generalize tokOf s (runIx solidF solidF (runeL s.data.toList) 0 none) = R at *
  clear hT
  go_enter Tryz.func75, Tryz.ntmps75
  go_wp2_with fail
  refine HC.out.mono ?_
  rintro e w' ⟨v, rfl, h2, h3⟩
  have H2 := Lib.hid h2; have H3 := Lib.hid h3
  clear h2 h3
  go_wp2_with fail
  go_ret
  exact ⟨v, rfl, H2.out, H3.out⟩
theorem toks_3 (s : ByteArray) (w : World) (hs : s.size ≤ 1099511627776) (hT : Tabs w) :
    Calls Tryz.prog 75 #[.int .i64 3, .string s] w (OwnToks (tokensF 3 s) w) := by
  have HE : Hid (tokensF 3 s = tokOf s (runIx anyF anyF (runeL s.data.toList) 0 none)) := Lib.hid (by rw [runIx_whole]; rfl)
  have HC := Lib.hid (runs_whole s w hs hT)
  rw [HE.out]
  generalize tokOf s (runIx anyF anyF (runeL s.data.toList) 0 none) = R at *
  clear hT
  go_enter Tryz.func75, Tryz.ntmps75
  go_wp2_with fail
  refine HC.out.mono ?_
  rintro e w' ⟨v, rfl, h2, h3⟩
  have H2 := Lib.hid h2; have H3 := Lib.hid h3
  clear h2 h3
  go_wp2_with fail
  go_ret
  exact ⟨v, rfl, H2.out, H3.out⟩
end Go.Proofs.YtinmiekbhoemjaaGreatDoor.Ana
end
section
set_option linter.unusedVariables false
namespace Go.Proofs.YtinmiekbhoemjaaGreatDoor.Ana
open Go.RowKit Go.Lib AnaP Words Tree Kit Owned

/-- Is the entry unlike those from k on, ahead of it, and are all behind it as asked? -/
def unlikeFrom (l : List Int) (i k : Nat) : Bool := ((List.range i).drop k).all (fun k => l.getD k 0 != l.getD i 0) && goodFrom l (i + 1)
theorem unlike_step {l : List Int} {i k : Nat} (h : k < i) : unlikeFrom l i k = (l.getD k 0 != l.getD i 0 && unlikeFrom l i (k + 1)) := by
  unfold unlikeFrom
  rw [List.drop_eq_getElem_cons (by simpa using h), List.all_cons, List.getElem_range, Bool.and_assoc]
theorem unlike_end (l : List Int) (i : Nat) : unlikeFrom l i i = goodFrom l (i + 1) := by
  unfold unlikeFrom
  rw [List.drop_eq_nil_of_le (by simp)]; rfl
theorem good_zero {l : List Int} {a : Int} (h : 0 < l.length) (ha : l.getD 0 0 = a) : goodFrom l 0 = (decide (1 ≤ a ∧ a ≤ 4) && goodFrom l 1) := by
  rw [goodFrom_step l 0 h]
  unfold goodAt
  rw [if_pos rfl, ha]; simp
theorem good_pos {l : List Int} {i : Nat} (h : i < l.length) (h0 : 0 < i) : goodFrom l i = (filterB (l.getD i 0) && unlikeFrom l i 0) := by
  rw [goodFrom_step l i h]
  unfold goodAt unlikeFrom
  rw [if_neg (by omega), List.drop_zero, Bool.and_assoc]
theorem refCheck_nil (ao : Option Addr) (c : Nat) (w : World) : Calls Tryz.prog 40 #[.slice ao 0 c] w (IntB 60 w) := by
  go_enter Tryz.func40, Tryz.ntmps40
  go_wp2_with fail
  go_ret
  exact ⟨rfl, Below.refl _ _⟩
set_option maxRecDepth 100000 in
set_option maxHeartbeats 1000000 in
theorem refCheck_long (ao : Option Addr) (n c : Nat) (w : World) (h1 : 8 < n) (hm : n ≤ 9223372036854775807) : Calls Tryz.prog 40 #[.slice ao n c] w (IntB 60 w) := by
  have a1 : ((n : Int) == 0) = false := by rw [beq_eq_false_iff_ne]; omega
  have a2 : decide ((8 : Int) < n) = true := by rw [decide_eq_true_iff]; omega
  go_enter Tryz.func40, Tryz.ntmps40
  go_wp2_with fail
  go_ret
  exact ⟨rfl, Below.refl _ _⟩
set_option maxRecDepth 100000 in
set_option maxHeartbeats 4000000 in
theorem refCheck_in (ad : Addr) (c : Nat) (l : List Int) (w : World) (h1 : 1 ≤ l.length) (h8 : l.length ≤ 8) (hk : Reads w w.heap.size 1 (some ad) l.length (intCells l)) :
    Calls Tryz.prog 40 #[.slice (some ad) l.length c] w (IntB (errOf (goodFrom l 0)) w) := by
  obtain ⟨r, hR⟩ : ∃ r, goodFrom l 0 = r := ⟨_, rfl⟩
  have HR := Lib.hid hR
  have a1 : ((l.length : Int) == 0) = false := by rw [beq_eq_false_iff_ne]; omega
  have a2 : decide ((8 : Int) < l.length) = false := by rw [decide_eq_false_iff_not]; omega
  have HK := Lib.hid hk
  rw [hR]
  clear hk hR
  go_enter Tryz.func40, Tryz.ntmps40
  go_wp2_with fail
  go_loopw [3, 4] (fun i _ wr => ∃ k : Nat, k ≤ l.length ∧ i = .int .i64 k ∧ Hid (goodFrom l k = r) ∧ Hid (Below w.heap.size w wr)) (fun i _ _ => l.length - (RowKit.intOf i).toNat)
  case atStart => exact ⟨0, by omega, rfl, HR, Lib.hid (Below.refl _ _)⟩
  case round =>
    obtain ⟨i, hi, rfl, HE, HW⟩ := hrel
    obtain ⟨wo, hwo⟩ : ∃ wo : World, wo = wr := ⟨_, rfl⟩
    by_cases hlt : i < l.length
    · obtain ⟨ad', he, hba, hc⟩ := reads_int HK.out rfl hlt
      cases he
      have hcw : wr.cell? (ad.add i) = some (.int .i64 l[i]) := (HW.out.cell (by rw [block_of_add]; exact hba)).trans hc
      have HX : Hid (l.getD i 0 = l[i]) := Lib.hid (by simp [hlt])
      clear hc
      generalize l[i] = x at *
      by_cases hi0 : i = 0
      · subst hi0
        have hcx : wr.cell? ad = some (.int .i64 x) := hcw
        have HG := Lib.hid (good_zero hlt HX.out)
        clear hcw
        by_cases hbad : x < 1 ∨ 4 < x
        · have HF : Hid (r = false) := Lib.hid (by rw [← HE.out, HG.out, decide_eq_false (by omega)]; rfl)
          rcases hbad with hb | hb
          · have a3 : decide (x < 1) = true := by rw [decide_eq_true_iff]; omega
            go_wp2_with fail
            go_ret
            rw [HF.out]
            exact ⟨rfl, HW.out⟩
          · have a3 : decide (x < 1) = false := by rw [decide_eq_false_iff_not]; omega
            have a4 : decide (4 < x) = true := by rw [decide_eq_true_iff]; omega
            go_wp2_with fail
            go_ret
            rw [HF.out]
            exact ⟨rfl, HW.out⟩
        · have a3 : decide (x < 1) = false := by rw [decide_eq_false_iff_not]; omega
          have a4 : decide (4 < x) = false := by rw [decide_eq_false_iff_not]; omega
          have HF : Hid (goodFrom l 1 = r) := Lib.hid (by rw [← HE.out, HG.out, decide_eq_true (by omega)]; rfl)
          clear hbad
          go_wp2_with fail
          go_loopw [4] (fun q wq => q = .int .i64 0 ∧ wq = wr) (fun _ _ => 0)
          case atStart => exact ⟨rfl, rfl⟩
          case round =>
            obtain ⟨rfl, rfl⟩ := hrel
            go_wp2_with fail
            go_roundw
            case rel => exact ⟨1, by omega, by go_num, HF, HW⟩
            case measure => simp [RowKit.intOf]; omega
      · have hi1 : 0 < i := by omega
        have a0 : ((i : Int) == 0) = false := by rw [beq_eq_false_iff_ne]; omega
        have a01 : decide ((0 : Int) < i) = true := by rw [decide_eq_true_iff]; omega
        have HG := Lib.hid (good_pos hlt hi1)
        cases hf : filterB x with
        | false =>
          have HC : Hid (∀ W, Calls Tryz.prog 55 #[.int .i64 x] W (PureB false W)) := Lib.hid (fun W => by rw [← hf]; exact filter_any x W)
          have HF : Hid (r = false) := Lib.hid (by rw [← HE.out, HG.out, HX.out, hf]; rfl)
          clear hf
          go_wp2_with fail
          refine (HC.out _).mono ?_
          rintro e w2 ⟨rfl, rfl⟩
          go_wp2_with fail
          go_ret
          rw [HF.out]
          exact ⟨rfl, HW.out⟩
        | true =>
          have HC : Hid (∀ W, Calls Tryz.prog 55 #[.int .i64 x] W (PureB true W)) := Lib.hid (fun W => by rw [← hf]; exact filter_any x W)
          have HF : Hid (unlikeFrom l i 0 = r) := Lib.hid (by rw [← HE.out, HG.out, HX.out, hf]; rfl)
          clear hf
          go_wp2_with fail
          refine (HC.out _).mono ?_
          rintro e w2 ⟨rfl, rfl⟩
          go_wp2_with fail
          clear hcw
          go_loopw [4] (fun q wq => ∃ k : Nat, k ≤ i ∧ q = .int .i64 k ∧ Hid (unlikeFrom l i k = r) ∧ Hid (Below w.heap.size w wq)) (fun q _ => i - (RowKit.intOf q).toNat)
          case atStart => exact ⟨0, by omega, rfl, HF, HW⟩
          case round =>
            obtain ⟨k, hk, rfl, HU, HB⟩ := hrel
            by_cases hlk : k < i
            · obtain ⟨ad', he, _, hcy⟩ := reads_int HK.out rfl (show k < l.length by omega)
              cases he
              obtain ⟨ad', he, _, hcx⟩ := reads_int HK.out rfl hlt
              cases he
              have hcy2 : wr.cell? (ad.add k) = some (.int .i64 l[k]) := (HB.out.cell (by rw [block_of_add]; exact hba)).trans hcy
              have hcx2 : wr.cell? (ad.add i) = some (.int .i64 x) := (HB.out.cell (by rw [block_of_add]; exact hba)).trans (by rw [hcx]; have := HX.out; simp [hlt] at this; rw [this])
              have HS := Lib.hid (unlike_step (l := l) hlk)
              have HY : Hid (l.getD k 0 = l[k]) := Lib.hid (by simp [show k < l.length by omega])
              have hx0 : (k : Int) < (l.length : Int) := by omega
              have hx1 : (i : Int) < (l.length : Int) := by omega
              clear hcy hcx
              generalize l[k] = y at *
              by_cases he : y = x
              · subst he
                have b1 : (y == y) = true := by simp
                have HF2 : Hid (r = false) := Lib.hid (by rw [← HU.out, HS.out, HX.out, HY.out]; simp)
                go_wp2_with fail
                go_quiet (fail)
                go_wp2_with fail
                go_ret
                rw [HF2.out]
                exact ⟨rfl, below_drewN HB.out _⟩
              · have b1 : (y == x) = false := by rw [beq_eq_false_iff_ne]; exact he
                have HF2 : Hid (unlikeFrom l i (k + 1) = r) := Lib.hid (by rw [← HU.out, HS.out, HX.out, HY.out, bne_iff_ne.2 he]; rfl)
                clear he
                go_wp2_with fail
                go_quiet (fail)
                go_wp2_with fail
                go_roundw
                case rel => exact ⟨k + 1, by omega, by go_num, HF2, Lib.hid (below_drewN HB.out _)⟩
                case measure => simp [RowKit.intOf]; omega
            · obtain rfl : k = i := by omega
              have HF2 : Hid (goodFrom l (k + 1) = r) := Lib.hid (by rw [← HU.out, unlike_end])
              go_wp2_with fail
              go_roundw
              case rel => exact ⟨k + 1, by omega, by go_num, HF2, HB⟩
              case measure => simp [RowKit.intOf]; omega
    · obtain rfl : i = l.length := by omega
      have HF : Hid (r = true) := Lib.hid (by rw [← HE.out, goodFrom_end _ _ (Nat.le_refl _)])
      go_wp2_with fail
      go_ret
      rw [HF.out]
      exact ⟨rfl, HW.out⟩
/-- THE DOCUMENT'S CHECK. -/
theorem refCheck_any (ao : Option Addr) (n c : Nat) (l : List Int) (w : World) (hn : n = l.length) (hk : Reads w w.heap.size 1 ao n (intCells l)) (hm : n ≤ maxLen) :
    Calls Tryz.prog 40 #[.slice ao n c] w (IntB (errOf (checkB l)) w) := by
  subst hn
  unfold maxLen at hm
  rcases (show l.length = 0 ∨ 8 < l.length ∨ (1 ≤ l.length ∧ l.length ≤ 8) by omega) with h1 | h1 | ⟨h1, h2⟩
  · rw [check_bad l (by omega), h1]; exact refCheck_nil ao c w
  · rw [check_bad l (by omega)]; exact refCheck_long ao _ c w h1 (by omega)
  · obtain ⟨ad, rfl, _, _⟩ := hk.2 (by omega)
    rw [← good_check l (by rintro rfl; simp at h1) h2]
    exact refCheck_in ad c l w h1 h2 hk
end Go.Proofs.YtinmiekbhoemjaaGreatDoor.Ana
end
section
namespace Go.Proofs.YtinmiekbhoemjaaGreatDoor.FoldAmong
open Go.RowKit FoldP FoldInts Kit

set_option maxHeartbeats 1000000 in
theorem refDigit_any (r : Int) (w : World) :
    Calls Tryz.prog 102 #[.int .i32 r] w (BoolBelow (digitF r) w) := by
  have hd := among_new r digits w 21 (by decide)
  have HD := Lib.hid hd; clear hd
  go_enter Tryz.func102, Tryz.ntmps102
  go_wp2_with fail
  refine HD.out.mono ?_
  rintro e w' ⟨rfl, rfl⟩
  go_wp2_with fail
  go_ret
  exact ⟨rfl, (Below.refl _ _).alloc (Nat.le_refl _) _⟩

set_option maxHeartbeats 1000000 in
theorem refLetter_any (r : Int) (w : World) :
    Calls Tryz.prog 101 #[.int .i32 r] w (BoolBelow (letterF r) w) := by
  have hd := among_new r letters w 21 (by decide)
  have HD := Lib.hid hd; clear hd
  go_enter Tryz.func101, Tryz.ntmps101
  go_wp2_with fail
  refine HD.out.mono ?_
  rintro e w' ⟨rfl, rfl⟩
  go_wp2_with fail
  go_ret
  exact ⟨rfl, (Below.refl _ _).alloc (Nat.le_refl _) _⟩

set_option maxHeartbeats 1000000 in
theorem refMark_any (r : Int) (w : World) :
    Calls Tryz.prog 83 #[.int .i32 r] w (BoolBelow (markF r) w) := by
  have hd := among_new r marks w 21 (by decide)
  have HD := Lib.hid hd; clear hd
  go_enter Tryz.func83, Tryz.ntmps83
  go_wp2_with fail
  refine HD.out.mono ?_
  rintro e w' ⟨rfl, rfl⟩
  go_wp2_with fail
  go_ret
  exact ⟨rfl, (Below.refl _ _).alloc (Nat.le_refl _) _⟩

end Go.Proofs.YtinmiekbhoemjaaGreatDoor.FoldAmong
end
