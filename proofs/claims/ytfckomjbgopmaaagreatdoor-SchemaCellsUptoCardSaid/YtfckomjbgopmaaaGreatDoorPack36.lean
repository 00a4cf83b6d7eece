/- A piece of a text is cut into runes as the text is; two texts with a blank between. Plain laws: where tokens lie, a chain's last link, two texts with a blank between. Contracts: 'letters', and 'tokens' at the tokenizers of one run a token. Contracts of the document's Letter, Digit and Mark. -/
import Derived.Test.YtfckomjbgopmaaaGreatDoorAnaRunP
import Derived.Test.YtfckomjbgopmaaaGreatDoorAnaRuns
import Derived.Test.YtfckomjbgopmaaaGreatDoorFoldAmong
section
namespace AnaP
open Go.Lib Go FoldP

/-! ### The decoder on a text that is cut short -/
def D2 (N b0 b1 : Nat) : Prop := b0 / 32 = 6 ∧ 1 < N ∧ b1 / 64 = 2 ∧ 128 ≤ b0 % 32 * 64 + b1 % 64
def ok3 (v : Nat) : Prop := v < 55296 ∨ (57344 ≤ v ∧ v ≤ 1114111)
def D3 (N b0 b1 b2 : Nat) : Prop := b0 / 16 = 14 ∧ 2 < N ∧ b1 / 64 = 2 ∧ b2 / 64 = 2 ∧ 2048 ≤ b0 % 16 * 4096 + b1 % 64 * 64 + b2 % 64 ∧ ok3 (b0 % 16 * 4096 + b1 % 64 * 64 + b2 % 64)
def D4 (N b0 b1 b2 b3 : Nat) : Prop := b0 / 8 = 30 ∧ 3 < N ∧ b1 / 64 = 2 ∧ b2 / 64 = 2 ∧ b3 / 64 = 2 ∧ 65536 ≤ b0 % 8 * 262144 + b1 % 64 * 4096 + b2 % 64 * 64 + b3 % 64 ∧ ok3 (b0 % 8 * 262144 + b1 % 64 * 4096 + b2 % 64 * 64 + b3 % 64)
theorem of_D1 {N b0 b1 b2 b3 : Nat} (h : b0 < 128) : decodeN N b0 b1 b2 b3 = (b0, 1) := by unfold decodeN; rw [if_pos h]
theorem of_D2 {N b0 b1 b2 b3 : Nat} (h : D2 N b0 b1) : decodeN N b0 b1 b2 b3 = (b0 % 32 * 64 + b1 % 64, 2) := by
  obtain ⟨h1, h2, h3, h4⟩ := h
  unfold decodeN; rw [if_neg (by omega), if_pos ⟨h1, h2, h3⟩, if_pos h4]
theorem of_D3 {N b0 b1 b2 b3 : Nat} (h : D3 N b0 b1 b2) : decodeN N b0 b1 b2 b3 = (b0 % 16 * 4096 + b1 % 64 * 64 + b2 % 64, 3) := by
  obtain ⟨h1, h2, h3, h4, h5, h6⟩ := h
  unfold decodeN; rw [if_neg (by omega), if_neg (by omega), if_pos ⟨h1, ⟨by omega, h3⟩, h2, h4⟩, if_pos ⟨h5, h6⟩]
theorem of_D4 {N b0 b1 b2 b3 : Nat} (h : D4 N b0 b1 b2 b3) : decodeN N b0 b1 b2 b3 = (b0 % 8 * 262144 + b1 % 64 * 4096 + b2 % 64 * 64 + b3 % 64, 4) := by
  obtain ⟨h1, h2, h3, h4, h5, h6, h7⟩ := h
  unfold decodeN; rw [if_neg (by omega), if_neg (by omega), if_neg (by omega), if_pos ⟨h1, ⟨by omega, h3⟩, ⟨by omega, h4⟩, h2, h5⟩, if_pos ⟨h6, h7⟩]
theorem of_D0 {N b0 b1 b2 b3 : Nat} (h : 128 ≤ b0) (h2 : ¬ D2 N b0 b1) (h3 : ¬ D3 N b0 b1 b2) (h4 : ¬ D4 N b0 b1 b2 b3) : decodeN N b0 b1 b2 b3 = (65533, 1) := by
  unfold decodeN; rw [if_neg (by omega)]
  by_cases c2 : b0 / 32 = 6 ∧ (1 < N ∧ b1 / 64 = 2)
  · rw [if_pos c2, if_neg (fun e => h2 ⟨c2.1, c2.2.1, c2.2.2, e⟩)]
  · rw [if_neg c2]
    by_cases c3 : b0 / 16 = 14 ∧ (1 < N ∧ b1 / 64 = 2) ∧ (2 < N ∧ b2 / 64 = 2)
    · rw [if_pos c3, if_neg (fun e => h3 ⟨c3.1, c3.2.2.1, c3.2.1.2, c3.2.2.2, e.1, e.2⟩)]
    · rw [if_neg c3]
      by_cases c4 : b0 / 8 = 30 ∧ (1 < N ∧ b1 / 64 = 2) ∧ (2 < N ∧ b2 / 64 = 2) ∧ (3 < N ∧ b3 / 64 = 2)
      · rw [if_pos c4, if_neg (fun e => h4 ⟨c4.1, c4.2.2.2.1, c4.2.1.2, c4.2.2.1.2, c4.2.2.2.2, e.1, e.2⟩)]
      · rw [if_neg c4]
/-- Two readings are one where the forms are. -/
theorem decodeN_same {N M b0 b1 b2 b3 c1 c2 c3 : Nat} (h2 : D2 N b0 b1 → D2 M b0 c1 ∧ b1 = c1) (h3 : D3 N b0 b1 b2 → D3 M b0 c1 c2 ∧ b1 = c1 ∧ b2 = c2) (h4 : D4 N b0 b1 b2 b3 → D4 M b0 c1 c2 c3 ∧ b1 = c1 ∧ b2 = c2 ∧ b3 = c3)
    (k2 : D2 M b0 c1 → D2 N b0 b1) (k3 : D3 M b0 c1 c2 → D3 N b0 b1 b2) (k4 : D4 M b0 c1 c2 c3 → D4 N b0 b1 b2 b3) : decodeN N b0 b1 b2 b3 = decodeN M b0 c1 c2 c3 := by
  by_cases a1 : b0 < 128
  · rw [of_D1 a1, of_D1 a1]
  · by_cases a2 : D2 N b0 b1
    · obtain ⟨e, rfl⟩ := h2 a2
      rw [of_D2 a2, of_D2 e]
    · by_cases a3 : D3 N b0 b1 b2
      · obtain ⟨e, rfl, rfl⟩ := h3 a3
        rw [of_D3 a3, of_D3 e]
      · by_cases a4 : D4 N b0 b1 b2 b3
        · obtain ⟨e, rfl, rfl, rfl⟩ := h4 a4
          rw [of_D4 a4, of_D4 e]
        · rw [of_D0 (by omega) a2 a3 a4, of_D0 (by omega) (fun h => a2 (k2 h)) (fun h => a3 (k3 h)) (fun h => a4 (k4 h))]
theorem decodeN_cut (N M n b0 b1 b2 b3 c1 c2 c3 : Nat) (hM : M = min n N) (e1 : 1 < n → c1 = b1) (e2 : 2 < n → c2 = b2) (e3 : 3 < n → c3 = b3) (h : (decodeN N b0 b1 b2 b3).2 ≤ n) : decodeN M b0 c1 c2 c3 = decodeN N b0 b1 b2 b3 := by
  refine (decodeN_same (fun a => ?_) (fun a => ?_) (fun a => ?_) (fun a => ?_) (fun a => ?_) (fun a => ?_)).symm
  · rw [of_D2 a] at h
    obtain rfl := e1 h
    unfold D2 at *; exact ⟨⟨a.1, by have := a.2.1; dsimp only at h; omega, a.2.2⟩, rfl⟩
  · rw [of_D3 a] at h
    dsimp only at h
    obtain rfl := e1 (by omega)
    obtain rfl := e2 (by omega)
    unfold D3 at *; exact ⟨⟨a.1, by have := a.2.1; omega, a.2.2⟩, rfl, rfl⟩
  · rw [of_D4 a] at h
    dsimp only at h
    obtain rfl := e1 (by omega)
    obtain rfl := e2 (by omega)
    obtain rfl := e3 (by omega)
    unfold D4 at *; exact ⟨⟨a.1, by have := a.2.1; omega, a.2.2⟩, rfl, rfl, rfl⟩
  · have := a.2.1
    obtain rfl := e1 (by omega)
    exact ⟨a.1, by omega, a.2.2⟩
  · have := a.2.1
    obtain rfl := e1 (by omega)
    obtain rfl := e2 (by omega)
    exact ⟨a.1, by omega, a.2.2⟩
  · have := a.2.1
    obtain rfl := e1 (by omega)
    obtain rfl := e2 (by omega)
    obtain rfl := e3 (by omega)
    exact ⟨a.1, by omega, a.2.2⟩
theorem getD_take_lt {l : List UInt8} {n i : Nat} (h : i < n) : (l.take n).getD i 0 = l.getD i 0 := by
  rw [List.getD_eq_getElem?_getD, List.getD_eq_getElem?_getD, List.getElem?_take, if_pos h]
theorem decodeL_take (l : List UInt8) (n : Nat) (hn : (decodeL l).2 ≤ n) : decodeL (l.take n) = decodeL l := by
  have h1 := decodeL_width l
  have h0 : 0 < n := Nat.lt_of_lt_of_le h1 hn
  rw [decodeL_N] at hn
  rw [decodeL_N (l.take n), decodeL_N l, List.length_take, getD_take_lt h0]
  exact decodeN_cut _ _ n _ _ _ _ _ _ _ rfl (fun h => by rw [getD_take_lt h]) (fun h => by rw [getD_take_lt h]) (fun h => by rw [getD_take_lt h]) hn

/-! ### The runes of a piece -/
/-- A piece of a text, between two of its runes. -/
def subL (l : List UInt8) (a b : Nat) : List UInt8 := (l.drop (posAt l a)).take (posAt l b - posAt l a)
theorem subL_len (l : List UInt8) (a b : Nat) : (subL l a b).length = posAt l b - posAt l a := by
  have := posAt_le l b
  simp [subL]; omega
theorem subL_drop (l : List UInt8) (a b k : Nat) : (subL l a b).drop k = (l.drop (posAt l a + k)).take (posAt l b - posAt l a - k) := by
  unfold subL; rw [List.drop_take, List.drop_drop]
/-- What is left of a piece, from its rune i on. -/
theorem runes_sub (l : List UInt8) (a b : Nat) (hab : a ≤ b) (hb : b ≤ nR l) : ∀ (f i : Nat), b - i ≤ f → a ≤ i → i ≤ b →
    (runesFrom (posAt l i - posAt l a) ((subL l a b).drop (posAt l i - posAt l a))).map (·.1) = ((List.range (b - i)).map fun k => posAt l (i + k) - posAt l a)
  | 0, i, hf, hi, hib => by
    obtain rfl : i = b := by omega
    rw [runesEnd _ _ (by rw [subL_len]; exact Nat.le_refl _)]; simp
  | f + 1, i, hf, hi, hib => by
    rcases Nat.lt_or_ge i b with h | h
    · have h1 := posAt_mono l a i hi (by omega)
      obtain ⟨h2, h3⟩ := posAt_next l i (by omega)
      have h4 := posAt_step l i (by omega)
      have h5 := posAt_mono l (i + 1) b (by omega) hb
      have e : (subL l a b).drop (posAt l i - posAt l a) = (l.drop (posAt l i)).take (posAt l b - posAt l i) := by
        rw [subL_drop, show posAt l a + (posAt l i - posAt l a) = posAt l i by omega, show posAt l b - posAt l a - (posAt l i - posAt l a) = posAt l b - posAt l i by omega]
      have hd : decodeL ((subL l a b).drop (posAt l i - posAt l a)) = decodeL (l.drop (posAt l i)) := by
        rw [e]; exact decodeL_take _ _ (by omega)
      rw [runesAt _ _ (by rw [subL_len]; omega), hd, List.map_cons]
      have ih := runes_sub l a b hab hb f (i + 1) (by omega) (by omega) (by omega)
      rw [show posAt l i - posAt l a + (decodeL (l.drop (posAt l i))).2 = posAt l (i + 1) - posAt l a by omega, ih]
      rw [show b - i = (b - (i + 1)) + 1 by omega, List.range_succ_eq_map, List.map_cons, List.map_map]
      simp only [Nat.add_zero, List.cons.injEq, true_and]
      apply List.map_congr_left
      intro k _
      simp only [Function.comp_apply]
      congr 2; omega
    · obtain rfl : i = b := by omega
      rw [runesEnd _ _ (by rw [subL_len]; exact Nat.le_refl _)]; simp
theorem sub_runes (l : List UInt8) (a b : Nat) (hab : a ≤ b) (hb : b ≤ nR l) : (runesL (subL l a b)).map (·.1) = (List.range (b - a)).map fun k => posAt l (a + k) - posAt l a := by
  have := runes_sub l a b hab hb (b - a) a (Nat.le_refl _) (Nat.le_refl _) hab
  rw [Nat.sub_self, List.drop_zero] at this
  exact this
theorem sub_nR (l : List UInt8) (a b : Nat) (hab : a ≤ b) (hb : b ≤ nR l) : nR (subL l a b) = b - a := by
  have := congrArg List.length (sub_runes l a b hab hb)
  simpa [nR] using this
theorem sub_posAt (l : List UInt8) (a b : Nat) (hab : a ≤ b) (hb : b ≤ nR l) (i : Nat) (hi : i ≤ b - a) : posAt (subL l a b) i = posAt l (a + i) - posAt l a := by
  have hn := sub_nR l a b hab hb
  rcases Nat.lt_or_ge i (b - a) with h | h
  · have h1 := runes_get (subL l a b) i (by omega)
    have h2 : ((runesL (subL l a b)).map (·.1))[i]? = some (posAt (subL l a b) i) := by rw [List.getElem?_map, h1]; rfl
    rw [sub_runes l a b hab hb, List.getElem?_map, List.getElem?_range h] at h2
    exact (Option.some.inj h2).symm
  · obtain rfl : i = b - a := by omega
    have h1 := posAt_end (subL l a b)
    rw [hn, subL_len] at h1
    rw [h1, show a + (b - a) = b by omega]
theorem extract_list (s : ByteArray) (x y : Nat) (hy : y ≤ s.size) : (s.extract x y).data.toList = (s.data.toList.drop x).take (y - x) := by
  rw [ByteArray.data_extract, Array.toList_extract, List.extract_eq_take_drop]
/-- A piece of a piece. -/
theorem extract_sub (s : ByteArray) (a b x y : Nat) (hxy : x ≤ y) (hy : a + y ≤ b) (hb : b ≤ s.size) : (s.extract a b).extract x y = s.extract (a + x) (a + y) := by
  apply ByteArray.ext
  rw [ByteArray.data_extract, ByteArray.data_extract, ByteArray.data_extract, Array.extract_extract]
  congr 1; omega
/-- The piece's own runes and text. -/
theorem sub_text (s : ByteArray) (a b : Nat) (hb : b ≤ nR s.data.toList) : (s.extract (posAt s.data.toList a) (posAt s.data.toList b)).data.toList = subL s.data.toList a b := by
  have := posAt_le s.data.toList b
  rw [extract_list _ _ _ (by simpa using this)]; rfl

/-! ### Two texts with a blank between -/
end AnaP
end
section
namespace AnaP
open Go.Lib Go FoldP

/-! ### Where tokens lie -/
theorem tokOf_get (s : ByteArray) (cuts : List (Nat × Nat)) (i : Nat) (h : i < (tokOf s cuts).length) : (tokOf s cuts)[i] = tokAt s i (cuts[i]'(by rw [tokOf_len] at h; exact h)) := by
  simp [tokOf]
theorem linkAll_cases : ∀ (ns : List Int) (t : List TokD), (linkAll ns t).2 = 0 ∨ linkAll ns t = ([], 84)
  | [], t => .inl rfl
  | n :: ns, t => by
    unfold linkAll
    split
    · exact .inr rfl
    · exact linkAll_cases ns _
theorem linkAll_all {p : List TokD → Prop} (hp : ∀ n l ts, p l → linkF n l = some ts → p ts) : ∀ (ns : List Int) (t : List TokD), p t → (linkAll ns t).2 = 0 → p (linkAll ns t).1
  | [], t, h, _ => h
  | n :: ns, t, h, e => by
    unfold linkAll at e ⊢
    split at e
    · cases e
    · rename_i t' he
      exact linkAll_all hp ns _ (hp n t t' h he) e
theorem runF_cases (c : List Int) (s : ByteArray) : (runF c s).2 = 0 ∨ (runF c s).1 = [] := by
  unfold runF
  split
  · exact .inr rfl
  · split
    · exact .inr rfl
    · split
      · exact .inr rfl
      · rcases linkAll_cases c.tail (tokensF (c.getD 0 0) s) with h | h
        · exact .inl h
        · rw [h]; exact .inr rfl
theorem runF_all {p : List TokD → Prop} (hp : ∀ n l ts, p l → linkF n l = some ts → p ts) (c : List Int) (s : ByteArray) (h0 : s.size ≤ 4096 → (tokensF (c.getD 0 0) s).length ≤ 4096 → p (tokensF (c.getD 0 0) s)) (e : (runF c s).2 = 0) : p (runF c s).1 := by
  unfold runF at e ⊢
  split at e
  · cases e
  · split at e
    · cases e
    · split at e
      · cases e
      · rename_i h1 h2 h3
        rw [if_neg h1, if_neg h2, if_neg h3]
        exact linkAll_all hp _ _ (h0 (by omega) (by omega)) e
theorem runF_len (c : List Int) (s : ByteArray) : (runF c s).1.length ≤ 4096 := by
  rcases runF_cases c s with h | h
  · exact runF_all (p := fun l => l.length ≤ 4096) (fun n l ts _ e => linkF_len4 e) c s (fun _ h => h) h
  · rw [h]; simp
/-! ### A chain's last link -/
/-! ### Two texts with a blank between -/
end AnaP
end
section
set_option linter.unusedVariables false
namespace Go.Proofs.YtfckomjbgopmaaaGreatDoor.Ana
open Go.RowKit Go.Lib FoldP FoldInts Kit FoldForms FoldNext FoldIter AnaP Words Owned Tree

theorem OwnToks.base {ts : List TokD} {w0 w w' : World} {e : Ending} (h : OwnToks ts w e w') (hb : Below w0.heap.size w0 w) : OwnToks ts w0 e w' := by
  obtain ⟨v, h1, h2, h3⟩ := h
  exact ⟨v, h1, own_base h2 hb.size, hb.trans (h3.mono hb.size)⟩
theorem letters_any (s : ByteArray) (w : World) (hs : s.size ≤ 1099511627776) (hT : Tabs w) :
    Calls Tryz.prog 88 #[.string s] w (OwnToks (tokOf s (runIx mayF wordF (runeL s.data.toList) 0 none)) w) := by
  have hb0 : Below w.heap.size w (w.alloc (.cells #[.func (.func 116) #[] #[]] 139)) := (Below.refl _ _).alloc (Nat.le_refl _) _
  have HC := Lib.hid (runs_words s w.heap.size (w.alloc (.cells #[.func (.func 116) #[] #[]] 139)) hs (hT.next hb0) (by simp) ((Blk.new w 139 #[.func (.func 116) #[] #[]]).cell 0))
  have HB := Lib.hid hb0
  have hmf : ∀ (fn : Fn) (first cap : Array Value) (w : World), (Instr.makeFunc fn first cap).run Tryz.prog w = .ok (.func fn first cap) w := fun _ _ _ _ => rfl
  generalize tokOf s (runIx mayF wordF (runeL s.data.toList) 0 none) = R at *
  clear hb0 hT
  go_enter Tryz.func88, Tryz.ntmps88
  go_wp2_with fail
  refine HC.out.mono ?_
  rintro e w' h
  obtain ⟨v, rfl, h2, h3⟩ := h.base HB.out
  have H2 := Lib.hid h2; have H3 := Lib.hid h3
  clear h h2 h3
  go_wp2_with fail
  go_ret
  exact ⟨v, rfl, H2.out, H3.out⟩
theorem toks_1 (s : ByteArray) (w : World) (hs : s.size ≤ 1099511627776) (hT : Tabs w) :
    Calls Tryz.prog 66 #[.int .i64 1, .string s] w (OwnToks (tokensF 1 s) w) := by
  have HE : Hid (tokensF 1 s = tokOf s (runIx mayF wordF (runeL s.data.toList) 0 none)) := Lib.hid rfl
  have HC := Lib.hid (letters_any s w hs hT)
  rw [HE.out]
  generalize tokOf s (runIx mayF wordF (runeL s.data.toList) 0 none) = R at *
  clear hT
  go_enter Tryz.func66, Tryz.ntmps66
  go_wp2_with fail
  refine HC.out.mono ?_
  rintro e w' ⟨v, rfl, h2, h3⟩
  have H2 := Lib.hid h2; have H3 := Lib.hid h3
  clear h2 h3
  go_wp2_with fail
  go_ret
  exact ⟨v, rfl, H2.out, H3.out⟩
theorem toks_2 (s : ByteArray) (w : World) (hs : s.size ≤ 1099511627776) (hT : Tabs w) :
    Calls Tryz.prog 66 #[.int .i64 2, .string s] w (OwnToks (tokensF 2 s) w) := by
  have HE : Hid (tokensF 2 s = tokOf s (runIx solidF solidF (runeL s.data.toList) 0 none)) := Lib.hid rfl
  have HC := Lib.hid (runs_solid s w hs hT)
  rw [HE.out]
  generalize tokOf s (runIx solidF solidF (runeL s.data.toList) 0 none) = R at *
  clear hT
  go_enter Tryz.func66, Tryz.ntmps66
  go_wp2_with fail
  refine HC.out.mono ?_
  rintro e w' ⟨v, rfl, h2, h3⟩
  have H2 := Lib.hid h2; have H3 := Lib.hid h3
  clear h2 h3
  go_wp2_with fail
  go_ret
  exact ⟨v, rfl, H2.out, H3.out⟩
theorem toks_3 (s : ByteArray) (w : World) (hs : s.size ≤ 1099511627776) (hT : Tabs w) :
    Calls Tryz.prog 66 #[.int .i64 3, .string s] w (OwnToks (tokensF 3 s) w) := by
  have HE : Hid (tokensF 3 s = tokOf s (runIx anyF anyF (runeL s.data.toList) 0 none)) := Lib.hid (by rw [runIx_whole]; rfl)
  have HC := Lib.hid (runs_whole s w hs hT)
  rw [HE.out]
  generalize tokOf s (runIx anyF anyF (runeL s.data.toList) 0 none) = R at *
  clear hT
  go_enter Tryz.func66, Tryz.ntmps66
  go_wp2_with fail
  refine HC.out.mono ?_
  rintro e w' ⟨v, rfl, h2, h3⟩
  have H2 := Lib.hid h2; have H3 := Lib.hid h3
  clear h2 h3
  go_wp2_with fail
  go_ret
  exact ⟨v, rfl, H2.out, H3.out⟩
end Go.Proofs.YtfckomjbgopmaaaGreatDoor.Ana
end
section
namespace Go.Proofs.YtfckomjbgopmaaaGreatDoor.FoldAmong
open Go.RowKit FoldP FoldInts Kit

set_option maxHeartbeats 1000000 in
theorem refDigit_any (r : Int) (w : World) :
    Calls Tryz.prog 151 #[.int .i32 r] w (BoolBelow (digitF r) w) := by
  have hd := among_new r digits w 21 (by decide)
  have HD := Lib.hid hd; clear hd
  go_enter Tryz.func151, Tryz.ntmps151
  go_wp2_with fail
  refine HD.out.mono ?_
  rintro e w' ⟨rfl, rfl⟩
  go_wp2_with fail
  go_ret
  exact ⟨rfl, (Below.refl _ _).alloc (Nat.le_refl _) _⟩

set_option maxHeartbeats 1000000 in
theorem refLetter_any (r : Int) (w : World) :
    Calls Tryz.prog 150 #[.int .i32 r] w (BoolBelow (letterF r) w) := by
  have hd := among_new r letters w 21 (by decide)
  have HD := Lib.hid hd; clear hd
  go_enter Tryz.func150, Tryz.ntmps150
  go_wp2_with fail
  refine HD.out.mono ?_
  rintro e w' ⟨rfl, rfl⟩
  go_wp2_with fail
  go_ret
  exact ⟨rfl, (Below.refl _ _).alloc (Nat.le_refl _) _⟩

set_option maxHeartbeats 1000000 in
theorem refMark_any (r : Int) (w : World) :
    Calls Tryz.prog 128 #[.int .i32 r] w (BoolBelow (markF r) w) := by
  have hd := among_new r marks w 21 (by decide)
  have HD := Lib.hid hd; clear hd
  go_enter Tryz.func128, Tryz.ntmps128
  go_wp2_with fail
  refine HD.out.mono ?_
  rintro e w' ⟨rfl, rfl⟩
  go_wp2_with fail
  go_ret
  exact ⟨rfl, (Below.refl _ _).alloc (Nat.le_refl _) _⟩

end Go.Proofs.YtfckomjbgopmaaaGreatDoor.FoldAmong
end
