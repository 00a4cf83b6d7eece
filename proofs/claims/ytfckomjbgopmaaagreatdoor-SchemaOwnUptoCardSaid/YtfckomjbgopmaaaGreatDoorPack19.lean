/- A piece of a text is cut into runes as the text is; two texts with a blank between. Plain laws: where tokens lie, a chain's last link, two texts with a blank between. A field's tokens, in plain Lean: one value's behind the other's, with a gap. Contracts: rows of tokens compared, lent and kept. -/
import Derived.Test.YtfckomjbgopmaaaGreatDoorPack6
import Derived.Test.YtfckomjbgopmaaaGreatDoorPack7
import Derived.Test.YtfckomjbgopmaaaGreatDoorProg
import Derived.Test.YtfckomjbgopmaaaGreatDoorPack5
import Derived.Test.YtfckomjbgopmaaaGreatDoorPack2
import Derived.Test.YtfckomjbgopmaaaGreatDoorPack4
import Derived.Deep.QuietTactic
import Derived.BigQuiet
import Derived.LoopTactic
import Derived.Laws.StructEq
section
namespace AnaP
open Go.Lib Go FoldP

/-! ### The decoder on a text that is cut short -/
def D2 (N b0 b1 : Nat) : Prop := b0 / 32 = 6 ∧ 1 < N ∧ b1 / 64 = 2 ∧ 128 ≤ b0 % 32 * 64 + b1 % 64
def ok3 (v : Nat) : Prop := v < 55296 ∨ (57344 ≤ v ∧ v ≤ 1114111)
def D3 (N b0 b1 b2 : Nat) : Prop := b0 / 16 = 14 ∧ 2 < N ∧ b1 / 64 = 2 ∧ b2 / 64 = 2 ∧ 2048 ≤ b0 % 16 * 4096 + b1 % 64 * 64 + b2 % 64 ∧ ok3 (b0 % 16 * 4096 + b1 % 64 * 64 + b2 % 64)
def D4 (N b0 b1 b2 b3 : Nat) : Prop := b0 / 8 = 30 ∧ 3 < N ∧ b1 / 64 = 2 ∧ b2 / 64 = 2 ∧ b3 / 64 = 2 ∧ 65536 ≤ b0 % 8 * 262144 + b1 % 64 * 4096 + b2 % 64 * 64 + b3 % 64 ∧ ok3 (b0 % 8 * 262144 + b1 % 64 * 4096 + b2 % 64 * 64 + b3 % 64)
theorem of_D1 {N b0 b1 b2 b3 : Nat} (h : b0 < 128) : decodeN N b0 b1 b2 b3 = (b0, 1) := by unfold decodeN; rw [if_pos h]
theorem of_D2 {N b0 b1 b2 b3 : Nat} (h : D2 N b0 b1) : decodeN N b0 b1 b2 b3 = (b0 % 32 * 64 + b1 % 64, 2) := by
  obtain ⟨h1, h2, h3, h4⟩ := h
  unfold decodeN; rw [if_neg (by omega), if_pos ⟨h1, h2, h3⟩, if_pos h4]
theorem of_D3 {N b0 b1 b2 b3 : Nat} (h : D3 N b0 b1 b2) : decodeN N b0 b1 b2 b3 = (b0 % 16 * 4096 + b1 % 64 * 64 + b2 % 64, 3) := by
  obtain ⟨h1, h2, h3, h4, h5, h6⟩ := h
  unfold decodeN; rw [if_neg (by omega), if_neg (by omega), if_pos ⟨h1, ⟨by omega, h3⟩, h2, h4⟩, if_pos ⟨h5, h6⟩]
theorem of_D4 {N b0 b1 b2 b3 : Nat} (h : D4 N b0 b1 b2 b3) : decodeN N b0 b1 b2 b3 = (b0 % 8 * 262144 + b1 % 64 * 4096 + b2 % 64 * 64 + b3 % 64, 4) := by
  obtain ⟨h1, h2, h3, h4, h5, h6, h7⟩ := h
  unfold decodeN; rw [if_neg (by omega), if_neg (by omega), if_neg (by omega), if_pos ⟨h1, ⟨by omega, h3⟩, ⟨by omega, h4⟩, h2, h5⟩, if_pos ⟨h6, h7⟩]
theorem of_D0 {N b0 b1 b2 b3 : Nat} (h : 128 ≤ b0) (h2 : ¬ D2 N b0 b1) (h3 : ¬ D3 N b0 b1 b2) (h4 : ¬ D4 N b0 b1 b2 b3) : decodeN N b0 b1 b2 b3 = (65533, 1) := by
  unfold decodeN; rw [if_neg (by omega)]
  by_cases c2 : b0 / 32 = 6 ∧ (1 < N ∧ b1 / 64 = 2)
  · rw [if_pos c2, if_neg (fun e => h2 ⟨c2.1, c2.2.1, c2.2.2, e⟩)]
  · rw [if_neg c2]
    by_cases c3 : b0 / 16 = 14 ∧ (1 < N ∧ b1 / 64 = 2) ∧ (2 < N ∧ b2 / 64 = 2)
    · rw [if_pos c3, if_neg (fun e => h3 ⟨c3.1, c3.2.2.1, c3.2.1.2, c3.2.2.2, e.1, e.2⟩)]
    · rw [if_neg c3]
      by_cases c4 : b0 / 8 = 30 ∧ (1 < N ∧ b1 / 64 = 2) ∧ (2 < N ∧ b2 / 64 = 2) ∧ (3 < N ∧ b3 / 64 = 2)
      · rw [if_pos c4, if_neg (fun e => h4 ⟨c4.1, c4.2.2.2.1, c4.2.1.2, c4.2.2.1.2, c4.2.2.2.2, e.1, e.2⟩)]
      · rw [if_neg c4]
/-- Two readings are one where the forms are. -/
theorem decodeN_same {N M b0 b1 b2 b3 c1 c2 c3 : Nat} (h2 : D2 N b0 b1 → D2 M b0 c1 ∧ b1 = c1) (h3 : D3 N b0 b1 b2 → D3 M b0 c1 c2 ∧ b1 = c1 ∧ b2 = c2) (h4 : D4 N b0 b1 b2 b3 → D4 M b0 c1 c2 c3 ∧ b1 = c1 ∧ b2 = c2 ∧ b3 = c3)
    (k2 : D2 M b0 c1 → D2 N b0 b1) (k3 : D3 M b0 c1 c2 → D3 N b0 b1 b2) (k4 : D4 M b0 c1 c2 c3 → D4 N b0 b1 b2 b3) : decodeN N b0 b1 b2 b3 = decodeN M b0 c1 c2 c3 := by
  by_cases a1 : b0 < 128
  · rw [of_D1 a1, of_D1 a1]
  · by_cases a2 : D2 N b0 b1
    · obtain ⟨e, rfl⟩ := h2 a2
      rw [of_D2 a2, of_D2 e]
    · by_cases a3 : D3 N b0 b1 b2
      · obtain ⟨e, rfl, rfl⟩ := h3 a3
        rw [of_D3 a3, of_D3 e]
      · by_cases a4 : D4 N b0 b1 b2 b3
        · obtain ⟨e, rfl, rfl, rfl⟩ := h4 a4
          rw [of_D4 a4, of_D4 e]
        · rw [of_D0 (by omega) a2 a3 a4, of_D0 (by omega) (fun h => a2 (k2 h)) (fun h => a3 (k3 h)) (fun h => a4 (k4 h))]
theorem decodeN_cut (N M n b0 b1 b2 b3 c1 c2 c3 : Nat) (hM : M = min n N) (e1 : 1 < n → c1 = b1) (e2 : 2 < n → c2 = b2) (e3 : 3 < n → c3 = b3) (h : (decodeN N b0 b1 b2 b3).2 ≤ n) : decodeN M b0 c1 c2 c3 = decodeN N b0 b1 b2 b3 := by
  refine (decodeN_same (fun a => ?_) (fun a => ?_) (fun a => ?_) (fun a => ?_) (fun a => ?_) (fun a => ?_)).symm
  · rw [of_D2 a] at h
    obtain rfl := e1 h
    unfold D2 at *; exact ⟨⟨a.1, by have := a.2.1; dsimp only at h; omega, a.2.2⟩, rfl⟩
  · rw [of_D3 a] at h
    dsimp only at h
    obtain rfl := e1 (by omega)
    obtain rfl := e2 (by omega)
    unfold D3 at *; exact ⟨⟨a.1, by have := a.2.1; omega, a.2.2⟩, rfl, rfl⟩
  · rw [of_D4 a] at h
    dsimp only at h
    obtain rfl := e1 (by omega)
    obtain rfl := e2 (by omega)
    obtain rfl := e3 (by omega)
    unfold D4 at *; exact ⟨⟨a.1, by have := a.2.1; omega, a.2.2⟩, rfl, rfl, rfl⟩
  · have := a.2.1
    obtain rfl := e1 (by omega)
    exact ⟨a.1, by omega, a.2.2⟩
  · have := a.2.1
    obtain rfl := e1 (by omega)
    obtain rfl := e2 (by omega)
    exact ⟨a.1, by omega, a.2.2⟩
  · have := a.2.1
    obtain rfl := e1 (by omega)
    obtain rfl := e2 (by omega)
    obtain rfl := e3 (by omega)
    exact ⟨a.1, by omega, a.2.2⟩
theorem getD_take_lt {l : List UInt8} {n i : Nat} (h : i < n) : (l.take n).getD i 0 = l.getD i 0 := by
  rw [List.getD_eq_getElem?_getD, List.getD_eq_getElem?_getD, List.getElem?_take, if_pos h]
theorem decodeL_take (l : List UInt8) (n : Nat) (hn : (decodeL l).2 ≤ n) : decodeL (l.take n) = decodeL l := by
  have h1 := decodeL_width l
  have h0 : 0 < n := Nat.lt_of_lt_of_le h1 hn
  rw [decodeL_N] at hn
  rw [decodeL_N (l.take n), decodeL_N l, List.length_take, getD_take_lt h0]
  exact decodeN_cut _ _ n _ _ _ _ _ _ _ rfl (fun h => by rw [getD_take_lt h]) (fun h => by rw [getD_take_lt h]) (fun h => by rw [getD_take_lt h]) hn

/-! ### The runes of a piece -/
/-- A piece of a text, between two of its runes. -/
def subL (l : List UInt8) (a b : Nat) : List UInt8 := (l.drop (posAt l a)).take (posAt l b - posAt l a)
theorem subL_len (l : List UInt8) (a b : Nat) : (subL l a b).length = posAt l b - posAt l a := by
  have := posAt_le l b
  simp [subL]; omega
theorem subL_drop (l : List UInt8) (a b k : Nat) : (subL l a b).drop k = (l.drop (posAt l a + k)).take (posAt l b - posAt l a - k) := by
  unfold subL; rw [List.drop_take, List.drop_drop]
/-- What is left of a piece, from its rune i on. -/
theorem runes_sub (l : List UInt8) (a b : Nat) (hab : a ≤ b) (hb : b ≤ nR l) : ∀ (f i : Nat), b - i ≤ f → a ≤ i → i ≤ b →
    (runesFrom (posAt l i - posAt l a) ((subL l a b).drop (posAt l i - posAt l a))).map (·.1) = ((List.range (b - i)).map fun k => posAt l (i + k) - posAt l a)
  | 0, i, hf, hi, hib => by
    obtain rfl : i = b := by omega
    rw [runesEnd _ _ (by rw [subL_len]; exact Nat.le_refl _)]; simp
  | f + 1, i, hf, hi, hib => by
    rcases Nat.lt_or_ge i b with h | h
    · have h1 := posAt_mono l a i hi (by omega)
      obtain ⟨h2, h3⟩ := posAt_next l i (by omega)
      have h4 := posAt_step l i (by omega)
      have h5 := posAt_mono l (i + 1) b (by omega) hb
      have e : (subL l a b).drop (posAt l i - posAt l a) = (l.drop (posAt l i)).take (posAt l b - posAt l i) := by
        rw [subL_drop, show posAt l a + (posAt l i - posAt l a) = posAt l i by omega, show posAt l b - posAt l a - (posAt l i - posAt l a) = posAt l b - posAt l i by omega]
      have hd : decodeL ((subL l a b).drop (posAt l i - posAt l a)) = decodeL (l.drop (posAt l i)) := by
        rw [e]; exact decodeL_take _ _ (by omega)
      rw [runesAt _ _ (by rw [subL_len]; omega), hd, List.map_cons]
      have ih := runes_sub l a b hab hb f (i + 1) (by omega) (by omega) (by omega)
      rw [show posAt l i - posAt l a + (decodeL (l.drop (posAt l i))).2 = posAt l (i + 1) - posAt l a by omega, ih]
      rw [show b - i = (b - (i + 1)) + 1 by omega, List.range_succ_eq_map, List.map_cons, List.map_map]
      simp only [Nat.add_zero, List.cons.injEq, true_and]
      apply List.map_congr_left
      intro k _
      simp only [Function.comp_apply]
      congr 2; omega
    · obtain rfl : i = b := by omega
      rw [runesEnd _ _ (by rw [subL_len]; exact Nat.le_refl _)]; simp
theorem sub_runes (l : List UInt8) (a b : Nat) (hab : a ≤ b) (hb : b ≤ nR l) : (runesL (subL l a b)).map (·.1) = (List.range (b - a)).map fun k => posAt l (a + k) - posAt l a := by
  have := runes_sub l a b hab hb (b - a) a (Nat.le_refl _) (Nat.le_refl _) hab
  rw [Nat.sub_self, List.drop_zero] at this
  exact this
theorem sub_nR (l : List UInt8) (a b : Nat) (hab : a ≤ b) (hb : b ≤ nR l) : nR (subL l a b) = b - a := by
  have := congrArg List.length (sub_runes l a b hab hb)
  simpa [nR] using this
theorem sub_posAt (l : List UInt8) (a b : Nat) (hab : a ≤ b) (hb : b ≤ nR l) (i : Nat) (hi : i ≤ b - a) : posAt (subL l a b) i = posAt l (a + i) - posAt l a := by
  have hn := sub_nR l a b hab hb
  rcases Nat.lt_or_ge i (b - a) with h | h
  · have h1 := runes_get (subL l a b) i (by omega)
    have h2 : ((runesL (subL l a b)).map (·.1))[i]? = some (posAt (subL l a b) i) := by rw [List.getElem?_map, h1]; rfl
    rw [sub_runes l a b hab hb, List.getElem?_map, List.getElem?_range h] at h2
    exact (Option.some.inj h2).symm
  · obtain rfl : i = b - a := by omega
    have h1 := posAt_end (subL l a b)
    rw [hn, subL_len] at h1
    rw [h1, show a + (b - a) = b by omega]
theorem extract_list (s : ByteArray) (x y : Nat) (hy : y ≤ s.size) : (s.extract x y).data.toList = (s.data.toList.drop x).take (y - x) := by
  rw [ByteArray.data_extract, Array.toList_extract, List.extract_eq_take_drop]
/-- A piece of a piece. -/
theorem extract_sub (s : ByteArray) (a b x y : Nat) (hxy : x ≤ y) (hy : a + y ≤ b) (hb : b ≤ s.size) : (s.extract a b).extract x y = s.extract (a + x) (a + y) := by
  apply ByteArray.ext
  rw [ByteArray.data_extract, ByteArray.data_extract, ByteArray.data_extract, Array.extract_extract]
  congr 1; omega
/-- The piece's own runes and text. -/
theorem sub_text (s : ByteArray) (a b : Nat) (hb : b ≤ nR s.data.toList) : (s.extract (posAt s.data.toList a) (posAt s.data.toList b)).data.toList = subL s.data.toList a b := by
  have := posAt_le s.data.toList b
  rw [extract_list _ _ _ (by simpa using this)]; rfl

/-! ### Two texts with a blank between -/
end AnaP
end
section
namespace AnaP
open Go.Lib Go FoldP

/-! ### Where tokens lie -/
theorem tokOf_get (s : ByteArray) (cuts : List (Nat × Nat)) (i : Nat) (h : i < (tokOf s cuts).length) : (tokOf s cuts)[i] = tokAt s i (cuts[i]'(by rw [tokOf_len] at h; exact h)) := by
  simp [tokOf]
theorem linkAll_cases : ∀ (ns : List Int) (t : List TokD), (linkAll ns t).2 = 0 ∨ linkAll ns t = ([], 84)
  | [], t => .inl rfl
  | n :: ns, t => by
    unfold linkAll
    split
    · exact .inr rfl
    · exact linkAll_cases ns _
theorem linkAll_all {p : List TokD → Prop} (hp : ∀ n l ts, p l → linkF n l = some ts → p ts) : ∀ (ns : List Int) (t : List TokD), p t → (linkAll ns t).2 = 0 → p (linkAll ns t).1
  | [], t, h, _ => h
  | n :: ns, t, h, e => by
    unfold linkAll at e ⊢
    split at e
    · cases e
    · rename_i t' he
      exact linkAll_all hp ns _ (hp n t t' h he) e
theorem runF_cases (c : List Int) (s : ByteArray) : (runF c s).2 = 0 ∨ (runF c s).1 = [] := by
  unfold runF
  split
  · exact .inr rfl
  · split
    · exact .inr rfl
    · split
      · exact .inr rfl
      · rcases linkAll_cases c.tail (tokensF (c.getD 0 0) s) with h | h
        · exact .inl h
        · rw [h]; exact .inr rfl
theorem runF_all {p : List TokD → Prop} (hp : ∀ n l ts, p l → linkF n l = some ts → p ts) (c : List Int) (s : ByteArray) (h0 : s.size ≤ 4096 → (tokensF (c.getD 0 0) s).length ≤ 4096 → p (tokensF (c.getD 0 0) s)) (e : (runF c s).2 = 0) : p (runF c s).1 := by
  unfold runF at e ⊢
  split at e
  · cases e
  · split at e
    · cases e
    · split at e
      · cases e
      · rename_i h1 h2 h3
        rw [if_neg h1, if_neg h2, if_neg h3]
        exact linkAll_all hp _ _ (h0 (by omega) (by omega)) e
theorem runF_len (c : List Int) (s : ByteArray) : (runF c s).1.length ≤ 4096 := by
  rcases runF_cases c s with h | h
  · exact runF_all (p := fun l => l.length ≤ 4096) (fun n l ts _ e => linkF_len4 e) c s (fun _ h => h) h
  · rw [h]; simp
theorem runF_text (c : List Int) (s : ByteArray) : ∀ t ∈ (runF c s).1, t.text.size ≤ 4096 := by
  rcases runF_cases c s with h | h
  · exact runF_all (p := fun l => ∀ t ∈ l, t.text.size ≤ 4096) (fun n l ts h e => link_all (p := fun t => t.text.size ≤ 4096) (fun t x h1 h2 => by have := one_size n t.text x h2; exact Nat.le_trans this h1) h e) c s
      (fun h4 _ t ht => by have := tokensF_size _ s t ht; omega) h
  · rw [h]; simp
theorem tokens_text (n : Int) (s : ByteArray) (i : Nat) (h : i < (tokensF n s).length) : ∃ a b : Nat, a ≤ b ∧ b ≤ s.size ∧ (tokensF n s)[i].text = s.extract a b ∧ (tokensF n s)[i].pos = i ∧ (tokensF n s)[i].frm = a ∧ (tokensF n s)[i].til = b := by
  have hc := cutF_ok n (runeL s.data.toList)
  rw [runeL_len] at hc
  unfold tokensF at h ⊢
  have hi' : i < (cutF n (runeL s.data.toList)).length := by rwa [tokOf_len] at h
  have h2 := hc.1 _ (List.getElem_mem hi')
  have h3 := posAt_mono s.data.toList _ _ (Nat.le_of_lt h2.1) h2.2
  have h4 := posAt_le s.data.toList (cutF n (runeL s.data.toList))[i].2
  have e2 : s.data.toList.length = s.size := by simp
  rw [tokOf_get]
  exact ⟨_, _, h3, by omega, rfl, rfl, rfl, rfl⟩

/-! ### A chain's last link -/
/-! ### Two texts with a blank between -/
end AnaP
end
section
namespace SchP
open AnaP

def shiftP (b : Int) (ts : List TokD) : List TokD := ts.map fun t => { t with pos := t.pos + b }
def baseP (out : List TokD) : Int := match out.getLast? with
  | none => 0
  | some t => t.pos + 101
def toksGo (run : ByteArray → List TokD) (field : Int) : List TokD → List CT → List TokD
  | out, [] => out
  | out, c :: cs => toksGo run field (if c.field = field then out ++ shiftP (baseP out) (run c.text) else out) cs
def runTk (f : FT) (s : ByteArray) : List TokD := (runF f.chain s).1
def toksF (l : List FT) (field : Int) (cs : List CT) : List TokD :=
  if checkS l = false ∨ field < 0 ∨ (l.length : Int) ≤ field then [] else match l[field.toNat]? with
    | none => []
    | some f => if f.kind = 1 then toksGo (runTk f) field [] cs else []

theorem runF_pos (c : List Int) (s : ByteArray) : ∀ t ∈ (runF c s).1, 0 ≤ t.pos ∧ t.pos < 4096 := by
  rcases runF_cases c s with h | h
  · refine runF_all (p := fun l => ∀ t ∈ l, 0 ≤ t.pos ∧ t.pos < 4096) (fun n l ts h e => link_all (p := fun t => 0 ≤ t.pos ∧ t.pos < 4096) (fun t x h1 h2 => h1) h e) c s (fun _ hl t ht => ?_) h
    obtain ⟨i, hi, rfl⟩ := List.mem_iff_getElem.1 ht
    have := tokens_text (c.getD 0 0) s i hi
    obtain ⟨a, b, _, _, _, hp, _, _⟩ := this
    rw [hp]; omega
  · rw [h]; simp
theorem shiftP_len (b : Int) (ts : List TokD) : (shiftP b ts).length = ts.length := by simp [shiftP]
theorem shiftP_take {b : Int} {ts : List TokD} {j : Nat} (h : j < ts.length) : (shiftP b ts).take (j + 1) = (shiftP b ts).take j ++ [{ ts[j] with pos := ts[j].pos + b }] := by
  rw [List.take_succ_eq_append_getElem (by rw [shiftP_len]; exact h)]
  simp [shiftP]
theorem toksGo_step {run : ByteArray → List TokD} {field : Int} {out : List TokD} {cs : List CT} {k : Nat} (h : k < cs.length) : toksGo run field out (cs.drop k) = toksGo run field (if cs[k].field = field then out ++ shiftP (baseP out) (run cs[k].text) else out) (cs.drop (k + 1)) := by
  rw [List.drop_eq_getElem_cons h]; rfl
theorem baseP_cons {out : List TokD} (h : out ≠ []) : baseP out = (out.getLast h).pos + 101 := by
  unfold baseP
  rw [List.getLast?_eq_some_getLast h]
theorem baseP_at {out : List TokD} {n : Nat} (h : out.length = n + 1) : baseP out = (out[n]'(by omega)).pos + 101 := by
  have hne : out ≠ [] := by intro e; subst e; simp at h
  rw [baseP_cons hne, List.getLast_eq_getElem]
  congr 3
  omega
/-- What is bounded of a row of tokens that k values have given. -/
structure ToksOk (k : Nat) (out : List TokD) : Prop where
  len : out.length ≤ 4096 * k
  pos : ∀ t ∈ out, 0 ≤ t.pos ∧ t.pos < 4200 * (k : Int)
  text : ∀ t ∈ out, t.text.size ≤ 4096
theorem ToksOk.nil : ToksOk 0 [] := ⟨by simp, by simp, by simp⟩
theorem ToksOk.base {k : Nat} {out : List TokD} (h : ToksOk k out) : 0 ≤ baseP out ∧ baseP out ≤ 4200 * (k : Int) + 100 := by
  unfold baseP
  split
  · omega
  · rename_i t ht
    have := h.pos t (List.mem_of_getLast? ht)
    omega
theorem ToksOk.more {k : Nat} {out : List TokD} (h : ToksOk k out) : ToksOk (k + 1) out := ⟨by have := h.len; omega, fun t ht => by have := h.pos t ht; push_cast; omega, h.text⟩
theorem ToksOk.step {k : Nat} {out : List TokD} (h : ToksOk k out) (c : List Int) (s : ByteArray) : ToksOk (k + 1) (out ++ shiftP (baseP out) (runF c s).1) := by
  have hb : out = [] ∨ baseP out ≤ 4200 * (k : Int) + 100 := .inr h.base.2
  have h0 := h.base.1
  refine ⟨?_, ?_, ?_⟩
  · have := runF_len c s; have := h.len
    rw [List.length_append, shiftP_len]; omega
  · intro t ht
    rcases List.mem_append.1 ht with ht | ht
    · have := h.pos t ht; push_cast; omega
    · unfold shiftP at ht
      obtain ⟨x, hx, rfl⟩ := List.mem_map.1 ht
      have := runF_pos c s x hx
      have := h.base.2
      dsimp only
      push_cast; omega
  · intro t ht
    rcases List.mem_append.1 ht with ht | ht
    · exact h.text t ht
    · unfold shiftP at ht
      obtain ⟨x, hx, rfl⟩ := List.mem_map.1 ht
      exact runF_text c s x hx
theorem toksF_no {l : List FT} {field : Int} (h : checkS l = false ∨ field < 0 ∨ (l.length : Int) ≤ field) (cs : List CT) : toksF l field cs = [] := by unfold toksF; rw [if_pos h]
theorem toksF_in {l : List FT} {i : Nat} {f : FT} (h : checkS l = true) (hf : l[i]? = some f) (cs : List CT) : toksF l i cs = if f.kind = 1 then toksGo (runTk f) i [] cs else [] := by
  have hi := (List.getElem?_eq_some_iff.1 hf).1
  unfold toksF
  rw [if_neg (by rw [h]; simp; omega)]
  simp only [Int.toNat_natCast, hf]
end SchP
end
section
set_option linter.unusedVariables false
namespace Go.Proofs.YtfckomjbgopmaaaGreatDoor.Ana
open Go.RowKit Go.Lib AnaP Words Tree Kit Owned

def BoolB (b : Bool) (w : World) (e : Ending) (w' : World) : Prop := e = .returned (.bool b) ∧ Below w.heap.size w w'
/-- Element k of a row of tokens. -/
theorem reads_tok {w : World} {B n : Nat} {ao : Option Addr} {ts : List TokD} (h : Reads w B 4 ao n (tokCells ts)) (hn : n = ts.length) {k : Nat} (hk : k < ts.length) :
    ∃ ad, ao = some ad ∧ ad.block < B ∧ w.cell? (ad.add (k * 4)) = some (.string ts[k].text) ∧ w.cell? ⟨(ad.add (k * 4)).block, (ad.add (k * 4)).off + 1, none⟩ = some (.int .i64 ts[k].pos) ∧ w.cell? ⟨(ad.add (k * 4)).block, (ad.add (k * 4)).off + 2, none⟩ = some (.int .i64 ts[k].frm) ∧ w.cell? ⟨(ad.add (k * 4)).block, (ad.add (k * 4)).off + 3, none⟩ = some (.int .i64 ts[k].til) := by
  obtain ⟨ad, ha, hb, hc⟩ := reads_elem cells_len h hn hk
  exact ⟨ad, ha, hb, hc.zero, hc.at_ 1 _ rfl (by omega), hc.at_ 2 _ rfl (by omega), hc.at_ 3 _ rfl (by omega)⟩

/-! ### Lent, kept -/
theorem infoTok : (Tryz.prog.info? 59).map (fun i => (i.zero, i.size, i.bytes)) = some (some (.agg #[.string ⟨#[]⟩, .int .i64 0, .int .i64 0, .int .i64 0]), 4, 40) := by kernel_rfl
theorem tok_one {u : Value} {ts : List TokD} (h : u ∈ tokCells ts) : u.oneCell' = true := by
  unfold tokCells at h
  rw [List.mem_flatMap] at h
  obtain ⟨t, _, h⟩ := h
  simp only [TokD.cells, List.mem_cons, List.not_mem_nil, or_false] at h
  rcases h with rfl | rfl | rfl | rfl <;> rfl
theorem tokCells_append (a b : List TokD) : tokCells (a ++ b) = tokCells a ++ tokCells b := by simp [tokCells]
theorem tokCells_len (l : List TokD) : (tokCells l).length = l.length * 4 := flat_len cells_len l
theorem cells_new (w : World) (l : List Value) (t : TypeId) (j : Nat) (u : Value) (h : l[j]? = some u) : (w.alloc (.cells l.toArray t)).cell? ((⟨w.heap.size, 0, none⟩ : Addr).add j) = some u := by
  have e : (⟨w.heap.size, 0, none⟩ : Addr).add j = ⟨w.heap.size, j, none⟩ := by unfold Addr.add; split <;> simp_all
  rw [e, World.cell?_alloc_new]; simpa using h
def markT : TokD := ⟨⟨#[]⟩, -71, 0, 0⟩
/-- A row of tokens in memory of the call's own, with the mark behind it. -/
def LentRow (w : World) (B : Nat) (v : Value) (ts : List TokD) : Prop :=
  ∃ g cap, v = .slice (some ⟨g, 0, none⟩) ts.length cap ∧ ts.length < cap ∧ cap ≤ maxLen ∧ B ≤ g ∧ Reads w w.heap.size 4 (some ⟨g, 0, none⟩) (ts.length + 1) (tokCells (ts ++ [markT]))
/-- What was lent reads as it did. -/
theorem LentRow.reads {w : World} {B : Nat} {v : Value} {ts : List TokD} (h : LentRow w B v ts) : ∃ g cap, v = .slice (some ⟨g, 0, none⟩) ts.length cap ∧ ts.length < cap ∧ cap ≤ maxLen ∧ Reads w w.heap.size 4 (some ⟨g, 0, none⟩) ts.length (tokCells ts) ∧ g < w.heap.size ∧ w.cell? ⟨g, ts.length * 4 + 1, none⟩ = some (.int .i64 (-71)) := by
  obtain ⟨g, cap, rfl, h1, h2, h3, h4⟩ := h
  obtain ⟨ad, ha, hb, hc⟩ := h4.2 (by omega)
  obtain rfl := Option.some.inj ha
  refine ⟨g, cap, rfl, h1, h2, ⟨tokCells_len ts, fun hn => ⟨_, rfl, hb, fun j u hu => hc j u ?_⟩⟩, hb, ?_⟩
  · rw [tokCells_append, List.getElem?_append_left (List.getElem?_eq_some_iff.1 hu).1]; exact hu
  · have := hc (ts.length * 4 + 1) (.int .i64 (-71)) (by rw [tokCells_append, List.getElem?_append_right (by rw [tokCells_len]; omega), tokCells_len, Nat.add_sub_cancel_left]; rfl)
    unfold Addr.add at this
    rw [if_neg (by omega)] at this
    simpa using this
theorem LentRow.below {w w' : World} {B : Nat} {v : Value} {ts : List TokD} (h : LentRow w B v ts) (hb : Below w.heap.size w w') : LentRow w' B v ts := by
  obtain ⟨g, cap, rfl, h1, h2, h3, h4⟩ := h
  exact ⟨g, cap, rfl, h1, h2, h3, (h4.below hb).more hb.size⟩

end Go.Proofs.YtfckomjbgopmaaaGreatDoor.Ana
end
