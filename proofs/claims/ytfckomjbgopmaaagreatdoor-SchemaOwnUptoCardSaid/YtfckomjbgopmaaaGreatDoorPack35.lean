/- Contracts: a number's text, of the document's answer and of the program. What Back answers, and the steps of it in plain Lean. -/
import Derived.Test.YtfckomjbgopmaaaGreatDoorPack34
import Derived.WalkLawsBesides
import Derived.BigQuiet
import Derived.Deep.QuietTactic
import Derived.RegionTactic
import Derived.Deep.CutBlock
import Derived.Lib.AppendIntMem
import Derived.Test.YtfckomjbgopmaaaGreatDoorPack15
import Derived.Test.YtfckomjbgopmaaaGreatDoorPack13
import Derived.Test.YtfckomjbgopmaaaGreatDoorPack14
section
set_option linter.unusedVariables false
namespace OrdP
open Go.Lib Go
theorem wide_small (u sc : Nat) (hu : u ≤ 9223372036854775808) (hsc : sc ≤ 9) : wide u sc ≤ 19 := by
  have : nDigits u ≤ 19 := nd_le u 19 (by omega) (by omega)
  unfold wide; omega
theorem itoa_parts (n : Int) : size (itoa n) = decDigits n.natAbs ∧ below (itoa n) = decide (n < 0) := by
  unfold itoa
  by_cases h : n < 0
  · rw [if_pos h]; unfold size below; simp [h]
  · rw [if_neg h, show n.toNat = n.natAbs by omega]
    obtain ⟨c, t, e, hc⟩ := head_low n.natAbs (nDigits n.natAbs) (nDigits_pos _) []
    rw [List.append_nil, ← decDigits_eq_low] at e
    unfold size below
    rw [e]
    have hc' : c ≠ 45 := by intro e2; subst e2; revert hc; decide
    simp [h, hc']
end OrdP
namespace Go.Proofs.YtfckomjbgopmaaaGreatDoor.OrdLib
open Go.RowKit Go.Lib OrdP Kit OrdRef

def txtS (n : Int) (scale : Int) : List UInt8 := if scale < 0 ∨ 9 < scale then [] else textF n scale.toNat
def txtE (scale : Int) : Int := if scale < 0 ∨ 9 < scale then 1 else 0
def TextRet (n scale : Int) (w : World) (e : Ending) (w' : World) : Prop := e = .returned (.tuple #[.string (str (txtS n scale)), .int .i64 (txtE scale)]) ∧ Below w.heap.size w w'
theorem text_out {n scale : Int} {w w' : World} (h : scale < 0 ∨ 9 < scale) (hb : Below w.heap.size w w') : TextRet n scale w (.returned (.tuple #[.string (str []), .int .i64 1])) w' :=
  ⟨by unfold txtS txtE; rw [if_pos h, if_pos h], hb⟩
theorem text_in {n : Int} {sc : Nat} {f : ByteArray} {w w' : World} (h : sc ≤ 9) (hf : f = str (textF n sc)) (hb : Below w.heap.size w w') : TextRet n sc w (.returned (.tuple #[.string f, .int .i64 0])) w' :=
  ⟨by unfold txtS txtE; rw [if_neg (by omega), if_neg (by omega), Int.toNat_natCast, hf], hb⟩
theorem format_any (n : Int) (h0 : -9223372036854775808 ≤ n) (h1 : n ≤ 9223372036854775807) (z : ByteArray) (hz : z = str (itoa n)) (w : World) (hT : Lib.TabIs Tryz.prog w "internal/strconv.uint64pow10" .u64 Lib.pow10Tab) :
    Calls Tryz.prog 61 #[.int .i64 n, .int .i64 10] w (fun e w' => e = .returned (.string z) ∧ Below w.heap.size w w') := by
  subst hz
  refine (Tryz.strconv_FormatInt_10 n h0 h1 w hT).mono fun e w' ⟨he, k, os, hw⟩ => ⟨he, ?_⟩
  subst hw
  exact below_grow _ _ (Nat.le_refl _) _ _

set_option maxRecDepth 100000 in
set_option maxHeartbeats 4000000 in
theorem text_in' (n : Int) (sc : Nat) (w : World) (h0 : -9223372036854775808 ≤ n) (h1 : n ≤ 9223372036854775807) (hsc : sc ≤ 9) (hT : Lib.TabIs Tryz.prog w "internal/strconv.uint64pow10" .u64 Lib.pow10Tab) :
    Calls Tryz.prog 32 #[.int .i64 n, .int .i64 sc] w (TextRet n sc w) := by
  have HT := Lib.hid hT; clear hT
  have hit := itoa_parts n
  obtain ⟨z, hz⟩ : ∃ z, z = str (itoa n) := ⟨_, rfl⟩
  have hzl : z.data.toList = itoa n := by rw [hz]; rfl
  obtain ⟨q, hq⟩ : ∃ q, q = str (decDigits n.natAbs) := ⟨_, rfl⟩
  obtain ⟨b, hb⟩ : ∃ b, b = decide (n < 0) := ⟨_, rfl⟩
  have HF := Lib.hid (fun (w : World) (hT : Lib.TabIs Tryz.prog w "internal/strconv.uint64pow10" .u64 Lib.pow10Tab) => format_any n h0 h1 z hz w hT)
  have HPX := Lib.hid (fun w => prefix_any z q b (by rw [hq, hzl, hit.1]) (by rw [hb, hzl, hit.2]) w)
  have hql : q.size = nDigits n.natAbs := by rw [hq, str_size, decDigits_length]
  have hnd : nDigits n.natAbs ≤ 19 := nd_le _ 19 (by omega) (by omega)
  have hqs : q.size ≤ 19 := by omega
  have hq1 : 1 ≤ q.size := by have := nDigits_pos n.natAbs; omega
  obtain ⟨zz, hzz⟩ : ∃ zz, zz = str (zeros (sc + 1 - q.size)) := ⟨_, rfl⟩
  have hzs : zz.size = sc + 1 - q.size := by rw [hzz, str_size, zeros, List.length_replicate]
  have hwid : wide n.natAbs sc = zz.size + q.size := by unfold wide; omega
  have hpad := text_pad n.natAbs sc
  have HREP := Lib.hid (fun (c : Int) (hc : c = ((sc + 1 - q.size : Nat) : Int)) w => repeat_any c (by omega) (by omega) zz (by rw [hzz, hc, Int.toNat_natCast]) w)
  have d1 : decide ((sc : Int) < 0) = false := by rw [decide_eq_false_iff_not]; omega
  have d2 : decide (9 < (sc : Int)) = false := by rw [decide_eq_false_iff_not]; omega
  have HWID := Lib.hid hwid
  have HPAD : Hid ((zz ++ q).data.toList = lowD (n.natAbs / 10 ^ sc) (wide n.natAbs sc - sc) ++ lowD n.natAbs sc) := by
    have e : (zz ++ q).data.toList = zeros (wide n.natAbs sc - nDigits n.natAbs) ++ decDigits n.natAbs := by
      rw [hzz, hq, show sc + 1 - (str (decDigits n.natAbs)).size = wide n.natAbs sc - nDigits n.natAbs by rw [str_size, decDigits_length]; unfold wide; omega]
      simp [ByteArray.data_append, str]
    rw [e, hpad]; exact Lib.hid rfl
  have HBN := Lib.hid hb
  have hzs10 : zz.size ≤ 10 := by omega
  clear hit hz hzl hql hnd hzz hzs hwid hpad hq hb
  go_enter Tryz.func32, Tryz.ntmps32
  go_wp2_with fail
  clear d1 d2
  refine (HF.out _ HT.out).mono ?_
  rintro e w1 ⟨rfl, hb1⟩
  have B1 := Lib.hid hb1; clear hb1
  go_wp2_with fail
  refine (HPX.out _).mono ?_
  rintro e w' ⟨rfl, rfl⟩
  go_wp2_with fail
  refine (HREP.out _ (by omega) _).mono ?_
  rintro e w2 ⟨rfl, hb2⟩
  have B2 := Lib.hid (B1.out.trans (hb2.mono B1.out.size)); clear hb2
  go_upto_region 5 with fail
  obtain ⟨f, hf⟩ : ∃ f, zz ++ q = f := ⟨_, rfl⟩
  rw [hf]
  have hfs : f.size = wide n.natAbs sc := by rw [← hf, ByteArray.size_append, HWID.out]
  have hfl : f.data.toList = lowD (n.natAbs / 10 ^ sc) (wide n.natAbs sc - sc) ++ lowD n.natAbs sc := by
    rw [← hf]; exact HPAD.out
  have hw := wide_le n.natAbs sc
  have hw2 := wide_small n.natAbs sc (by omega) hsc
  have hf1 : sc + 1 ≤ f.size := by omega
  have hf2 : f.size ≤ 19 := by omega
  have hpre : f.extract 0 (f.size - sc) = str (lowD (n.natAbs / 10 ^ sc) (wide n.natAbs sc - sc)) := by
    apply ByteArray.ext; apply Array.ext'
    rw [extract_data, hfl, hfs, List.drop_zero, List.take_left' (by rw [lowD_length]; omega)]; rfl
  have hpost : f.extract (f.size - sc) f.size = str (lowD n.natAbs sc) := by
    apply ByteArray.ext; apply Array.ext'
    rw [extract_data, hfl, hfs, List.drop_left' (by rw [lowD_length]), List.take_of_length_le (by rw [lowD_length]; omega)]; rfl
  have HPRE := Lib.hid hpre
  have HPOST := Lib.hid hpost
  have HFL := Lib.hid hfl
  clear hf hfs hfl hw hw2 hpre hpost
  by_cases hz : 0 < sc
  · have t1 : decide (0 < (sc : Int)) = true := by rw [decide_eq_true_eq]; omega
    have hmid : f.extract 0 (f.size - sc) ++ ⟨#[46]⟩ ++ f.extract (f.size - sc) f.size = str (textU n.natAbs sc) := by
      rw [HPRE.out, HPOST.out]
      unfold textU
      rw [if_neg (by omega)]
      apply ByteArray.ext; apply Array.ext'; simp [str, ByteArray.data_append]
    have HMID := Lib.hid hmid
    clear hmid
    cases b with
    | true =>
      have ht : ⟨#[45]⟩ ++ (f.extract 0 (f.size - sc) ++ ⟨#[46]⟩ ++ f.extract (f.size - sc) f.size) = str (textF n sc) := by unfold textF; rw [if_pos (of_decide_eq_true HBN.out.symm), HMID.out, str_app]; rfl
      have HTX := Lib.hid ht
      clear ht
      go_wp2_with fail
      go_quiet (fail)
      go_wp2_with fail
      all_goals
        go_ret2
        exact text_in hsc HTX.out (B2.out.trans (⟨rfl, rfl, rfl, Nat.le_refl _, fun _ _ => rfl⟩))
    | false =>
      have ht : f.extract 0 (f.size - sc) ++ ⟨#[46]⟩ ++ f.extract (f.size - sc) f.size = str (textF n sc) := by unfold textF; rw [if_neg (of_decide_eq_false HBN.out.symm), List.nil_append]; exact HMID.out
      have HTX := Lib.hid ht
      clear ht
      go_wp2_with fail
      go_quiet (fail)
      go_wp2_with fail
      all_goals
        go_ret2
        exact text_in hsc HTX.out (B2.out.trans (⟨rfl, rfl, rfl, Nat.le_refl _, fun _ _ => rfl⟩))
  · obtain rfl : sc = 0 := by omega
    have hft : f = str (textU n.natAbs 0) := by
      apply ByteArray.ext; apply Array.ext'
      rw [HFL.out]; simp [textU, lowD, str]
    have HFT := Lib.hid hft
    clear hft hz
    cases b with
    | true =>
      have ht : ⟨#[45]⟩ ++ f = str (textF n 0) := by unfold textF; rw [if_pos (of_decide_eq_true HBN.out.symm), HFT.out, str_app]; rfl
      have HTX := Lib.hid ht
      clear ht
      go_wp2_with fail
      go_ret2
      exact text_in (Nat.zero_le _) HTX.out B2.out
    | false =>
      have ht : f = str (textF n 0) := by unfold textF; rw [if_neg (of_decide_eq_false HBN.out.symm), List.nil_append]; exact HFT.out
      have HTX := Lib.hid ht
      clear ht
      go_wp2_with fail
      go_ret2
      exact text_in (Nat.zero_le _) HTX.out B2.out

theorem text_anyP (n scale : Int) (w : World) (h0 : -9223372036854775808 ≤ n) (h1 : n ≤ 9223372036854775807) (hT : Lib.TabIs Tryz.prog w "internal/strconv.uint64pow10" .u64 Lib.pow10Tab) :
    Calls Tryz.prog 32 #[.int .i64 n, .int .i64 scale] w (TextRet n scale w) := by
  by_cases h : scale < 0 ∨ 9 < scale
  · have HO := Lib.hid h
    have d12 : decide (scale < 0) = true ∨ (decide (scale < 0) = false ∧ decide (9 < scale) = true) := by
      by_cases h1 : scale < 0
      · left; rw [decide_eq_true_eq]; exact h1
      · right; exact ⟨by rw [decide_eq_false_iff_not]; exact h1, by rw [decide_eq_true_eq]; omega⟩
    clear h hT
    rcases d12 with d1 | ⟨d1, d2⟩
    all_goals
      go_enter Tryz.func32, Tryz.ntmps32
      go_wp2_with fail
      go_ret2
      exact text_out HO.out (Below.refl _ _)
  · obtain ⟨sc, rfl⟩ : ∃ sc : Nat, scale = sc := ⟨scale.toNat, by omega⟩
    exact text_in' n sc w h0 h1 (by omega) hT
/-- The powers of ten stay where they are. -/
theorem pow_next {w w' : World} (h : Lib.TabIs Tryz.prog w "internal/strconv.uint64pow10" .u64 Lib.pow10Tab) (hb : Below w.heap.size w w') : Lib.TabIs Tryz.prog w' "internal/strconv.uint64pow10" .u64 Lib.pow10Tab := Go.Joins.tab_stays (g := 0) (by kernel_rfl) h hb (Nat.le_refl _)
end Go.Proofs.YtfckomjbgopmaaaGreatDoor.OrdLib
end
section
set_option linter.unusedVariables false
namespace Go.Proofs.YtfckomjbgopmaaaGreatDoor.Sch
open Go.RowKit Words Tree SchP Kit Owned AnaP

/-- A number's text in a decimal field. -/
def txtO (f : FT) (n : Int) : ByteArray := str (OrdLib.txtS n f.scale)
/-- What Back answers. -/
def BackRet (r : Except Int (List ET)) (w : World) (e : Ending) (w' : World) : Prop :=
  Below w.heap.size w w' ∧ match r with
    | .error n => e = .returned (.tuple #[.agg #[.slice none 0 0], .int .i64 n])
    | .ok es => ∃ v, e = .returned (.tuple #[.agg #[v], .int .i64 0]) ∧ T.At bare w' (fun g => w.heap.size ≤ g ∧ CellsAt w' g) (entriesT es) v

theorem backGo_step {txt : FT → Int → ByteArray} {l : List FT} {cs : List CT} {k : Nat} (h : k < cs.length) (pre : List ET) :
    (backGo txt l (cs.drop k)).map (pre ++ ·) = match backE txt l cs[k] with | .error n => .error n | .ok e => (backGo txt l (cs.drop (k + 1))).map ((pre ++ [e]) ++ ·) := by
  rw [List.drop_eq_getElem_cons h]
  simp only [backGo]
  cases backE txt l cs[k] with
  | error n => rfl
  | ok e =>
    simp only
    cases backGo txt l (cs.drop (k + 1)) with
    | error n => rfl
    | ok d => simp [Except.map]
theorem backE_81 {txt : FT → Int → ByteArray} {l : List FT} {c : CT} (h : c.field < 0 ∨ (l.length : Int) ≤ c.field) : backE txt l c = .error 81 := by unfold backE; rw [if_pos h]
theorem backE_in {txt : FT → Int → ByteArray} {l : List FT} {c : CT} {i : Nat} {f : FT} (hc : c.field = i) (hf : l[i]? = some f) : backE txt l c = if ¬ ((c.nums.length : Int) = wantC f) ∨ (0 < wantC f ∧ 0 < c.text.size) then .error 82 else if f.kind = 4 then .ok ⟨f.name, txt f (c.nums.getD 0 0), []⟩ else .ok ⟨f.name, c.text, c.nums⟩ := by
  have hi := (List.getElem?_eq_some_iff.1 hf).1
  unfold backE
  rw [if_neg (by rw [hc]; omega)]
  have : c.field.toNat = i := by omega
  simp only [this, hf]
/-- The program asks for a field's kind behind the text. -/
theorem backE_kind {txt : FT → Int → ByteArray} {l : List FT} {c : CT} {i : Nat} {f : FT} (hc : c.field = i) (hf : l[i]? = some f) (hm : mayB f = true) (h4 : f.kind ≠ 4) : backE txt l c = if kindP f c.text c.nums.length = true then .ok ⟨f.name, c.text, c.nums⟩ else .error 82 := by
  rw [backE_in hc hf, if_neg h4]
  unfold wantC kindP
  rcases kind_of hm with hk | hk | hk | hk | ⟨hk, hd1, hd2⟩
  · simp only [hk]; by_cases h : c.nums.length = 0 <;> simp [h]
  · simp only [hk]; by_cases h : c.nums.length = 0 <;> simp [h]
  · simp only [hk]
    by_cases h : c.nums.length = 1
    · by_cases h2 : c.text.size = 0
      · simp [h, h2]
      · simp [h, h2]
    · have : ¬ ((c.nums.length : Int) = 1) := by omega
      simp [h, this]
  · exact absurd hk h4
  · simp only [hk]
    by_cases h : (c.nums.length : Int) = f.dims
    · by_cases h2 : c.text.size = 0
      · simp [h, h2]
      · simp [h, h2]; omega
    · simp [h]
theorem backE_4 {txt : FT → Int → ByteArray} {l : List FT} {c : CT} {i : Nat} {f : FT} (hc : c.field = i) (hf : l[i]? = some f) (h4 : f.kind = 4) : backE txt l c = if c.nums.length = 1 ∧ c.text.size = 0 then .ok ⟨f.name, txt f (c.nums.getD 0 0), []⟩ else .error 82 := by
  rw [backE_in hc hf, if_pos h4]
  unfold wantC
  simp only [h4]
  by_cases h : c.nums.length = 1
  · by_cases h2 : c.text.size = 0
    · simp [h, h2]
    · simp [h, h2]
  · have : ¬ ((c.nums.length : Int) = 1) := by omega
    simp [h, this]
theorem backF_yes {txt : FT → Int → ByteArray} {l : List FT} {cs : List CT} (h : checkS l = true) : backF txt l cs = backGo txt l cs := by unfold backF; rw [if_neg (by rw [h]; decide)]

theorem eqk (a b : Int) : (a = b ∧ (a == b) = true) ∨ (a ≠ b ∧ (a == b) = false) := by
  by_cases h : a = b
  · exact .inl ⟨h, by simpa using h⟩
  · exact .inr ⟨h, by simpa using h⟩
theorem neqn (n : Nat) (k : Int) : ((n : Int) = k ∧ ((n : Int) != k) = false) ∨ ((n : Int) ≠ k ∧ ((n : Int) != k) = true) := by
  by_cases h : (n : Int) = k
  · exact .inl ⟨h, by simpa using h⟩
  · exact .inr ⟨h, by simpa using h⟩
/-- What holds when k cells have been told: the entries lie in the box gd. -/
structure BackSt (w : World) (u : Value) (l : List FT) (cs : List CT) (R : Except Int (List ET)) (gd k : Nat) (wr : World) : Prop where
  out : ∃ pre v, (backGo txtO l (cs.drop k)).map (pre ++ ·) = R ∧ pre.length = k ∧ RowG bare 68 3 ecells (some gd) gd wr v pre ∧ Blk wr gd 30 #[v]
  bs : Blk wr w.heap.size 24 #[u]
  br : Blk wr (w.heap.size + 1) 30 #[.slice none 0 0]
  below : Below w.heap.size w wr
  far : w.heap.size + 1 < gd ∧ gd < wr.heap.size
/-- A new entry lies in block g, its numbers beside it. -/
structure MadeE (W : World) (name text : ByteArray) (ns : List Int) (g : Nat) (Y : Option Addr) (z : Nat) (V : World) : Prop where
  below : Below W.heap.size W V
  ge : W.heap.size ≤ g
  blk : Blk V g 68 #[.string name, .string text, .slice Y ns.length z]
  nums : NumsIn 2 .i64 W.heap.size V.heap.size V ns (.slice Y ns.length z)
def epre (e : ET) : List Value := [.string e.field, .string e.text]
theorem rowN_entries {N : Nat} {w : World} {v : Value} {xs : List ET} (h : RowN 68 2 .i64 epre ET.nums N w v xs) : T.At bare w (fun g => N ≤ g ∧ CellsAt w g) (entriesT xs) v := rowN_at ecells_len (fun e u S h => ecells_mk h) h
/-- What Back answers, its numbers apart. -/
def BackRetN (r : Except Int (List ET)) (w : World) (e : Ending) (w' : World) : Prop :=
  Below w.heap.size w w' ∧ match r with
    | .error n => e = .returned (.tuple #[.agg #[.slice none 0 0], .int .i64 n])
    | .ok es => ∃ v, e = .returned (.tuple #[.agg #[v], .int .i64 0]) ∧ RowN 68 2 .i64 epre ET.nums w.heap.size w' v es
/-- As BackSt, the numbers apart. -/
structure BackStN (w : World) (u : Value) (l : List FT) (cs : List CT) (R : Except Int (List ET)) (gd k : Nat) (wr : World) : Prop where
  out : ∃ pre v, (backGo txtO l (cs.drop k)).map (pre ++ ·) = R ∧ pre.length = k ∧ RowN 68 2 .i64 epre ET.nums gd wr v pre ∧ Blk wr gd 30 #[v]
  bs : Blk wr w.heap.size 24 #[u]
  br : Blk wr (w.heap.size + 1) 30 #[.slice none 0 0]
  below : Below w.heap.size w wr
  far : w.heap.size + 1 < gd ∧ gd < wr.heap.size
theorem nums_far {e : TypeId} {k : IntKind} {lo hi : Nat} {W : World} {l : List Int} {v : Value} (h : NumsIn e k lo hi W l v) {p : Addr} (hp : p.block < lo) (u : Value) : NumsIn e k lo hi (W.setCell p u) l v := h.keep fun g h1 _ _ => Below.heap_setCell W p u g (by omega)
end Go.Proofs.YtfckomjbgopmaaaGreatDoor.Sch
end
