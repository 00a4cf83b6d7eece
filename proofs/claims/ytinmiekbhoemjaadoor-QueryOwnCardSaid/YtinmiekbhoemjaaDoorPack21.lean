/- Contract: the parser's kind. Contracts: nibble; the parser's text. -/
import Derived.Test.YtinmiekbhoemjaaDoorQryPar2
import Derived.Test.YtinmiekbhoemjaaDoorPack20
import Derived.Test.YtinmiekbhoemjaaDoorQryBackP
import Derived.Test.YtinmiekbhoemjaaDoorPack17
import Derived.StillTailTactics
section
set_option linter.unusedVariables false
namespace Go.Proofs.YtinmiekbhoemjaaDoor.Qry
open Go.RowKit Words Tree QryP Kit Sch SchP Owned

theorem find_up {f : Int → R} {w : R} {i : Int} : ∀ {m n : Nat}, findK f w m = some i → m ≤ n → findK f w n = some i
  | m, 0, h, hl => by obtain rfl : m = 0 := by omega
                      exact h
  | m, n + 1, h, hl => by
    by_cases he : m = n + 1
    · rw [← he]; exact h
    · rw [findK, find_up h (by omega)]
theorem find_hit {f : Int → R} {w : R} {k : Nat} (h : findK f w k = none) (hw : f ((k + 1 : Nat) : Int) = w) : findK f w (k + 1) = some ((k + 1 : Nat) : Int) := by rw [findK, h]; exact if_pos hw
theorem find_miss {f : Int → R} {w : R} {k : Nat} (h : findK f w k = none) (hw : f ((k + 1 : Nat) : Int) ≠ w) : findK f w (k + 1) = none := by rw [findK, h]; exact if_neg hw
theorem str_eq (a t : R) : ((str a).toList == (QryP.bytes t).toList) = decide (a = t) := by
  rw [ByteArray.toList_eq, ByteArray.toList_eq]
  show ((a.toArray.toList == t.toArray.toList)) = _
  simp
  rw [Bool.eq_iff_iff]; simp
set_option maxRecDepth 100000 in
set_option maxHeartbeats 8000000 in
theorem kind_any (above : Nat) (ha : above ≤ 6) (s : ByteArray) (gp k : Nat) (w : World) (h : Pa s gp k w) (hs : s.size ≤ 4096) : Calls Tryd.prog 61 #[.pointer (some ⟨gp, 0, none⟩), .int .i64 above] w (Out s gp k w (kindS (6 - above) (rem s k)) fun n v _ => v = .int .i64 n ∧ 1 ≤ n ∧ n ≤ 10) := by
  have HRUN := Lib.hid (run_any s gp k w h hs)
  clear h
  obtain ⟨x, hx⟩ : ∃ x, kindS (6 - above) (rem s k) = x := ⟨_, rfl⟩
  rw [hx]
  have HX : Hid (x = match findK wordF ((skipS (rem s k)).takeWhile letB) 10 with
    | none => .error ((skipS (rem s k)).length, 180)
    | some i => if 6 - above = 0 then .error ((skipS (rem s k)).length, 182) else .ok (i, (skipS (rem s k)).dropWhile letB)) := Lib.hid (by rw [← hx]; rfl)
  clear hx
  generalize (skipS (rem s k)).takeWhile letB = tk at *
  generalize (skipS (rem s k)).dropWhile letB = dk at *
  generalize (skipS (rem s k)).length = n at *
  go_enter Tryd.func61, Tryd.ntmps61
  go_wp2_with fail
  refine HRUN.out.mono ?_
  rintro e w1 ⟨rfl, hat⟩
  have HAT := Lib.hid hat
  clear hat HRUN
  go_wp2_with fail
  go_loopw [7] (fun v wr => ∃ i : Nat, i ≤ 10 ∧ v = .int .i64 ((i : Int) + 1) ∧ Hid (findK wordF tk i = none) ∧ wr = w1) (fun v _ => 12 - (intOf v).toNat)
  case atStart => exact ⟨0, by omega, rfl, Lib.hid rfl, rfl⟩
  case round =>
    obtain ⟨i, hi, rfl, HF, rfl⟩ := hrel
    by_cases hlt : i < 10
    · have hlt2 : ((i : Int) + 1) ≤ 10 := by omega
      have HW := Lib.hid (fun W => word_any ((i : Int) + 1) W (by omega))
      by_cases hw : wordF ((i : Int) + 1) = tk
      · have de : ((str (wordF ((i : Int) + 1))).toList == (QryP.bytes tk).toList) = true := by rw [str_eq]; exact decide_eq_true hw
        have HX2 : Hid (x = if 6 - above = 0 then .error (n, 182) else .ok ((i : Int) + 1, dk)) := Lib.hid (by rw [HX.out, find_up (find_hit HF.out hw) (by omega)]; rfl)
        clear hw
        generalize str (wordF ((i : Int) + 1)) = sw at *
        by_cases h6 : above = 6
        · have d6 : decide ((6 : Int) ≤ (above : Int)) = true := decide_eq_true (by omega)
          replace HX2 : Hid (x = .error (n, 182)) := Lib.hid (by rw [HX2.out, if_pos (by omega)])
          clear h6
          go_wp2_with fail
          refine (HW.out _).mono ?_
          rintro e w2 ⟨rfl, rfl⟩
          go_wp2_with fail
          refine ⟨rfl, ?_⟩
          rw [HX2.out]
          exact ⟨rfl, HAT.out.1⟩
        · have d6 : decide ((6 : Int) ≤ (above : Int)) = false := decide_eq_false (by omega)
          replace HX2 : Hid (x = .ok ((i : Int) + 1, dk)) := Lib.hid (by rw [HX2.out, if_neg (by omega)])
          clear h6
          go_wp2_with fail
          refine (HW.out _).mono ?_
          rintro e w2 ⟨rfl, rfl⟩
          go_wp2_with fail
          go_ret
          rw [HX2.out]
          exact ⟨_, rfl, ⟨rfl, by omega, by omega⟩, HAT.out⟩
      · have de : ((str (wordF ((i : Int) + 1))).toList == (QryP.bytes tk).toList) = false := by rw [str_eq]; exact decide_eq_false hw
        have HF2 : Hid (findK wordF tk (i + 1) = none) := Lib.hid (find_miss HF.out hw)
        clear hw
        generalize str (wordF ((i : Int) + 1)) = sw at *
        go_wp2_with fail
        refine (HW.out _).mono ?_
        rintro e w2 ⟨rfl, rfl⟩
        go_wp2_with fail
        go_roundw
        case rel => exact ⟨i + 1, by omega, by go_num, HF2, trivial⟩
        case measure => simp [intOf]; omega
    · obtain rfl : i = 10 := by omega
      have HX2 : Hid (x = .error (n, 180)) := Lib.hid (by rw [HX.out, HF.out])
      have HWR := Lib.hid (fun W => wrong_any ((s.size - n : Nat) : Int) W)
      go_wp2_with fail
      refine (HWR.out _).mono ?_
      rintro e w3 ⟨rfl, rfl⟩
      refine ⟨rfl, ?_⟩
      rw [HX2.out]
      exact ⟨rfl, HAT.out.1⟩
end Go.Proofs.YtinmiekbhoemjaaDoor.Qry
end
section
set_option linter.unusedVariables false
namespace Go.Proofs.YtinmiekbhoemjaaDoor.Qry
open Go.RowKit Words Tree QryP Kit Sch SchP Owned

def nibI (c : UInt8) : Int := match nibS c with
  | some n => n
  | none => -1
theorem nib_ix (c : UInt8) : Lib.indexByte [48, 49, 50, 51, 52, 53, 54, 55, 56, 57, 65, 66, 67, 68, 69, 70] c = nibI c := by
  revert c
  exact byte_all (by decide +kernel)
theorem nib_lt {c : UInt8} {n : Nat} (h : nibS c = some n) : n < 16 := by
  revert h
  unfold nibS
  split
  · rename_i h1
    have := of_decide_eq_true h1
    intro h; injection h with h; omega
  · split
    · intro h; injection h with h; omega
    · intro h; cases h
theorem nibI_some {c : UInt8} {n : Nat} (h : nibS c = some n) : nibI c = n := by unfold nibI; rw [h]
theorem nibI_none {c : UInt8} (h : nibS c = none) : nibI c = -1 := by unfold nibI; rw [h]
def NibQ (i : Int) (w : World) (e : Ending) (w' : World) : Prop := e = .returned (.int .i64 i) ∧ w' = w
set_option maxHeartbeats 2000000 in
theorem nibble_any (c : UInt8) (w : World) : Calls Tryd.prog 86 #[.int .u8 c.toNat] w (NibQ (nibI c) w) := by
  have HI := Lib.hid (fun W => Tryd.strings_IndexByte ⟨#[48, 49, 50, 51, 52, 53, 54, 55, 56, 57, 65, 66, 67, 68, 69, 70]⟩ c.toNat W)
  have HV : Hid (Lib.indexByte (⟨#[48, 49, 50, 51, 52, 53, 54, 55, 56, 57, 65, 66, 67, 68, 69, 70]⟩ : ByteArray).data.toList ((c.toNat : Int)).toNat.toUInt8 = nibI c) := Lib.hid (by rw [byte_back]; exact nib_ix c)
  go_enter Tryd.func86, Tryd.ntmps86
  go_wp2_with fail
  refine (HI.out _).mono ?_
  rintro e w1 ⟨rfl, rfl⟩
  rw [HV.out]
  go_wp2_with fail
  go_ret
  exact ⟨rfl, rfl⟩
def pushL (l : R) : E (R × R) → E (R × R)
  | .error e => .error e
  | .ok (b, r) => .ok (l ++ b, r)
theorem pushL_push (l : R) (c : UInt8) (x : E (R × R)) : pushL l (pushS c x) = pushL (l ++ [c]) x := by
  match x with
  | .ok (b, r) => simp [pushL, pushS]
  | .error e => rfl
def finT : E (R × R) → E (ByteArray × R)
  | .error e => .error e
  | .ok (b, r) => .ok (QryP.bytes b, r)
theorem skip_two (r : R) : skipS (skipS r) = skipS r := by
  induction r with
  | nil => rfl
  | cons c t ih =>
    unfold skipS at *
    rw [List.dropWhile_cons]
    split
    · exact ih
    · rename_i h
      rw [List.dropWhile_cons, if_neg h]
theorem want_skip (c : UInt8) (r : R) : wantS c (skipS r) = wantS c r := by unfold wantS; rw [skip_two]
theorem text_eq (r : R) : textS r = match wantS 34 (skipS r) with
    | .error e => .error e
    | .ok t => finT (pushL [] (strS (skipS r).length t)) := by
  rw [want_skip]
  unfold textS
  match wantS 34 r with
  | .error e => rfl
  | .ok t =>
    dsimp only
    match strS (skipS r).length t with
    | .error e => rfl
    | .ok (b, r') => rfl
/-- What stands behind a backslash. -/
def escS (n0 : Nat) : R → E (R × R)
  | [] => .error (n0, 180)
  | d :: t' => if d = 34 ∨ d = 92 then pushS d (strS n0 t')
        else match t' with
          | a :: b :: t'' => match nibS a, nibS b with
            | some x, some y => if d = 120 then pushS (UInt8.ofNat (16 * x + y)) (strS n0 t'') else .error (n0, 180)
            | _, _ => .error (n0, 180)
          | _ => .error (n0, 180)
theorem str_back (n0 : Nat) (t : R) : strS n0 (92 :: t) = escS n0 t := by
  rw [strS.eq_def]
  show (if (92 : UInt8) = 34 then _ else _) = _
  rw [if_neg (by decide), if_neg (by decide), if_neg (by decide)]
  rfl
theorem str_nl (n0 : Nat) (t : R) : strS n0 (10 :: t) = .error (n0, 180) := by
  rw [strS.eq_def]
  show (if (10 : UInt8) = 34 then _ else _) = _
  rw [if_neg (by decide), if_pos rfl]
theorem esc_two (n0 : Nat) (d : UInt8) (t : R) (h : d = 34 ∨ d = 92) : escS n0 (d :: t) = pushS d (strS n0 t) := by
  rw [escS.eq_def]
  exact if_pos h
theorem esc_short (n0 : Nat) (l : R) (h : ∀ d t, l = d :: t → ¬ (d = 34 ∨ d = 92)) (hl : l.length < 3) : escS n0 l = .error (n0, 180) := by
  match l, h, hl with
  | [], _, _ => rfl
  | [d], h, _ => rw [escS.eq_def]; exact if_neg (h d _ rfl)
  | [d, a], h, _ => rw [escS.eq_def]; exact if_neg (h d _ rfl)
theorem esc_bad (n0 : Nat) (d a b : UInt8) (t : R) (h : ¬ (d = 34 ∨ d = 92)) (hb : d ≠ 120 ∨ nibS a = none ∨ nibS b = none) : escS n0 (d :: a :: b :: t) = .error (n0, 180) := by
  rw [escS.eq_def]
  refine (if_neg h).trans ?_
  dsimp only
  generalize nibS a = x at *
  generalize nibS b = y at *
  match x, y, hb with
  | some x, some y, hb =>
    rcases hb with hb | hb | hb
    · exact if_neg hb
    · cases hb
    · cases hb
  | none, _, _ => rfl
  | some _, none, _ => rfl
theorem esc_hex (n0 : Nat) (a b : UInt8) (x y : Nat) (t : R) (ha : nibS a = some x) (hb : nibS b = some y) : escS n0 (120 :: a :: b :: t) = pushS (UInt8.ofNat (16 * x + y)) (strS n0 t) := by
  rw [escS, if_neg (by decide), ha, hb]
  exact if_pos rfl
theorem ext_rem {s : ByteArray} {a : Nat} (h : a ≤ s.size) : (s.extract a s.size).data.toList = rem s a := by
  simp [rem, ByteArray.data_extract, List.take_of_length_le]
theorem pre_one (c : UInt8) (l : R) : Lib.hasPrefix l [c] = (match l with | [] => false | d :: _ => c == d) := by
  unfold Lib.hasPrefix
  match l with
  | [] => rfl
  | d :: t => simp [List.isPrefixOf]
theorem rem_get {s u : ByteArray} {j : Nat} (hu : u.data.toList = rem s j) {i : Nat} (hi : i < u.size) : ∃ h : j + i < s.size, u[i] = s[j + i] := by
  have hl : u.size = s.size - j := by rw [← rem_len, ← hu]; simp
  refine ⟨by omega, ?_⟩
  have h1 : u[i] = u.data.toList[i]'(by simpa using hi) := by simp; rfl
  rw [h1]
  simp only [hu, rem, List.getElem_drop]
  simp
  rfl
theorem grown_low {w w1 w2 : World} {gp : Nat} (hg : w.grownBy w1 (some gp)) (hb : Below w.heap.size w1 w2) : w.grownBy w2 (some gp) :=
  ⟨hb.os.trans hg.os, hb.tape.trans hg.tape, hb.output.trans hg.output, Nat.le_trans hg.size hb.size, fun i hi hne => (hb.block i hi).trans (hg.block i hi hne)⟩
theorem Pa.low {s : ByteArray} {gp k B : Nat} {w w' : World} (h : Pa s gp k w) (hb : Below B w w') (hB : gp < B) : Pa s gp k w' := ⟨h.blk.below hb hB, h.le⟩
end Go.Proofs.YtinmiekbhoemjaaDoor.Qry
end
