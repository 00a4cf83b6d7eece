/- Contract: the document's Decimal, at every text and scale (written by gen_refdec.py). -/
import Derived.Test.YtfckomjbgopmaaaGreatDoorPack18
import Derived.Outline
import Derived.Deep.CutBlock
set_option linter.unusedVariables false
namespace Go.Proofs.YtfckomjbgopmaaaGreatDoor.OrdRef
open Go.RowKit Go.Lib OrdP Kit Words Owned

/-- The bytes of a text from f on to k. -/
def piece (s : ByteArray) (f k : Nat) : List UInt8 := (s.data.toList.drop f).take (k - f)
theorem piece_nil (s : ByteArray) (f : Nat) : piece s f f = [] := by simp [piece]
theorem piece_len (s : ByteArray) (f k : Nat) (h1 : f ≤ k) (h2 : k ≤ s.size) : (piece s f k).length = k - f := by
  unfold piece; rw [List.length_take, List.length_drop]; simp; omega
theorem piece_snoc (s : ByteArray) (f k : Nat) (h1 : f ≤ k) (h2 : k < s.size) : piece s f (k + 1) = piece s f k ++ [s[k]] := by
  unfold piece
  rw [show k + 1 - f = (k - f) + 1 by omega, List.take_succ_eq_append_getElem (by rw [List.length_drop]; simp; omega)]
  congr 2
  rw [List.getElem_drop]
  congr 1; omega
theorem get_list (s : ByteArray) (k : Nat) (h : k < s.size) : s.data.toList[k]? = some s[k] := by
  rw [List.getElem?_eq_getElem (by simpa using h)]; rfl
theorem drop_get (s : ByteArray) (k : Nat) (h : k < s.size) : s.data.toList.drop k = s[k] :: s.data.toList.drop (k + 1) := by
  rw [List.drop_eq_getElem_cons (by simpa using h)]; rfl
theorem drop_none (s : ByteArray) (k : Nat) (h : s.size ≤ k) : s.data.toList.drop k = [] := List.drop_eq_nil_of_le (by simpa using h)
/-- A loop over digits has come to where they end. -/
theorem scan_end (s : ByteArray) (f k : Nat) (h1 : f ≤ k) (h2 : k ≤ s.size) (hd : (piece s f k).all digB = true) (he : k = s.size ∨ ∃ h : k < s.size, digB s[k] = false) :
    (s.data.toList.drop f).takeWhile digB = piece s f k ∧ (s.data.toList.drop f).dropWhile digB = s.data.toList.drop k := by
  have e : s.data.toList.drop f = piece s f k ++ s.data.toList.drop k := by
    unfold piece
    conv => lhs; rw [← List.take_append_drop (k - f) (s.data.toList.drop f)]
    rw [List.drop_drop, show f + (k - f) = k by omega]
  rw [e]
  refine take_app digB _ _ hd ?_
  intro c hc
  rcases he with he | ⟨h, he⟩
  · rw [drop_none s k (by omega)] at hc; cases hc
  · rw [drop_get s k h] at hc; cases hc; exact he
theorem sumR_cons (n : Int) (c : UInt8) (r : List UInt8) : sumR n (c :: r) = if n < (-9223372036854775808 + ((c.toNat : Int) - 48)).tdiv 10 then none else sumR (10 * n - ((c.toNat : Int) - 48)) r := rfl
/-! 'decF' by what the walk has found. -/
theorem dec_bad {l D w : List UInt8} {sc : Nat} (hD : OrdP.size l = D) (hw : D.takeWhile digB = w) (h : w.length = 0 ∨ 19 < w.length ∨ (1 < w.length ∧ w.getD 0 0 = 48)) : decF l sc = none := by
  unfold decF; rw [hD, hw, if_pos h]
theorem dec_nopoint {l D w : List UInt8} {sc : Nat} (hD : OrdP.size l = D) (hw : D.takeWhile digB = w) (hr : D.dropWhile digB = []) (h : ¬ (w.length = 0 ∨ 19 < w.length ∨ (1 < w.length ∧ w.getD 0 0 = 48))) : decF l sc = fin (below l) (w ++ zeros sc) := by
  unfold decF; rw [hD, hw, if_neg h, hr, if_pos rfl]
theorem dec_badrest {l D w r : List UInt8} {sc : Nat} (hD : OrdP.size l = D) (hw : D.takeWhile digB = w) (hr : D.dropWhile digB = r) (hne : r ≠ []) (h : ¬ (r.getD 0 0 = 46 ∧ (r.drop 1).all digB = true ∧ 1 ≤ (r.drop 1).length ∧ (r.drop 1).length ≤ sc)) : decF l sc = none := by
  unfold decF; rw [hD, hw, hr]
  by_cases hb : w.length = 0 ∨ 19 < w.length ∨ (1 < w.length ∧ w.getD 0 0 = 48)
  · rw [if_pos hb]
  · rw [if_neg hb, if_neg hne, if_neg h]
theorem dec_point {l D w P : List UInt8} {sc : Nat} (hD : OrdP.size l = D) (hw : D.takeWhile digB = w) (hr : D.dropWhile digB = 46 :: P) (hb : ¬ (w.length = 0 ∨ 19 < w.length ∨ (1 < w.length ∧ w.getD 0 0 = 48))) (hP : P.all digB = true) (h1 : 1 ≤ P.length) (h2 : P.length ≤ sc) :
    decF l sc = fin (below l) (w ++ P ++ zeros (sc - P.length)) := by
  unfold decF; rw [hD, hw, hr, if_neg hb, if_neg (by simp)]
  rw [if_pos ⟨rfl, hP, h1, h2⟩]; rfl
/-- What stands behind the test for a point: the digits behind it, where the text's cut has come to, and what that says. -/
def Behind (l W P : List UInt8) (sc k2 n : Nat) : Prop :=
  P.all digB = true ∧ P.length ≤ n ∧ (k2 = n ∧ P.length ≤ sc → decF l sc = fin (below l) (W ++ P ++ zeros (sc - P.length))) ∧ (¬ (k2 = n ∧ P.length ≤ sc) → decF l sc = none)
theorem piece_head (s : ByteArray) (f k : Nat) (h1 : f < k) (h2 : k ≤ s.size) : (piece s f k).getD 0 0 = s[f]'(by omega) := by
  unfold piece
  rw [drop_get s f (by omega), show k - f = (k - f - 1) + 1 by omega, List.take_succ_cons, List.getD_cons_zero]
theorem behind_none (s : ByteArray) (l D W : List UInt8) (sc k : Nat) (hD : OrdP.size l = D) (hw : D.takeWhile digB = W) (hr : D.dropWhile digB = s.data.toList.drop k) (hk : k ≤ s.size)
    (hb : ¬ (W.length = 0 ∨ 19 < W.length ∨ (1 < W.length ∧ W.getD 0 0 = 48))) (hp : ∀ h : k < s.size, s[k].toNat ≠ 46) : Behind l W [] sc k s.size := by
  refine ⟨rfl, Nat.zero_le _, fun h => ?_, fun h => ?_⟩
  · rw [drop_none s k (by omega)] at hr
    rw [dec_nopoint hD hw hr hb]; simp
  · have hlt : k < s.size := by rcases Nat.lt_or_ge k s.size with h1 | h1; exact h1; exact (h ⟨by omega, by simp⟩).elim
    rw [drop_get s k hlt] at hr
    exact dec_badrest hD hw hr (by simp) (fun h1 => hp hlt (by have := congrArg UInt8.toNat h1.1; exact this))
theorem behind_point (s : ByteArray) (l D W : List UInt8) (sc k k2 : Nat) (hD : OrdP.size l = D) (hw : D.takeWhile digB = W) (hr : D.dropWhile digB = s.data.toList.drop k) (hk : k < s.size) (hp : s[k].toNat = 46)
    (hb : ¬ (W.length = 0 ∨ 19 < W.length ∨ (1 < W.length ∧ W.getD 0 0 = 48))) (h1 : k + 1 < k2) (h2 : k2 ≤ s.size)
    (ht : (s.data.toList.drop (k + 1)).takeWhile digB = piece s (k + 1) k2) (hd : (s.data.toList.drop (k + 1)).dropWhile digB = s.data.toList.drop k2) (hall : (piece s (k + 1) k2).all digB = true) : Behind l W (piece s (k + 1) k2) sc k2 s.size := by
  have e46 : s[k] = 46 := UInt8.toNat_inj.1 hp
  rw [drop_get s k hk, e46] at hr
  have hlen := piece_len s (k + 1) k2 (by omega) h2
  refine ⟨hall, by omega, fun h => ?_, fun h => ?_⟩
  · have e : piece s (k + 1) k2 = s.data.toList.drop (k + 1) := by
      unfold piece
      rw [List.take_of_length_le (by rw [List.length_drop]; simp; omega)]
    rw [e] at hall hlen ⊢
    have hl : (s.data.toList.drop (k + 1)).length ≤ sc := by have := h.2; rw [e] at this; exact this
    exact dec_point hD hw hr hb hall (by omega) hl
  · refine dec_badrest hD hw hr (by simp) (fun hh => h ?_)
    obtain ⟨_, ha, _, hl⟩ := hh
    have ha' : (s.data.toList.drop (k + 1)).all digB = true := ha
    have hl' : (s.data.toList.drop (k + 1)).length ≤ sc := hl
    obtain ⟨e1, e2⟩ := take_all digB _ ha'
    rw [ht] at e1
    rw [hd] at e2
    have h3 := congrArg List.length e2
    rw [List.length_drop] at h3
    simp at h3
    exact ⟨by omega, by rw [e1]; exact hl'⟩
theorem behind_empty (s : ByteArray) (l D W : List UInt8) (sc k : Nat) (hD : OrdP.size l = D) (hw : D.takeWhile digB = W) (hr : D.dropWhile digB = s.data.toList.drop k) (hk : k < s.size)
    (hd : (s.data.toList.drop (k + 1)).takeWhile digB = []) : decF l sc = none := by
  rw [drop_get s k hk] at hr
  refine dec_badrest hD hw hr (by simp) (fun hh => ?_)
  obtain ⟨_, ha, h1, _⟩ := hh
  have ha' : (s.data.toList.drop (k + 1)).all digB = true := ha
  obtain ⟨e1, _⟩ := take_all digB _ ha'
  rw [hd] at e1
  have h1' : 1 ≤ (s.data.toList.drop (k + 1)).length := h1
  rw [← e1] at h1'
  simp at h1'
theorem zeros_snoc (k : Nat) : zeros k ++ [48] = zeros (k + 1) := by
  show List.replicate k 48 ++ [48] = List.replicate (k + 1) 48
  rw [List.replicate_succ']

set_option maxRecDepth 100000 in
set_option maxHeartbeats 4000000 in
theorem refDec_0 (s : ByteArray) (sc : Nat) (w : World) (hs : s.size ≤ 140737488351232) (hsc : sc ≤ 9) (hno : ∀ h : 0 < s.size, s[0].toNat ≠ 45) :
    Calls Tryz.prog 51 #[.string s, .int .i64 sc] w (DecRet s.data.toList sc w) := by
  obtain ⟨i0, hi, hz0, hz1, hz2⟩ := info_parts infoU8
  have hbel : below s.data.toList = false := by 
    unfold below
    rw [decide_eq_false_iff_not]
    intro e
    by_cases h : 0 < s.size
    · rw [List.head?_eq_getElem?, get_list s 0 h] at e
      exact hno h (congrArg UInt8.toNat (Option.some.inj e))
    · have hl : s.data.toList.length = s.size := by simp
      have hn : s.data.toList = [] := List.eq_nil_of_length_eq_zero (by omega)
      rw [hn] at e; cases e
  have hsize : OrdP.size s.data.toList = s.data.toList.drop 0 := by unfold OrdP.size; rw [hbel]; simp
  have HBEL := Lib.hid hbel
  have HSIZE := Lib.hid hsize
  clear hbel hsize
  have d1 : decide ((sc : Int) < 0) = false := by rw [decide_eq_false_iff_not]; omega
  have d2 : decide (9 < (sc : Int)) = false := by rw [decide_eq_false_iff_not]; omega
  have d3 : decide (0 < s.size) = false ∨ (decide (0 < s.size) = true ∧ ∃ h : 0 < s.size, ((s[0].toNat : Int) == 45) = false) := by
    by_cases h : 0 < s.size
    · right; exact ⟨by simpa using h, h, by rw [beq_eq_false_iff_ne]; have := hno h; omega⟩
    · left; simpa using h
  clear hno
  go_enter Tryz.func51, Tryz.ntmps51
  go_upto_region 4 with fail
  go_cut [7] (fun b wx => b = .bool false ∧ w = wx)
  case first =>
    rcases d3 with d3 | ⟨d3, hpos, d4⟩
    all_goals
      go_wp2_with fail
      go_meet
      exact ⟨rfl, rfl⟩
  case rest =>
  obtain ⟨rfl, rfl⟩ := hcut
  go_upto_block 0 with fail
  clear d3 d1 d2
  go_cut [6, 8] (fun a v wx => ∃ k : Nat, 0 ≤ k ∧ k ≤ s.size ∧ a = .int .i64 k ∧ Hid ((piece s 0 k).all digB = true ∧ (k = s.size ∨ ∃ h : k < s.size, digB s[k] = false) ∧ wx.ownsRow w.heap.size 5 1 v (piece s 0 k).length (byteCells (piece s 0 k)) ∧ Below w.heap.size w wx))
  case first =>
    go_wp2_with fail
    go_loopw [6, 8] (fun a v wr => ∃ k : Nat, 0 ≤ k ∧ k ≤ s.size ∧ a = .int .i64 k ∧ Hid ((piece s 0 k).all digB = true ∧ wr.ownsRow w.heap.size 5 1 v (piece s 0 k).length (byteCells (piece s 0 k)) ∧ Below w.heap.size w wr)) (fun a _ _ => s.size - (RowKit.intOf a).toNat)
    case atStart => exact ⟨0, Nat.le_refl _, by omega, rfl, Lib.hid ⟨by rw [piece_nil]; rfl, by rw [piece_nil]; exact World.ownsRow_nil _ _ _ _, Below.refl _ _⟩⟩
    case round =>
      obtain ⟨k, hk1, hk2, rfl, HH⟩ := hrel
      by_cases hlt : k < s.size
      · have hlb : decide (k < s.size) = true := by rw [decide_eq_true_eq]; exact hlt
        cases hd : digB s[k] with
        | false =>
          have HD := Lib.hid hd
          have HC := Lib.hid (digit_no s[k] · hd)
          clear hd
          go_wp2_with fail
          refine (HC.out _).mono ?_
          rintro e w' ⟨rfl, rfl⟩
          go_wp2_with fail
          go_meet
          exact ⟨k, hk1, hk2, rfl, Lib.hid ⟨HH.out.1, .inr ⟨hlt, HD.out⟩, HH.out.2.1, HH.out.2.2⟩⟩
        | true =>
          have HD := Lib.hid hd
          have HC := Lib.hid (digit_yes s[k] · hd)
          clear hd
          have hpl := piece_len s 0 k hk1 hk2
          have hps := piece_snoc s 0 k hk1 hlt
          have HPS := Lib.hid hps
          have hpl2 : (piece s 0 k).length + 1 ≤ 140737488351232 := by omega
          clear hps hpl
          obtain ⟨n, hn⟩ : ∃ n, (piece s 0 k).length = n := ⟨_, rfl⟩
          have hown := HH.out.2.1
          have hB := HH.out.2.2
          rw [hn] at hown hpl2
          have HN := Lib.hid hn
          clear hn
          go_wp2_with fail
          refine (HC.out _).mono ?_
          rintro e w' ⟨rfl, rfl⟩
          go_wp2_with (at_builtin; refine wpList_append_own _ rfl (.tmp 40) (.tmp 44) 109 rfl w.heap.size 5 i0 (.int .u8 0) 1 1 Tryz.underlying109 hi hz0 hz1 hz2 rfl (by decide) _ n (byteCells (piece s 0 k)) rfl (hown.alloc _) ⟨wr.heap.size, 0, none⟩ 1 1 [.int .u8 (s[k].toNat : Int)] rfl rfl ?c1 ?c2 ?c3 ?c4 ?c5 ?_)
          case c1 => exact cell_one_new _ _ _
          case c2 => intro u hu; simp at hu; subst hu; rfl
          case c3 => unfold maxLen; omega
          case c4 => omega
          case c5 => have := hB.size; simp; omega
          intro v1 w3 hown3 hgrow _
          have hb3 : Below w.heap.size w w3 := (hB.alloc hB.size _).grown hgrow (by have := hB.size; simp; omega) (fun r e => (hown.lt r e).1)
          have hown3' : w3.ownsRow w.heap.size 5 1 v1 (piece s 0 (k + 1)).length (byteCells (piece s 0 (k + 1))) := by
            rw [HPS.out, List.length_append, HN.out, byteCells_append]; exact hown3
          have HFIN : Hid ((piece s 0 (k + 1)).all digB = true ∧ w3.ownsRow w.heap.size 5 1 v1 (piece s 0 (k + 1)).length (byteCells (piece s 0 (k + 1))) ∧ Below w.heap.size w w3) :=
            Lib.hid ⟨by rw [HPS.out, List.all_append, HH.out.1]; simp [HD.out], hown3', hb3⟩
          clear hown3 hgrow hb3 hown3' hown hB
          go_wp2_with fail
          go_roundw
          case rel => exact ⟨k + 1, by omega, by omega, by go_num, HFIN⟩
          case measure => simp [RowKit.intOf]; omega
      · have hlb : decide (k < s.size) = false := by rw [decide_eq_false_iff_not]; exact hlt
        go_wp2_with fail
        go_meet
        exact ⟨k, hk1, hk2, rfl, Lib.hid ⟨HH.out.1, .inl (by omega), HH.out.2.1, HH.out.2.2⟩⟩
  case rest =>
    obtain ⟨k, hk1, hk2, rfl, HH⟩ := hcut
    have hse := scan_end s 0 k hk1 hk2 HH.out.1 HH.out.2.1
    have hpl := piece_len s 0 k hk1 hk2
    have hown := HH.out.2.2.1
    have hB := HH.out.2.2.2
    have hWd := HH.out.1
    clear HH
    obtain ⟨W, hW⟩ : ∃ W, piece s 0 k = W := ⟨_, rfl⟩
    have hhead := piece_head s 0 k
    rw [hW] at hse hpl hown hhead hWd
    have HWD := Lib.hid hWd
    have HSE := Lib.hid hse
    have HB := Lib.hid hB
    have HOWN := Lib.hid hown
    clear hse hW hown hB hWd
    by_cases hk0 : k = 0
    · have t1 : ((k : Int) == 0) = true := by rw [beq_iff_eq]; omega
      have hnone : decF s.data.toList sc = none := dec_bad HSIZE.out HSE.out.1 (.inl (by omega))
      have HNONE := Lib.hid hnone
      clear hnone hhead hpl hk0
      go_wp2_with fail
      go_ret2
      exact dec_none hsc HNONE.out HB.out
    have t1 : ((k : Int) == 0) = false := by rw [beq_eq_false_iff_ne]; omega
    have hkF : 0 < k := by omega
    have hhead := hhead hkF hk2
    clear hk0
    by_cases hk19 : 19 < k - 0
    · have t2 : decide (19 < (k : Int)) = true := by rw [decide_eq_true_eq]; omega
      have hnone : decF s.data.toList sc = none := dec_bad HSIZE.out HSE.out.1 (.inr (.inl (by omega)))
      have HNONE := Lib.hid hnone
      clear hnone hhead hpl hk19
      go_wp2_with fail
      go_ret2
      exact dec_none hsc HNONE.out HB.out
    have t2 : decide (19 < (k : Int)) = false := by rw [decide_eq_false_iff_not]; omega
    have hF : 0 < s.size := by omega
    by_cases hbad : s[0].toNat = 48 ∧ 1 < k - 0
    · have t3 : ((s[0].toNat : Int) == 48) = true := by rw [beq_iff_eq]; omega
      have t4 : decide (1 < (k : Int)) = true := by rw [decide_eq_true_eq]; omega
      have hnone : decF s.data.toList sc = none := dec_bad HSIZE.out HSE.out.1 (.inr (.inr ⟨by omega, by rw [hhead]; exact UInt8.toNat_inj.1 hbad.1⟩))
      have HNONE := Lib.hid hnone
      clear hnone hhead hpl hk19 hbad
      go_wp2_with fail
      go_ret2
      exact dec_none hsc HNONE.out HB.out
    have hgood : ¬ (W.length = 0 ∨ 19 < W.length ∨ (1 < W.length ∧ W.getD 0 0 = 48)) := by
      rintro (h | h | ⟨h1, h2⟩)
      · omega
      · omega
      · rw [hhead] at h2; exact hbad ⟨by rw [h2]; rfl, by omega⟩
    have HGOOD := Lib.hid hgood
    clear hgood hhead
    have t34 : ((s[0].toNat : Int) == 48) = false ∨ (((s[0].toNat : Int) == 48) = true ∧ decide (1 < (k : Int)) = false) := by
      by_cases h48 : s[0].toNat = 48
      · right; exact ⟨by rw [beq_iff_eq]; omega, by rw [decide_eq_false_iff_not]; omega⟩
      · left; rw [beq_eq_false_iff_ne]; omega
    have HPL := Lib.hid hpl
    clear hbad hk19 hpl
    go_upto_region 12 with fail
    go_cut [68] (fun b wx => b = .bool false ∧ wx = wc)
    case first =>
      rcases t34 with t3 | ⟨t3, t4⟩
      all_goals
        go_wp2_with fail
        go_meet
        exact ⟨rfl, rfl⟩
    case rest =>
    obtain ⟨rfl, rfl⟩ := hcut
    clear t34 t1 t2
    go_upto_region 15 with fail
    go_cut [78] (fun b wx => ((b = .bool false ∧ Hid (∀ h : k < s.size, s[k].toNat ≠ 46)) ∨ (b = .bool true ∧ Hid (∃ h : k < s.size, s[k].toNat = 46))) ∧ wx = wc)
    case first =>
      by_cases hlt : k < s.size
      · have hlb : decide (k < s.size) = true := by rw [decide_eq_true_eq]; exact hlt
        by_cases hp : s[k].toNat = 46
        · have t5 : ((s[k].toNat : Int) == 46) = true := by rw [beq_iff_eq]; omega
          have HPT := Lib.hid hp
          clear hp
          go_wp2_with fail
          go_meet
          exact ⟨.inr ⟨rfl, Lib.hid ⟨hlt, HPT.out⟩⟩, rfl⟩
        · have t5 : ((s[k].toNat : Int) == 46) = false := by rw [beq_eq_false_iff_ne]; omega
          have HPT := Lib.hid hp
          clear hp
          go_wp2_with fail
          go_meet
          exact ⟨.inl ⟨rfl, Lib.hid fun _ => HPT.out⟩, rfl⟩
      · have hlb : decide (k < s.size) = false := by rw [decide_eq_false_iff_not]; exact hlt
        have HPT := Lib.hid hlt
        clear hlt
        go_wp2_with fail
        go_meet
        exact ⟨.inl ⟨rfl, Lib.hid fun h => (HPT.out h).elim⟩, rfl⟩
    case rest =>
    obtain ⟨hb78, rfl⟩ := hcut
    go_upto_if 78 with fail
    go_cut [6, 8, 10] (fun a v p wx => ∃ (k2 : Nat) (P : List UInt8), k2 ≤ s.size ∧ P.length ≤ s.size ∧ a = .int .i64 k2 ∧ p = .int .i64 P.length ∧ Hid (Behind s.data.toList W P sc k2 s.size ∧ wx.ownsRow w.heap.size 5 1 v (W ++ P).length (byteCells (W ++ P)) ∧ Below w.heap.size w wx))
    case first =>
      rcases hb78 with ⟨rfl, HNP⟩ | ⟨rfl, HPT⟩
      · go_wp2_with fail
        go_meet
        exact ⟨k, [], hk2, Nat.zero_le _, rfl, rfl, Lib.hid ⟨behind_none s _ _ W sc k HSIZE.out HSE.out.1 HSE.out.2 hk2 HGOOD.out HNP.out, by rw [List.append_nil]; exact HOWN.out, HB.out⟩⟩
      · have hkl : k < s.size := HPT.out.1
        go_upto_block 2 with fail
        go_cut [6, 8, 10] (fun a v p wx => ∃ k2 q : Nat, k + 1 + q ≤ k2 ∧ k2 ≤ k + 1 + q ∧ k2 ≤ s.size ∧ a = .int .i64 k2 ∧ p = .int .i64 q ∧ Hid ((piece s (k + 1) k2).all digB = true ∧ (k2 = s.size ∨ ∃ h : k2 < s.size, digB s[k2] = false) ∧ wx.ownsRow w.heap.size 5 1 v (W ++ piece s (k + 1) k2).length (byteCells (W ++ piece s (k + 1) k2)) ∧ Below w.heap.size w wx))
        case first =>
          go_wp2_with fail
          go_loopw [6, 8, 10] (fun a v p wr => ∃ k2 q : Nat, k + 1 + q ≤ k2 ∧ k2 ≤ k + 1 + q ∧ k2 ≤ s.size ∧ a = .int .i64 k2 ∧ p = .int .i64 q ∧ Hid ((piece s (k + 1) k2).all digB = true ∧ wr.ownsRow w.heap.size 5 1 v (W ++ piece s (k + 1) k2).length (byteCells (W ++ piece s (k + 1) k2)) ∧ Below w.heap.size w wr)) (fun a _ _ _ => s.size - (RowKit.intOf a).toNat)
          case atStart => exact ⟨k + 1, 0, by omega, by omega, by omega, by go_num, rfl, Lib.hid ⟨by rw [piece_nil]; rfl, by rw [piece_nil, List.append_nil]; exact HOWN.out, HB.out⟩⟩
          case round =>
            obtain ⟨k2, q, hq1, hq2, hk4, rfl, rfl, HH⟩ := hrel
            by_cases hlt : k2 < s.size
            · have hlb : decide (k2 < s.size) = true := by rw [decide_eq_true_eq]; exact hlt
              cases hd : digB s[k2] with
              | false =>
                have HD := Lib.hid hd
                have HC := Lib.hid (digit_no s[k2] · hd)
                clear hd
                go_wp2_with fail
                refine (HC.out _).mono ?_
                rintro e w' ⟨rfl, rfl⟩
                go_wp2_with fail
                go_meet
                exact ⟨k2, q, hq1, hq2, hk4, rfl, rfl, Lib.hid ⟨HH.out.1, .inr ⟨hlt, HD.out⟩, HH.out.2.1, HH.out.2.2⟩⟩
              | true =>
                have HD := Lib.hid hd
                have HC := Lib.hid (digit_yes s[k2] · hd)
                clear hd
                have hpl := piece_len s (k + 1) k2 (by omega) hk4
                have hps := piece_snoc s (k + 1) k2 (by omega) hlt
                have HPS := Lib.hid hps
                have hpl2 : (W ++ piece s (k + 1) k2).length + 1 ≤ 140737488355328 := by rw [List.length_append, hpl, HPL.out]; omega
                clear hps hpl
                obtain ⟨n, hn⟩ : ∃ n, (W ++ piece s (k + 1) k2).length = n := ⟨_, rfl⟩
                have hown := HH.out.2.1
                have hB := HH.out.2.2
                rw [hn] at hown hpl2
                have HN := Lib.hid hn
                clear hn
                go_wp2_with fail
                refine (HC.out _).mono ?_
                rintro e w' ⟨rfl, rfl⟩
                go_wp2_with (at_builtin; refine wpList_append_own _ rfl (.tmp 91) (.tmp 95) 109 rfl w.heap.size 5 i0 (.int .u8 0) 1 1 Tryz.underlying109 hi hz0 hz1 hz2 rfl (by decide) _ n (byteCells (W ++ piece s (k + 1) k2)) rfl (hown.alloc _) ⟨wr.heap.size, 0, none⟩ 1 1 [.int .u8 (s[k2].toNat : Int)] rfl rfl ?c1 ?c2 ?c3 ?c4 ?c5 ?_)
                case c1 => exact cell_one_new _ _ _
                case c2 => intro u hu; simp at hu; subst hu; rfl
                case c3 => unfold maxLen; omega
                case c4 => omega
                case c5 => have := hB.size; simp; omega
                intro v1 w3 hown3 hgrow _
                have hb3 : Below w.heap.size w w3 := (hB.alloc hB.size _).grown hgrow (by have := hB.size; simp; omega) (fun r e => (hown.lt r e).1)
                have hown3' : w3.ownsRow w.heap.size 5 1 v1 (W ++ piece s (k + 1) (k2 + 1)).length (byteCells (W ++ piece s (k + 1) (k2 + 1))) := by
                  rw [HPS.out, ← List.append_assoc, List.length_append, HN.out, byteCells_append]; exact hown3
                have HFIN : Hid ((piece s (k + 1) (k2 + 1)).all digB = true ∧ w3.ownsRow w.heap.size 5 1 v1 (W ++ piece s (k + 1) (k2 + 1)).length (byteCells (W ++ piece s (k + 1) (k2 + 1))) ∧ Below w.heap.size w w3) :=
                  Lib.hid ⟨by rw [HPS.out, List.all_append, HH.out.1]; simp [HD.out], hown3', hb3⟩
                clear hown3 hgrow hb3 hown3' hown hB
                go_wp2_with fail
                go_roundw
                case rel => exact ⟨k2 + 1, q + 1, by omega, by omega, by omega, by go_num, by go_num, HFIN⟩
                case measure => simp [RowKit.intOf]; omega
            · have hlb : decide (k2 < s.size) = false := by rw [decide_eq_false_iff_not]; exact hlt
              go_wp2_with fail
              go_meet
              exact ⟨k2, q, hq1, hq2, hk4, rfl, rfl, Lib.hid ⟨HH.out.1, .inl (by omega), HH.out.2.1, HH.out.2.2⟩⟩
        case rest =>
          obtain ⟨k2, q, hq1, hq2, hk4, rfl, rfl, HH⟩ := hcut
          have hse2 := scan_end s (k + 1) k2 (by omega) hk4 HH.out.1 HH.out.2.1
          have HSE2 := Lib.hid hse2
          clear hse2
          by_cases hp0 : q = 0
          · have t6 : ((q : Int) == 0) = true := by rw [beq_iff_eq]; omega
            have hnone : decF s.data.toList sc = none := behind_empty s _ _ W sc k HSIZE.out HSE.out.1 HSE.out.2 hkl (by rw [HSE2.out.1, show k2 = k + 1 by omega, piece_nil])
            have HNONE := Lib.hid hnone
            clear hnone hp0
            go_wp2_with fail
            go_ret2
            exact dec_none hsc HNONE.out HH.out.2.2.2
          · have t6 : ((q : Int) == 0) = false := by rw [beq_eq_false_iff_ne]; omega
            have hbh := behind_point s _ _ W sc k k2 HSIZE.out HSE.out.1 HSE.out.2 hkl HPT.out.2 HGOOD.out (by omega) hk4 HSE2.out.1 HSE2.out.2 HH.out.1
            have HBH := Lib.hid hbh
            clear hbh hp0
            go_wp2_with fail
            go_meet
            have hlp := piece_len s (k + 1) k2 (by omega) hk4
            exact ⟨k2, piece s (k + 1) k2, hk4, by omega, rfl, by rw [hlp, show k2 - (k + 1) = q by omega], Lib.hid ⟨HBH.out, HH.out.2.2.1, HH.out.2.2.2⟩⟩
    case rest =>
    obtain ⟨k2, P, hk3, hPs, rfl, rfl, HH⟩ := hcut
    clear hb78
    by_cases hgo : k2 = s.size ∧ P.length ≤ sc
    case neg =>
      have hnone : decF s.data.toList sc = none := HH.out.1.2.2.2 hgo
      have HNONE := Lib.hid hnone
      have t7 : decide (k2 < s.size) = true ∨ (decide (k2 < s.size) = false ∧ decide (sc < P.length) = true) := by
        by_cases h : k2 < s.size
        · left; rw [decide_eq_true_eq]; exact h
        · right; exact ⟨by rw [decide_eq_false_iff_not]; exact h, by rw [decide_eq_true_eq]; omega⟩
      clear hnone hgo
      rcases t7 with t7 | ⟨t7, t8⟩
      all_goals
        go_wp2_with fail
        go_ret2
        exact dec_none hsc HNONE.out HH.out.2.2
    obtain ⟨hg1, hg2⟩ := hgo
    have hdec := HH.out.1.2.2.1 ⟨hg1, hg2⟩
    have hPd := HH.out.1.1
    have HDEC := Lib.hid hdec
    have HPD := Lib.hid hPd
    have HOWN2 := Lib.hid HH.out.2.1
    have HB2 := Lib.hid HH.out.2.2
    have t7 : decide (k2 < s.size) = false := by rw [decide_eq_false_iff_not]; omega
    have t8 : decide (sc < P.length) = false := by rw [decide_eq_false_iff_not]; omega
    have hWP : W.length + P.length ≤ 28 := by
      rcases Nat.lt_or_ge 19 W.length with h | h
      · exact (HGOOD.out (.inr (.inl h))).elim
      · omega
    clear hdec hPd HH HOWN HB hg1
    go_upto_block 4 with fail
    clear t7 t8
    go_cut [8, 10] (fun v p wx => Hid (wx.ownsRow w.heap.size 5 1 v (W ++ P ++ zeros (sc - P.length)).length (byteCells (W ++ P ++ zeros (sc - P.length))) ∧ Below w.heap.size w wx))
    case first =>
      go_wp2_with fail
      go_loopw [8, 10] (fun v p wr => ∃ q z : Nat, P.length + z ≤ q ∧ q ≤ P.length + z ∧ q ≤ sc ∧ p = .int .i64 q ∧ Hid (wr.ownsRow w.heap.size 5 1 v (W ++ P ++ zeros z).length (byteCells (W ++ P ++ zeros z)) ∧ Below w.heap.size w wr)) (fun _ p _ => sc - (RowKit.intOf p).toNat)
      case atStart => exact ⟨P.length, 0, by omega, by omega, hg2, rfl, Lib.hid ⟨by rw [show zeros 0 = [] from rfl, List.append_nil]; exact HOWN2.out, HB2.out⟩⟩
      case round =>
        obtain ⟨q, z, hq1, hq2, hq3, rfl, HH⟩ := hrel
        by_cases hlt : q < sc
        · have hlb : decide (q < sc) = true := by rw [decide_eq_true_eq]; exact hlt
          obtain ⟨n, hn⟩ : ∃ n, (W ++ P ++ zeros z).length = n := ⟨_, rfl⟩
          have hown := HH.out.1
          have hB := HH.out.2
          have hpl2 : n + 1 ≤ 140737488355328 := by rw [← hn, List.length_append, List.length_append, zeros, List.length_replicate]; omega
          rw [hn] at hown
          have HN := Lib.hid hn
          clear hn
          go_wp2_with (at_builtin; refine wpList_append_own _ rfl (.tmp 115) (.tmp 116) 109 rfl w.heap.size 5 i0 (.int .u8 0) 1 1 Tryz.underlying109 hi hz0 hz1 hz2 rfl (by decide) _ n (byteCells (W ++ P ++ zeros z)) rfl (hown.alloc _) ⟨wr.heap.size, 0, none⟩ 1 1 [.int .u8 48] rfl rfl ?c1 ?c2 ?c3 ?c4 ?c5 ?_)
          case c1 => exact cell_one_new _ _ _
          case c2 => intro u hu; simp at hu; subst hu; rfl
          case c3 => unfold maxLen; omega
          case c4 => omega
          case c5 => have := hB.size; simp; omega
          intro v1 w3 hown3 hgrow _
          have hb3 : Below w.heap.size w w3 := (hB.alloc hB.size _).grown hgrow (by have := hB.size; simp; omega) (fun r e => (hown.lt r e).1)
          have hown3' : w3.ownsRow w.heap.size 5 1 v1 (W ++ P ++ zeros (z + 1)).length (byteCells (W ++ P ++ zeros (z + 1))) := by
            rw [← zeros_snoc, ← List.append_assoc, List.length_append, HN.out, byteCells_append, List.append_assoc W P]; exact hown3
          have HFIN := Lib.hid (And.intro hown3' hb3)
          clear hown3 hgrow hb3 hown3' hown hB
          go_wp2_with fail
          go_roundw
          case rel => exact ⟨q + 1, z + 1, by omega, by omega, by omega, by go_num, HFIN⟩
          case measure => simp [RowKit.intOf]; omega
        · have hlb : decide (q < sc) = false := by rw [decide_eq_false_iff_not]; exact hlt
          go_wp2_with fail
          go_meet
          exact Lib.hid ⟨by rw [show sc - P.length = z by omega]; exact HH.out.1, HH.out.2⟩
    case rest =>
    have hcut2 := hcut
    clear hcut
    obtain ⟨A, hA⟩ : ∃ A, W ++ P ++ zeros (sc - P.length) = A := ⟨_, rfl⟩
    have hAd : A.all digB = true := by rw [← hA, List.all_append, List.all_append, HWD.out, HPD.out, zeros_digits]; rfl
    have hAl : A.length ≤ 40 := by rw [← hA, List.length_append, List.length_append, zeros, List.length_replicate]; omega
    have hown := hcut2.out.1
    have HB3 := Lib.hid hcut2.out.2
    have hdec := HDEC.out
    rw [hA] at hown hdec
    have HDEC2 := Lib.hid hdec
    obtain ⟨ao, cap, hv⟩ := own_slice hown
    subst hv
    clear hdec hcut2 hA HDEC HPD HOWN2 HB2 HWD HGOOD HSE HPL hWP hPs
    have HAD := Lib.hid hAd
    clear hAd
    have hfr := finR_eq false A HAD.out
    have HFR := Lib.hid hfr
    clear hfr
    go_wp2_with fail
    go_loop [11, 12] (fun n i => ∃ (m : Int) (j : Nat), j ≤ A.length ∧ i = .int .i64 j ∧ n = .int .i64 m ∧ -9223372036854775808 ≤ m ∧ m ≤ 0 ∧ Hid (sumR 0 A = sumR m (A.drop j))) (fun _ i => A.length - (RowKit.intOf i).toNat)
    case atStart => exact ⟨0, 0, Nat.zero_le _, rfl, rfl, by omega, by omega, Lib.hid rfl⟩
    case round =>
      obtain ⟨m, j, hj, rfl, rfl, hm1, hm2, HS⟩ := hrel
      by_cases hlt : j < A.length
      · obtain ⟨g, rfl, hg, _, hc⟩ := own_cell hown hlt
        have hcell : wc.cell? ⟨g, j, none⟩ = some (.int .u8 (A[j].toNat : Int)) := hc j _ (by simp [byteCells, List.getElem?_eq_getElem hlt])
        have hx : 48 ≤ A[j].toNat ∧ A[j].toNat ≤ 57 := of_decide_eq_true (List.all_eq_true.1 HAD.out _ (List.getElem_mem hlt))
        have hst : sumR m (A.drop j) = if m < (-9223372036854775808 + ((A[j].toNat : Int) - 48)).tdiv 10 then none else sumR (10 * m - ((A[j].toNat : Int) - 48)) (A.drop (j + 1)) := by
          rewrite [List.drop_eq_getElem_cons hlt, sumR_cons]; exact rfl
        have HST := Lib.hid hst
        obtain ⟨x, hx'⟩ : ∃ x : Nat, A[j].toNat = x := ⟨_, rfl⟩
        have HST : Hid (sumR m (A.drop j) = if m < (-9223372036854775808 + ((x : Int) - 48)).tdiv 10 then none else sumR (10 * m - ((x : Int) - 48)) (A.drop (j + 1))) := by have := hst; rw [hx'] at this; exact Lib.hid this
        rw [hx'] at hcell hx
        clear hst hx' hc
        obtain ⟨hx1, hx2⟩ := hx
        have hlb : decide (j < A.length) = true := by rw [decide_eq_true_eq]; exact hlt
        by_cases hlow : m < (-9223372036854775808 + ((x : Int) - 48)).tdiv 10
        · have t8 : decide (m < (-9223372036854775808 + ((x : Int) - 48)).tdiv 10) = true := by rw [decide_eq_true_eq]; exact hlow
          have hnone : decF s.data.toList sc = none := by
            have h1 : sumR 0 A = none := HS.out.trans (HST.out.trans (if_pos hlow))
            rw [HDEC2.out, HBEL.out, ← HFR.out]; unfold finR; rw [h1]
          have HNONE := Lib.hid hnone
          clear hnone hlow
          go_wp2_with fail
          go_ret2
          exact dec_none hsc HNONE.out HB3.out
        · have t8 : decide (m < (-9223372036854775808 + ((x : Int) - 48)).tdiv 10) = false := by rw [decide_eq_false_iff_not]; exact hlow
          have hs2 : Hid (sumR 0 A = sumR (10 * m - ((x : Int) - 48)) (A.drop (j + 1))) := Lib.hid (HS.out.trans (HST.out.trans (if_neg hlow)))
          have ht : (-9223372036854775808 + ((x : Int) - 48)).tdiv 10 = -((9223372036854775808 - ((x : Int) - 48)) / 10) := by
            rewrite [show (-9223372036854775808 + ((x : Int) - 48)) = -(9223372036854775808 - ((x : Int) - 48)) by omega, Int.neg_tdiv, Int.tdiv_eq_ediv_of_nonneg (by omega)]; exact rfl
          have hb1 : -9223372036854775808 ≤ 10 * m := by omega
          have hb2 : -9223372036854775808 ≤ 10 * m - ((x : Int) - 48) := by omega
          have hb3 : 10 * m - ((x : Int) - 48) ≤ 0 := by omega
          clear hlow ht
          go_wp2_with fail
          go_round
          case rel => exact ⟨10 * m - ((x : Int) - 48), j + 1, by omega, by go_num, rfl, hb2, hb3, hs2⟩
          case measure => simp [RowKit.intOf]; omega
      · have hlb : decide (j < A.length) = false := by rw [decide_eq_false_iff_not]; exact hlt
        have HS : Hid (sumR 0 A = some m) := Lib.hid (HS.out.trans (by rw [List.drop_eq_nil_of_le (by omega)]; rfl))
        by_cases hml : m = -9223372036854775808
        · have t9 : (m == -9223372036854775808) = true := by rw [beq_iff_eq]; exact hml
          have HML := Lib.hid hml
          clear hml
          go_wp2_with fail
          go_ret2
          exact dec_none hsc (by rw [HDEC2.out, HBEL.out, ← HFR.out]; unfold finR; rw [HS.out]; exact if_pos HML.out) HB3.out
        · have t9 : (m == -9223372036854775808) = false := by rw [beq_eq_false_iff_ne]; exact hml
          have HML := Lib.hid hml
          have hm3 : -9223372036854775808 < m := by omega
          clear hml
          go_wp2_with fail
          go_ret2
          exact dec_some hsc (by rw [HDEC2.out, HBEL.out, ← HFR.out]; unfold finR; rw [HS.out]; exact if_neg HML.out) HB3.out

set_option maxRecDepth 100000 in
set_option maxHeartbeats 4000000 in
theorem refDec_1 (s : ByteArray) (sc : Nat) (w : World) (hs : s.size ≤ 140737488351232) (hsc : sc ≤ 9) (hpos : 0 < s.size) (hmin : s[0].toNat = 45) :
    Calls Tryz.prog 51 #[.string s, .int .i64 sc] w (DecRet s.data.toList sc w) := by
  obtain ⟨i0, hi, hz0, hz1, hz2⟩ := info_parts infoU8
  have hbel : below s.data.toList = true := by 
    unfold below
    rw [decide_eq_true_eq, List.head?_eq_getElem?, get_list s 0 hpos]
    exact congrArg some (UInt8.toNat_inj.1 hmin)
  have hsize : OrdP.size s.data.toList = s.data.toList.drop 1 := by unfold OrdP.size; rw [hbel]; simp
  have HBEL := Lib.hid hbel
  have HSIZE := Lib.hid hsize
  clear hbel hsize
  have d1 : decide ((sc : Int) < 0) = false := by rw [decide_eq_false_iff_not]; omega
  have d2 : decide (9 < (sc : Int)) = false := by rw [decide_eq_false_iff_not]; omega
  have d3 : decide (0 < s.size) = true := by simpa using hpos
  have d4 : ((s[0].toNat : Int) == 45) = true := by rw [beq_iff_eq]; omega
  clear hmin
  go_enter Tryz.func51, Tryz.ntmps51
  go_upto_region 4 with fail
  go_cut [7] (fun b wx => b = .bool true ∧ w = wx)
  case first =>
    skip
    all_goals
      go_wp2_with fail
      go_meet
      exact ⟨rfl, rfl⟩
  case rest =>
  obtain ⟨rfl, rfl⟩ := hcut
  go_upto_block 0 with fail
  clear d3 d4 d1 d2
  go_cut [6, 8] (fun a v wx => ∃ k : Nat, 1 ≤ k ∧ k ≤ s.size ∧ a = .int .i64 k ∧ Hid ((piece s 1 k).all digB = true ∧ (k = s.size ∨ ∃ h : k < s.size, digB s[k] = false) ∧ wx.ownsRow w.heap.size 5 1 v (piece s 1 k).length (byteCells (piece s 1 k)) ∧ Below w.heap.size w wx))
  case first =>
    go_wp2_with fail
    go_loopw [6, 8] (fun a v wr => ∃ k : Nat, 1 ≤ k ∧ k ≤ s.size ∧ a = .int .i64 k ∧ Hid ((piece s 1 k).all digB = true ∧ wr.ownsRow w.heap.size 5 1 v (piece s 1 k).length (byteCells (piece s 1 k)) ∧ Below w.heap.size w wr)) (fun a _ _ => s.size - (RowKit.intOf a).toNat)
    case atStart => exact ⟨1, Nat.le_refl _, by omega, rfl, Lib.hid ⟨by rw [piece_nil]; rfl, by rw [piece_nil]; exact World.ownsRow_nil _ _ _ _, Below.refl _ _⟩⟩
    case round =>
      obtain ⟨k, hk1, hk2, rfl, HH⟩ := hrel
      by_cases hlt : k < s.size
      · have hlb : decide (k < s.size) = true := by rw [decide_eq_true_eq]; exact hlt
        cases hd : digB s[k] with
        | false =>
          have HD := Lib.hid hd
          have HC := Lib.hid (digit_no s[k] · hd)
          clear hd
          go_wp2_with fail
          refine (HC.out _).mono ?_
          rintro e w' ⟨rfl, rfl⟩
          go_wp2_with fail
          go_meet
          exact ⟨k, hk1, hk2, rfl, Lib.hid ⟨HH.out.1, .inr ⟨hlt, HD.out⟩, HH.out.2.1, HH.out.2.2⟩⟩
        | true =>
          have HD := Lib.hid hd
          have HC := Lib.hid (digit_yes s[k] · hd)
          clear hd
          have hpl := piece_len s 1 k hk1 hk2
          have hps := piece_snoc s 1 k hk1 hlt
          have HPS := Lib.hid hps
          have hpl2 : (piece s 1 k).length + 1 ≤ 140737488351232 := by omega
          clear hps hpl
          obtain ⟨n, hn⟩ : ∃ n, (piece s 1 k).length = n := ⟨_, rfl⟩
          have hown := HH.out.2.1
          have hB := HH.out.2.2
          rw [hn] at hown hpl2
          have HN := Lib.hid hn
          clear hn
          go_wp2_with fail
          refine (HC.out _).mono ?_
          rintro e w' ⟨rfl, rfl⟩
          go_wp2_with (at_builtin; refine wpList_append_own _ rfl (.tmp 40) (.tmp 44) 109 rfl w.heap.size 5 i0 (.int .u8 0) 1 1 Tryz.underlying109 hi hz0 hz1 hz2 rfl (by decide) _ n (byteCells (piece s 1 k)) rfl (hown.alloc _) ⟨wr.heap.size, 0, none⟩ 1 1 [.int .u8 (s[k].toNat : Int)] rfl rfl ?c1 ?c2 ?c3 ?c4 ?c5 ?_)
          case c1 => exact cell_one_new _ _ _
          case c2 => intro u hu; simp at hu; subst hu; rfl
          case c3 => unfold maxLen; omega
          case c4 => omega
          case c5 => have := hB.size; simp; omega
          intro v1 w3 hown3 hgrow _
          have hb3 : Below w.heap.size w w3 := (hB.alloc hB.size _).grown hgrow (by have := hB.size; simp; omega) (fun r e => (hown.lt r e).1)
          have hown3' : w3.ownsRow w.heap.size 5 1 v1 (piece s 1 (k + 1)).length (byteCells (piece s 1 (k + 1))) := by
            rw [HPS.out, List.length_append, HN.out, byteCells_append]; exact hown3
          have HFIN : Hid ((piece s 1 (k + 1)).all digB = true ∧ w3.ownsRow w.heap.size 5 1 v1 (piece s 1 (k + 1)).length (byteCells (piece s 1 (k + 1))) ∧ Below w.heap.size w w3) :=
            Lib.hid ⟨by rw [HPS.out, List.all_append, HH.out.1]; simp [HD.out], hown3', hb3⟩
          clear hown3 hgrow hb3 hown3' hown hB
          go_wp2_with fail
          go_roundw
          case rel => exact ⟨k + 1, by omega, by omega, by go_num, HFIN⟩
          case measure => simp [RowKit.intOf]; omega
      · have hlb : decide (k < s.size) = false := by rw [decide_eq_false_iff_not]; exact hlt
        go_wp2_with fail
        go_meet
        exact ⟨k, hk1, hk2, rfl, Lib.hid ⟨HH.out.1, .inl (by omega), HH.out.2.1, HH.out.2.2⟩⟩
  case rest =>
    obtain ⟨k, hk1, hk2, rfl, HH⟩ := hcut
    have hse := scan_end s 1 k hk1 hk2 HH.out.1 HH.out.2.1
    have hpl := piece_len s 1 k hk1 hk2
    have hown := HH.out.2.2.1
    have hB := HH.out.2.2.2
    have hWd := HH.out.1
    clear HH
    obtain ⟨W, hW⟩ : ∃ W, piece s 1 k = W := ⟨_, rfl⟩
    have hhead := piece_head s 1 k
    rw [hW] at hse hpl hown hhead hWd
    have HWD := Lib.hid hWd
    have HSE := Lib.hid hse
    have HB := Lib.hid hB
    have HOWN := Lib.hid hown
    clear hse hW hown hB hWd
    by_cases hk0 : k = 1
    · have t1 : ((k : Int) == 1) = true := by rw [beq_iff_eq]; omega
      have hnone : decF s.data.toList sc = none := dec_bad HSIZE.out HSE.out.1 (.inl (by omega))
      have HNONE := Lib.hid hnone
      clear hnone hhead hpl hk0
      go_wp2_with fail
      go_ret2
      exact dec_none hsc HNONE.out HB.out
    have t1 : ((k : Int) == 1) = false := by rw [beq_eq_false_iff_ne]; omega
    have hkF : 1 < k := by omega
    have hhead := hhead hkF hk2
    clear hk0
    by_cases hk19 : 19 < k - 1
    · have t2 : decide (19 < ((k : Int) - 1)) = true := by rw [decide_eq_true_eq]; omega
      have hnone : decF s.data.toList sc = none := dec_bad HSIZE.out HSE.out.1 (.inr (.inl (by omega)))
      have HNONE := Lib.hid hnone
      clear hnone hhead hpl hk19
      go_wp2_with fail
      go_ret2
      exact dec_none hsc HNONE.out HB.out
    have t2 : decide (19 < ((k : Int) - 1)) = false := by rw [decide_eq_false_iff_not]; omega
    have hF : 1 < s.size := by omega
    by_cases hbad : s[1].toNat = 48 ∧ 1 < k - 1
    · have t3 : ((s[1].toNat : Int) == 48) = true := by rw [beq_iff_eq]; omega
      have t4 : decide (1 < ((k : Int) - 1)) = true := by rw [decide_eq_true_eq]; omega
      have hnone : decF s.data.toList sc = none := dec_bad HSIZE.out HSE.out.1 (.inr (.inr ⟨by omega, by rw [hhead]; exact UInt8.toNat_inj.1 hbad.1⟩))
      have HNONE := Lib.hid hnone
      clear hnone hhead hpl hk19 hbad
      go_wp2_with fail
      go_ret2
      exact dec_none hsc HNONE.out HB.out
    have hgood : ¬ (W.length = 0 ∨ 19 < W.length ∨ (1 < W.length ∧ W.getD 0 0 = 48)) := by
      rintro (h | h | ⟨h1, h2⟩)
      · omega
      · omega
      · rw [hhead] at h2; exact hbad ⟨by rw [h2]; rfl, by omega⟩
    have HGOOD := Lib.hid hgood
    clear hgood hhead
    have t34 : ((s[1].toNat : Int) == 48) = false ∨ (((s[1].toNat : Int) == 48) = true ∧ decide (1 < ((k : Int) - 1)) = false) := by
      by_cases h48 : s[1].toNat = 48
      · right; exact ⟨by rw [beq_iff_eq]; omega, by rw [decide_eq_false_iff_not]; omega⟩
      · left; rw [beq_eq_false_iff_ne]; omega
    have HPL := Lib.hid hpl
    clear hbad hk19 hpl
    go_upto_region 12 with fail
    go_cut [68] (fun b wx => b = .bool false ∧ wx = wc)
    case first =>
      rcases t34 with t3 | ⟨t3, t4⟩
      all_goals
        go_wp2_with fail
        go_meet
        exact ⟨rfl, rfl⟩
    case rest =>
    obtain ⟨rfl, rfl⟩ := hcut
    clear t34 t1 t2
    go_upto_region 15 with fail
    go_cut [78] (fun b wx => ((b = .bool false ∧ Hid (∀ h : k < s.size, s[k].toNat ≠ 46)) ∨ (b = .bool true ∧ Hid (∃ h : k < s.size, s[k].toNat = 46))) ∧ wx = wc)
    case first =>
      by_cases hlt : k < s.size
      · have hlb : decide (k < s.size) = true := by rw [decide_eq_true_eq]; exact hlt
        by_cases hp : s[k].toNat = 46
        · have t5 : ((s[k].toNat : Int) == 46) = true := by rw [beq_iff_eq]; omega
          have HPT := Lib.hid hp
          clear hp
          go_wp2_with fail
          go_meet
          exact ⟨.inr ⟨rfl, Lib.hid ⟨hlt, HPT.out⟩⟩, rfl⟩
        · have t5 : ((s[k].toNat : Int) == 46) = false := by rw [beq_eq_false_iff_ne]; omega
          have HPT := Lib.hid hp
          clear hp
          go_wp2_with fail
          go_meet
          exact ⟨.inl ⟨rfl, Lib.hid fun _ => HPT.out⟩, rfl⟩
      · have hlb : decide (k < s.size) = false := by rw [decide_eq_false_iff_not]; exact hlt
        have HPT := Lib.hid hlt
        clear hlt
        go_wp2_with fail
        go_meet
        exact ⟨.inl ⟨rfl, Lib.hid fun h => (HPT.out h).elim⟩, rfl⟩
    case rest =>
    obtain ⟨hb78, rfl⟩ := hcut
    go_upto_if 78 with fail
    go_cut [6, 8, 10] (fun a v p wx => ∃ (k2 : Nat) (P : List UInt8), k2 ≤ s.size ∧ P.length ≤ s.size ∧ a = .int .i64 k2 ∧ p = .int .i64 P.length ∧ Hid (Behind s.data.toList W P sc k2 s.size ∧ wx.ownsRow w.heap.size 5 1 v (W ++ P).length (byteCells (W ++ P)) ∧ Below w.heap.size w wx))
    case first =>
      rcases hb78 with ⟨rfl, HNP⟩ | ⟨rfl, HPT⟩
      · go_wp2_with fail
        go_meet
        exact ⟨k, [], hk2, Nat.zero_le _, rfl, rfl, Lib.hid ⟨behind_none s _ _ W sc k HSIZE.out HSE.out.1 HSE.out.2 hk2 HGOOD.out HNP.out, by rw [List.append_nil]; exact HOWN.out, HB.out⟩⟩
      · have hkl : k < s.size := HPT.out.1
        go_upto_block 2 with fail
        go_cut [6, 8, 10] (fun a v p wx => ∃ k2 q : Nat, k + 1 + q ≤ k2 ∧ k2 ≤ k + 1 + q ∧ k2 ≤ s.size ∧ a = .int .i64 k2 ∧ p = .int .i64 q ∧ Hid ((piece s (k + 1) k2).all digB = true ∧ (k2 = s.size ∨ ∃ h : k2 < s.size, digB s[k2] = false) ∧ wx.ownsRow w.heap.size 5 1 v (W ++ piece s (k + 1) k2).length (byteCells (W ++ piece s (k + 1) k2)) ∧ Below w.heap.size w wx))
        case first =>
          go_wp2_with fail
          go_loopw [6, 8, 10] (fun a v p wr => ∃ k2 q : Nat, k + 1 + q ≤ k2 ∧ k2 ≤ k + 1 + q ∧ k2 ≤ s.size ∧ a = .int .i64 k2 ∧ p = .int .i64 q ∧ Hid ((piece s (k + 1) k2).all digB = true ∧ wr.ownsRow w.heap.size 5 1 v (W ++ piece s (k + 1) k2).length (byteCells (W ++ piece s (k + 1) k2)) ∧ Below w.heap.size w wr)) (fun a _ _ _ => s.size - (RowKit.intOf a).toNat)
          case atStart => exact ⟨k + 1, 0, by omega, by omega, by omega, by go_num, rfl, Lib.hid ⟨by rw [piece_nil]; rfl, by rw [piece_nil, List.append_nil]; exact HOWN.out, HB.out⟩⟩
          case round =>
            obtain ⟨k2, q, hq1, hq2, hk4, rfl, rfl, HH⟩ := hrel
            by_cases hlt : k2 < s.size
            · have hlb : decide (k2 < s.size) = true := by rw [decide_eq_true_eq]; exact hlt
              cases hd : digB s[k2] with
              | false =>
                have HD := Lib.hid hd
                have HC := Lib.hid (digit_no s[k2] · hd)
                clear hd
                go_wp2_with fail
                refine (HC.out _).mono ?_
                rintro e w' ⟨rfl, rfl⟩
                go_wp2_with fail
                go_meet
                exact ⟨k2, q, hq1, hq2, hk4, rfl, rfl, Lib.hid ⟨HH.out.1, .inr ⟨hlt, HD.out⟩, HH.out.2.1, HH.out.2.2⟩⟩
              | true =>
                have HD := Lib.hid hd
                have HC := Lib.hid (digit_yes s[k2] · hd)
                clear hd
                have hpl := piece_len s (k + 1) k2 (by omega) hk4
                have hps := piece_snoc s (k + 1) k2 (by omega) hlt
                have HPS := Lib.hid hps
                have hpl2 : (W ++ piece s (k + 1) k2).length + 1 ≤ 140737488355328 := by rw [List.length_append, hpl, HPL.out]; omega
                clear hps hpl
                obtain ⟨n, hn⟩ : ∃ n, (W ++ piece s (k + 1) k2).length = n := ⟨_, rfl⟩
                have hown := HH.out.2.1
                have hB := HH.out.2.2
                rw [hn] at hown hpl2
                have HN := Lib.hid hn
                clear hn
                go_wp2_with fail
                refine (HC.out _).mono ?_
                rintro e w' ⟨rfl, rfl⟩
                go_wp2_with (at_builtin; refine wpList_append_own _ rfl (.tmp 91) (.tmp 95) 109 rfl w.heap.size 5 i0 (.int .u8 0) 1 1 Tryz.underlying109 hi hz0 hz1 hz2 rfl (by decide) _ n (byteCells (W ++ piece s (k + 1) k2)) rfl (hown.alloc _) ⟨wr.heap.size, 0, none⟩ 1 1 [.int .u8 (s[k2].toNat : Int)] rfl rfl ?c1 ?c2 ?c3 ?c4 ?c5 ?_)
                case c1 => exact cell_one_new _ _ _
                case c2 => intro u hu; simp at hu; subst hu; rfl
                case c3 => unfold maxLen; omega
                case c4 => omega
                case c5 => have := hB.size; simp; omega
                intro v1 w3 hown3 hgrow _
                have hb3 : Below w.heap.size w w3 := (hB.alloc hB.size _).grown hgrow (by have := hB.size; simp; omega) (fun r e => (hown.lt r e).1)
                have hown3' : w3.ownsRow w.heap.size 5 1 v1 (W ++ piece s (k + 1) (k2 + 1)).length (byteCells (W ++ piece s (k + 1) (k2 + 1))) := by
                  rw [HPS.out, ← List.append_assoc, List.length_append, HN.out, byteCells_append]; exact hown3
                have HFIN : Hid ((piece s (k + 1) (k2 + 1)).all digB = true ∧ w3.ownsRow w.heap.size 5 1 v1 (W ++ piece s (k + 1) (k2 + 1)).length (byteCells (W ++ piece s (k + 1) (k2 + 1))) ∧ Below w.heap.size w w3) :=
                  Lib.hid ⟨by rw [HPS.out, List.all_append, HH.out.1]; simp [HD.out], hown3', hb3⟩
                clear hown3 hgrow hb3 hown3' hown hB
                go_wp2_with fail
                go_roundw
                case rel => exact ⟨k2 + 1, q + 1, by omega, by omega, by omega, by go_num, by go_num, HFIN⟩
                case measure => simp [RowKit.intOf]; omega
            · have hlb : decide (k2 < s.size) = false := by rw [decide_eq_false_iff_not]; exact hlt
              go_wp2_with fail
              go_meet
              exact ⟨k2, q, hq1, hq2, hk4, rfl, rfl, Lib.hid ⟨HH.out.1, .inl (by omega), HH.out.2.1, HH.out.2.2⟩⟩
        case rest =>
          obtain ⟨k2, q, hq1, hq2, hk4, rfl, rfl, HH⟩ := hcut
          have hse2 := scan_end s (k + 1) k2 (by omega) hk4 HH.out.1 HH.out.2.1
          have HSE2 := Lib.hid hse2
          clear hse2
          by_cases hp0 : q = 0
          · have t6 : ((q : Int) == 0) = true := by rw [beq_iff_eq]; omega
            have hnone : decF s.data.toList sc = none := behind_empty s _ _ W sc k HSIZE.out HSE.out.1 HSE.out.2 hkl (by rw [HSE2.out.1, show k2 = k + 1 by omega, piece_nil])
            have HNONE := Lib.hid hnone
            clear hnone hp0
            go_wp2_with fail
            go_ret2
            exact dec_none hsc HNONE.out HH.out.2.2.2
          · have t6 : ((q : Int) == 0) = false := by rw [beq_eq_false_iff_ne]; omega
            have hbh := behind_point s _ _ W sc k k2 HSIZE.out HSE.out.1 HSE.out.2 hkl HPT.out.2 HGOOD.out (by omega) hk4 HSE2.out.1 HSE2.out.2 HH.out.1
            have HBH := Lib.hid hbh
            clear hbh hp0
            go_wp2_with fail
            go_meet
            have hlp := piece_len s (k + 1) k2 (by omega) hk4
            exact ⟨k2, piece s (k + 1) k2, hk4, by omega, rfl, by rw [hlp, show k2 - (k + 1) = q by omega], Lib.hid ⟨HBH.out, HH.out.2.2.1, HH.out.2.2.2⟩⟩
    case rest =>
    obtain ⟨k2, P, hk3, hPs, rfl, rfl, HH⟩ := hcut
    clear hb78
    by_cases hgo : k2 = s.size ∧ P.length ≤ sc
    case neg =>
      have hnone : decF s.data.toList sc = none := HH.out.1.2.2.2 hgo
      have HNONE := Lib.hid hnone
      have t7 : decide (k2 < s.size) = true ∨ (decide (k2 < s.size) = false ∧ decide (sc < P.length) = true) := by
        by_cases h : k2 < s.size
        · left; rw [decide_eq_true_eq]; exact h
        · right; exact ⟨by rw [decide_eq_false_iff_not]; exact h, by rw [decide_eq_true_eq]; omega⟩
      clear hnone hgo
      rcases t7 with t7 | ⟨t7, t8⟩
      all_goals
        go_wp2_with fail
        go_ret2
        exact dec_none hsc HNONE.out HH.out.2.2
    obtain ⟨hg1, hg2⟩ := hgo
    have hdec := HH.out.1.2.2.1 ⟨hg1, hg2⟩
    have hPd := HH.out.1.1
    have HDEC := Lib.hid hdec
    have HPD := Lib.hid hPd
    have HOWN2 := Lib.hid HH.out.2.1
    have HB2 := Lib.hid HH.out.2.2
    have t7 : decide (k2 < s.size) = false := by rw [decide_eq_false_iff_not]; omega
    have t8 : decide (sc < P.length) = false := by rw [decide_eq_false_iff_not]; omega
    have hWP : W.length + P.length ≤ 28 := by
      rcases Nat.lt_or_ge 19 W.length with h | h
      · exact (HGOOD.out (.inr (.inl h))).elim
      · omega
    clear hdec hPd HH HOWN HB hg1
    go_upto_block 4 with fail
    clear t7 t8
    go_cut [8, 10] (fun v p wx => Hid (wx.ownsRow w.heap.size 5 1 v (W ++ P ++ zeros (sc - P.length)).length (byteCells (W ++ P ++ zeros (sc - P.length))) ∧ Below w.heap.size w wx))
    case first =>
      go_wp2_with fail
      go_loopw [8, 10] (fun v p wr => ∃ q z : Nat, P.length + z ≤ q ∧ q ≤ P.length + z ∧ q ≤ sc ∧ p = .int .i64 q ∧ Hid (wr.ownsRow w.heap.size 5 1 v (W ++ P ++ zeros z).length (byteCells (W ++ P ++ zeros z)) ∧ Below w.heap.size w wr)) (fun _ p _ => sc - (RowKit.intOf p).toNat)
      case atStart => exact ⟨P.length, 0, by omega, by omega, hg2, rfl, Lib.hid ⟨by rw [show zeros 0 = [] from rfl, List.append_nil]; exact HOWN2.out, HB2.out⟩⟩
      case round =>
        obtain ⟨q, z, hq1, hq2, hq3, rfl, HH⟩ := hrel
        by_cases hlt : q < sc
        · have hlb : decide (q < sc) = true := by rw [decide_eq_true_eq]; exact hlt
          obtain ⟨n, hn⟩ : ∃ n, (W ++ P ++ zeros z).length = n := ⟨_, rfl⟩
          have hown := HH.out.1
          have hB := HH.out.2
          have hpl2 : n + 1 ≤ 140737488355328 := by rw [← hn, List.length_append, List.length_append, zeros, List.length_replicate]; omega
          rw [hn] at hown
          have HN := Lib.hid hn
          clear hn
          go_wp2_with (at_builtin; refine wpList_append_own _ rfl (.tmp 115) (.tmp 116) 109 rfl w.heap.size 5 i0 (.int .u8 0) 1 1 Tryz.underlying109 hi hz0 hz1 hz2 rfl (by decide) _ n (byteCells (W ++ P ++ zeros z)) rfl (hown.alloc _) ⟨wr.heap.size, 0, none⟩ 1 1 [.int .u8 48] rfl rfl ?c1 ?c2 ?c3 ?c4 ?c5 ?_)
          case c1 => exact cell_one_new _ _ _
          case c2 => intro u hu; simp at hu; subst hu; rfl
          case c3 => unfold maxLen; omega
          case c4 => omega
          case c5 => have := hB.size; simp; omega
          intro v1 w3 hown3 hgrow _
          have hb3 : Below w.heap.size w w3 := (hB.alloc hB.size _).grown hgrow (by have := hB.size; simp; omega) (fun r e => (hown.lt r e).1)
          have hown3' : w3.ownsRow w.heap.size 5 1 v1 (W ++ P ++ zeros (z + 1)).length (byteCells (W ++ P ++ zeros (z + 1))) := by
            rw [← zeros_snoc, ← List.append_assoc, List.length_append, HN.out, byteCells_append, List.append_assoc W P]; exact hown3
          have HFIN := Lib.hid (And.intro hown3' hb3)
          clear hown3 hgrow hb3 hown3' hown hB
          go_wp2_with fail
          go_roundw
          case rel => exact ⟨q + 1, z + 1, by omega, by omega, by omega, by go_num, HFIN⟩
          case measure => simp [RowKit.intOf]; omega
        · have hlb : decide (q < sc) = false := by rw [decide_eq_false_iff_not]; exact hlt
          go_wp2_with fail
          go_meet
          exact Lib.hid ⟨by rw [show sc - P.length = z by omega]; exact HH.out.1, HH.out.2⟩
    case rest =>
    have hcut2 := hcut
    clear hcut
    obtain ⟨A, hA⟩ : ∃ A, W ++ P ++ zeros (sc - P.length) = A := ⟨_, rfl⟩
    have hAd : A.all digB = true := by rw [← hA, List.all_append, List.all_append, HWD.out, HPD.out, zeros_digits]; rfl
    have hAl : A.length ≤ 40 := by rw [← hA, List.length_append, List.length_append, zeros, List.length_replicate]; omega
    have hown := hcut2.out.1
    have HB3 := Lib.hid hcut2.out.2
    have hdec := HDEC.out
    rw [hA] at hown hdec
    have HDEC2 := Lib.hid hdec
    obtain ⟨ao, cap, hv⟩ := own_slice hown
    subst hv
    clear hdec hcut2 hA HDEC HPD HOWN2 HB2 HWD HGOOD HSE HPL hWP hPs
    have HAD := Lib.hid hAd
    clear hAd
    have hfr := finR_eq true A HAD.out
    have HFR := Lib.hid hfr
    clear hfr
    go_wp2_with fail
    go_loop [11, 12] (fun n i => ∃ (m : Int) (j : Nat), j ≤ A.length ∧ i = .int .i64 j ∧ n = .int .i64 m ∧ -9223372036854775808 ≤ m ∧ m ≤ 0 ∧ Hid (sumR 0 A = sumR m (A.drop j))) (fun _ i => A.length - (RowKit.intOf i).toNat)
    case atStart => exact ⟨0, 0, Nat.zero_le _, rfl, rfl, by omega, by omega, Lib.hid rfl⟩
    case round =>
      obtain ⟨m, j, hj, rfl, rfl, hm1, hm2, HS⟩ := hrel
      by_cases hlt : j < A.length
      · obtain ⟨g, rfl, hg, _, hc⟩ := own_cell hown hlt
        have hcell : wc.cell? ⟨g, j, none⟩ = some (.int .u8 (A[j].toNat : Int)) := hc j _ (by simp [byteCells, List.getElem?_eq_getElem hlt])
        have hx : 48 ≤ A[j].toNat ∧ A[j].toNat ≤ 57 := of_decide_eq_true (List.all_eq_true.1 HAD.out _ (List.getElem_mem hlt))
        have hst : sumR m (A.drop j) = if m < (-9223372036854775808 + ((A[j].toNat : Int) - 48)).tdiv 10 then none else sumR (10 * m - ((A[j].toNat : Int) - 48)) (A.drop (j + 1)) := by
          rewrite [List.drop_eq_getElem_cons hlt, sumR_cons]; exact rfl
        have HST := Lib.hid hst
        obtain ⟨x, hx'⟩ : ∃ x : Nat, A[j].toNat = x := ⟨_, rfl⟩
        have HST : Hid (sumR m (A.drop j) = if m < (-9223372036854775808 + ((x : Int) - 48)).tdiv 10 then none else sumR (10 * m - ((x : Int) - 48)) (A.drop (j + 1))) := by have := hst; rw [hx'] at this; exact Lib.hid this
        rw [hx'] at hcell hx
        clear hst hx' hc
        obtain ⟨hx1, hx2⟩ := hx
        have hlb : decide (j < A.length) = true := by rw [decide_eq_true_eq]; exact hlt
        by_cases hlow : m < (-9223372036854775808 + ((x : Int) - 48)).tdiv 10
        · have t8 : decide (m < (-9223372036854775808 + ((x : Int) - 48)).tdiv 10) = true := by rw [decide_eq_true_eq]; exact hlow
          have hnone : decF s.data.toList sc = none := by
            have h1 : sumR 0 A = none := HS.out.trans (HST.out.trans (if_pos hlow))
            rw [HDEC2.out, HBEL.out, ← HFR.out]; unfold finR; rw [h1]
          have HNONE := Lib.hid hnone
          clear hnone hlow
          go_wp2_with fail
          go_ret2
          exact dec_none hsc HNONE.out HB3.out
        · have t8 : decide (m < (-9223372036854775808 + ((x : Int) - 48)).tdiv 10) = false := by rw [decide_eq_false_iff_not]; exact hlow
          have hs2 : Hid (sumR 0 A = sumR (10 * m - ((x : Int) - 48)) (A.drop (j + 1))) := Lib.hid (HS.out.trans (HST.out.trans (if_neg hlow)))
          have ht : (-9223372036854775808 + ((x : Int) - 48)).tdiv 10 = -((9223372036854775808 - ((x : Int) - 48)) / 10) := by
            rewrite [show (-9223372036854775808 + ((x : Int) - 48)) = -(9223372036854775808 - ((x : Int) - 48)) by omega, Int.neg_tdiv, Int.tdiv_eq_ediv_of_nonneg (by omega)]; exact rfl
          have hb1 : -9223372036854775808 ≤ 10 * m := by omega
          have hb2 : -9223372036854775808 ≤ 10 * m - ((x : Int) - 48) := by omega
          have hb3 : 10 * m - ((x : Int) - 48) ≤ 0 := by omega
          clear hlow ht
          go_wp2_with fail
          go_round
          case rel => exact ⟨10 * m - ((x : Int) - 48), j + 1, by omega, by go_num, rfl, hb2, hb3, hs2⟩
          case measure => simp [RowKit.intOf]; omega
      · have hlb : decide (j < A.length) = false := by rw [decide_eq_false_iff_not]; exact hlt
        have HS : Hid (sumR 0 A = some m) := Lib.hid (HS.out.trans (by rw [List.drop_eq_nil_of_le (by omega)]; rfl))
        go_wp2_with fail
        go_ret2
        exact dec_some hsc (by rw [HDEC2.out, HBEL.out, ← HFR.out]; unfold finR; rw [HS.out]; rfl) HB3.out

theorem refDec_any (s : ByteArray) (scale : Int) (w : World) (hs : s.size ≤ 140737488351232) :
    Calls Tryz.prog 51 #[.string s, .int .i64 scale] w (DecRet s.data.toList scale w) := by
  by_cases h : scale < 0 ∨ 9 < scale
  · have HO := Lib.hid h
    have d12 : decide (scale < 0) = true ∨ (decide (scale < 0) = false ∧ decide (9 < scale) = true) := by
      by_cases h1 : scale < 0
      · left; rw [decide_eq_true_eq]; exact h1
      · right; exact ⟨by rw [decide_eq_false_iff_not]; exact h1, by rw [decide_eq_true_eq]; omega⟩
    clear h
    rcases d12 with d1 | ⟨d1, d2⟩
    all_goals
      go_enter Tryz.func51, Tryz.ntmps51
      go_wp2_with fail
      go_ret2
      exact dec_out HO.out (Below.refl _ _)
  · obtain ⟨sc, rfl⟩ : ∃ sc : Nat, scale = sc := ⟨scale.toNat, by omega⟩
    by_cases hp : 0 < s.size
    · by_cases hm : s[0].toNat = 45
      · exact refDec_1 s sc w hs (by omega) hp hm
      · exact refDec_0 s sc w hs (by omega) (fun _ => hm)
    · exact refDec_0 s sc w hs (by omega) (fun h => (hp h).elim)
end Go.Proofs.YtfckomjbgopmaaaGreatDoor.OrdRef
