/- What the library's functions give layer 7: a text's digits, a cut at the first point, zeros, a number's text; the variables of the library that they read. -/
import Derived.Test.YtfckomjbgopmaaaGreatDoorChecked
import Derived.Test.YtfckomjbgopmaaaGreatDoorShelf
import Derived.Test.YtfckomjbgopmaaaGreatDoorPack20
import Derived.Lib.TrimUEq
import Derived.Lib.MapLaws
import Derived.Lib.SmallJoins
import Derived.Lib.LaidTab
import Derived.Deep.Light
set_option linter.unusedVariables false
namespace OrdP
open Go.Lib Go

theorem prefix_minus (l : List UInt8) : hasPrefix l [45] = below l ∧ trimPrefix l [45] = size l := by
  have h : hasPrefix l [45] = below l := by
    unfold hasPrefix below
    cases l with
    | nil => rfl
    | cons c r =>
      simp only [List.isPrefixOf, List.head?_cons, Option.some.injEq, Bool.and_true]
      rw [Bool.eq_iff_iff, beq_iff_eq, decide_eq_true_eq]
      exact eq_comm
  refine ⟨h, ?_⟩
  unfold trimPrefix size
  rw [h]; rfl
theorem occ_one (l : List UInt8) (i : Nat) : occAt l [46] i = true ↔ l[i]? = some 46 := by
  unfold occAt
  rw [← List.head?_drop]
  cases l.drop i with
  | nil => simp [List.isPrefixOf]
  | cons c r =>
    simp only [List.isPrefixOf, Bool.and_true, List.head?_cons, Option.some.injEq, beq_iff_eq]
    exact eq_comm
/-- 'Cut' at a point. -/
theorem cut_point (l : List UInt8) : CutAt l (cut l [46]).1 (cut l [46]).2.1 (cut l [46]).2.2 := by
  unfold cut
  rcases index_spec l [46] with ⟨h1, h2⟩ | ⟨i, h1, h2, h3, h4⟩
  · rw [if_neg (by omega)]
    left
    refine ⟨rfl, rfl, rfl, fun hm => ?_⟩
    obtain ⟨i, hi, e⟩ := List.getElem_of_mem hm
    have := h2 i (by omega)
    rw [(occ_one l i).2 (by rw [List.getElem?_eq_getElem hi, e])] at this
    cases this
  · rw [h1, if_pos (by omega)]
    right
    have hi := (occ_one l i).1 h3
    have hl := (List.getElem?_eq_some_iff.1 hi).1
    refine ⟨rfl, ?_, fun hm => ?_⟩
    · simp only [Int.toNat_natCast, List.length_singleton]
      have := List.drop_eq_getElem_cons hl
      rw [(List.getElem?_eq_some_iff.1 hi).2] at this
      rw [← this, List.take_append_drop]
    · simp only [Int.toNat_natCast] at hm
      obtain ⟨j, hj, e⟩ := List.getElem_of_mem hm
      have hj' : j < i := by rw [List.length_take] at hj; omega
      have := h4 j hj'
      rw [List.getElem_take] at e
      rw [(occ_one l j).2 (by rw [List.getElem?_eq_getElem (by omega), e])] at this
      cases this
def noDig (x : Nat) : Bool := decide (x < 48 ∨ 57 < x)
theorem noDig_N (n b0 b1 b2 b3 : Nat) (k0 : b0 < 256) : decide ((decodeN n b0 b1 b2 b3).1 < 48 ∨ 57 < (decodeN n b0 b1 b2 b3).1) = !(decide (48 ≤ b0 ∧ b0 ≤ 57)) ∧ (decide (48 ≤ b0 ∧ b0 ≤ 57) = true → (decodeN n b0 b1 b2 b3).2 = 1) := by
  by_cases h : b0 < 128
  · unfold decodeN
    rw [if_pos h]
    dsimp only
    refine ⟨?_, fun _ => rfl⟩
    rw [Bool.eq_iff_iff]; simp only [decide_eq_true_eq, Bool.not_eq_true', decide_eq_false_iff_not]; omega
  · have h2 : 57 < (decodeN n b0 b1 b2 b3).1 := by
      rcases decodeN_shape n b0 b1 b2 b3 with ⟨c, e⟩ | ⟨c1, c2, c3, cv, e⟩ | ⟨c1, c2, c3, c4, cv, cs, e⟩ | ⟨c1, c2, c3, c4, c5, cv, cw, e⟩ | e
      all_goals (rw [e]; dsimp only; omega)
    refine ⟨?_, fun h3 => ?_⟩
    · rw [Bool.eq_iff_iff]; simp only [decide_eq_true_eq, Bool.not_eq_true', decide_eq_false_iff_not]; omega
    · rw [decide_eq_true_eq] at h3; omega
theorem noDig_first (l : List UInt8) : noDig (decodeL l).1 = !(digB (l.getD 0 0)) ∧ (digB (l.getD 0 0) = true → (decodeL l).2 = 1) := by
  rw [decodeL_N]
  exact noDig_N _ _ _ _ _ (l.getD 0 0).toNat_lt
theorem idx_digits (s : ByteArray) : ∀ (f pos : Nat), s.size - pos ≤ f → (decide (idxFuncFrom noDig true s f pos < 0) = (s.data.toList.drop pos).all digB)
  | 0, pos, h => by rw [List.drop_eq_nil_of_le (by simp; omega)]; rfl
  | f + 1, pos, h => by
    by_cases hlt : pos < s.size
    · have hd := Utf8_drop s pos
      obtain ⟨h1, h2⟩ := noDig_first (s.data.toList.drop pos)
      have hall : (s.data.toList.drop pos).all digB = (digB ((s.data.toList.drop pos).getD 0 0) && (s.data.toList.drop (pos + 1)).all digB) := by
        rw [List.drop_eq_getElem_cons (by simpa using hlt)]; rfl
      rw [hd] at h1 h2
      unfold idxFuncFrom
      rw [if_pos hlt, h1, hall]
      cases hb : digB ((s.data.toList.drop pos).getD 0 0) with
      | false =>
        rw [if_pos (by rfl), Bool.false_and, decide_eq_false_iff_not]; omega
      | true =>
        rw [h2 hb, if_neg (by decide), Bool.true_and]
        exact idx_digits s f (pos + 1) (by omega)
    · rw [idxFuncFrom_end _ _ _ _ _ hlt, List.drop_eq_nil_of_le (by simp; omega)]; rfl
where
  Utf8_drop (s : ByteArray) (pos : Nat) : decodeL (s.data.toList.drop pos) = Utf8.decode s pos := decodeL_drop s pos
theorem idx_all (s : ByteArray) : decide (idxFunc noDig true s < 0) = s.data.toList.all digB := by
  have := idx_digits s s.size 0 (by omega)
  rw [List.drop_zero] at this
  exact this
theorem zeros_rep (c : Nat) : repeatL [48] c = zeros c := by
  have := repeatL_replicate 48 1 c
  rw [Nat.mul_one] at this
  exact this
end OrdP
namespace Go.Proofs.YtfckomjbgopmaaaGreatDoor.OrdLib
open Go.RowKit Go.Lib OrdP Kit OrdRef

/-- The library's variables that layer 7 reads. -/
structure OTabs (w : World) : Prop where
  max : ∃ m, w.cell? ⟨1, 0, none⟩ = some (.int .i64 m)
  range : ∃ ev, w.cell? ⟨3, 0, none⟩ = some ev ∧ (ev = .nilIface ∨ ∃ te pe, ev = .iface te pe)
  pow : Lib.TabIs Tryz.prog w "internal/strconv.uint64pow10" .u64 Lib.pow10Tab
theorem OTabs.next {w w' : World} (h : OTabs w) (hb : Below w.heap.size w w') : OTabs w' := by
  obtain ⟨⟨m, hm⟩, ⟨ev, he, hv⟩, hp⟩ := h
  exact ⟨⟨m, (hb.cell (World.block_lt_of_cell? w _ hm)).trans hm⟩, ⟨ev, (hb.cell (World.block_lt_of_cell? w _ he)).trans he, hv⟩, Go.Joins.tab_stays (g := 0) (by kernel_rfl) hp hb (Nat.le_refl _)⟩

theorem below_drewN' {w : World} (n : Nat) : Below w.heap.size w (w.drewN n) := ⟨rfl, rfl, rfl, Nat.le_refl _, fun _ _ => rfl⟩

def BoolB (b : Bool) (w : World) (e : Ending) (w' : World) : Prop := e = .returned (.bool b) ∧ Below w.heap.size w w'
theorem nodig_any (x : Nat) (hx : x ≤ 1114111) (w : World) : Calls Tryz.prog 131 #[.int .i32 x] w (fun e w' => e = .returned (.bool (noDig x)) ∧ w = w') := by
  unfold noDig
  by_cases h1 : x < 48
  · have b1 : decide ((x : Int) < 48) = true := by rw [decide_eq_true_eq]; omega
    go_enter Tryz.func131, Tryz.ntmps131
    go_wp2_with fail
    go_ret
    exact ⟨by simp [h1], rfl⟩
  · have b1 : decide ((x : Int) < 48) = false := by rw [decide_eq_false_iff_not]; omega
    by_cases h2 : 57 < x
    · have b2 : decide ((57 : Int) < (x : Int)) = true := by rw [decide_eq_true_eq]; omega
      go_enter Tryz.func131, Tryz.ntmps131
      go_wp2_with fail
      go_ret
      exact ⟨by simp [h1, h2], rfl⟩
    · have b2 : decide ((57 : Int) < (x : Int)) = false := by rw [decide_eq_false_iff_not]; omega
      go_enter Tryz.func131, Tryz.ntmps131
      go_wp2_with fail
      go_ret
      exact ⟨by simp [h1, h2], rfl⟩
theorem index_any (s : ByteArray) (w : World) : Calls Tryz.prog 130 #[.string s, .func (.func 131) #[] #[]] w (fun e w' => e = .returned (.int .i64 (Lib.idxFunc noDig true s)) ∧ Below w.heap.size w w') :=
  Tryz.strings_IndexFunc_grows 131 #[] (enters_of Tryz.func131 (by kernel_rfl) rfl) noDig s w (fun W x hx _ => (nodig_any x hx W).mono fun e w' ⟨he, hw⟩ => ⟨he, by subst hw; exact Below.refl _ _⟩)
theorem digits_any (s : ByteArray) (a b : Int) (ha : 0 ≤ a) (hb : 0 ≤ b) (ha9 : a ≤ 1000) (hb9 : b ≤ 1000) (hs : s.size ≤ maxLen) (r : Bool) (hr : digsF s.data.toList a.toNat b.toNat = r) (w : World) :
    Calls Tryz.prog 99 #[.string s, .int .i64 a, .int .i64 b] w (BoolB r w) := by
  unfold maxLen at hs
  obtain ⟨a, rfl⟩ : ∃ n : Nat, a = n := ⟨a.toNat, by omega⟩
  obtain ⟨b, rfl⟩ : ∃ n : Nat, b = n := ⟨b.toNat, by omega⟩
  rw [Int.toNat_natCast, Int.toNat_natCast] at hr
  unfold digsF at hr
  have hlen : s.data.toList.length = s.size := by simp
  rw [hlen, ← idx_all] at hr
  have hrange := idxFunc_range noDig true s
  obtain ⟨I, hI⟩ : ∃ I, Lib.idxFunc noDig true s = I := ⟨_, rfl⟩
  have HC := Lib.hid (index_any s)
  rw [hI] at hr hrange
  have HI := Lib.hid hI
  have HR := Lib.hid hr
  clear hr hI hlen
  by_cases h1 : a ≤ s.size
  · have b1 : decide (a ≤ s.size) = true := by rw [decide_eq_true_eq]; exact h1
    by_cases h2 : s.size ≤ b
    · have b2 : decide (s.size ≤ b) = true := by rw [decide_eq_true_eq]; exact h2
      go_enter Tryz.func99, Tryz.ntmps99
      go_wp2_with fail
      refine (HC.out _).mono ?_
      rintro e w1 ⟨rfl, hb1⟩
      have HB := Lib.hid hb1; clear hb1
      rw [HI.out]
      by_cases h3 : I < 0
      · have b3 : decide (I < 0) = true := by rw [decide_eq_true_eq]; exact h3
        clear h3
        go_wp2_with fail
        go_ret
        exact ⟨ret_bool (by rw [← HR.out]; simp [h1, h2, b3]), HB.out⟩
      · have b3 : decide (I < 0) = false := by rw [decide_eq_false_iff_not]; exact h3
        clear h3
        go_wp2_with fail
        go_ret
        exact ⟨ret_bool (by rw [← HR.out]; simp [h1, h2, b3]), HB.out⟩
    · have b2 : decide (s.size ≤ b) = false := by rw [decide_eq_false_iff_not]; exact h2
      go_enter Tryz.func99, Tryz.ntmps99
      go_wp2_with fail
      go_ret
      exact ⟨ret_bool (by rw [← HR.out]; simp [h2]), Below.refl _ _⟩
  · have b1 : decide (a ≤ s.size) = false := by rw [decide_eq_false_iff_not]; exact h1
    go_enter Tryz.func99, Tryz.ntmps99
    go_wp2_with fail
    go_ret
    exact ⟨ret_bool (by rw [← HR.out]; simp [h1]), Below.refl _ _⟩
/-- 'Repeat' of a zero. -/
theorem repeat_any (c : Int) (h0 : 0 ≤ c) (h1 : c ≤ 40) (z : ByteArray) (hz : z = str (zeros c.toNat)) (w : World) :
    Calls Tryz.prog 62 #[.string ⟨#[48]⟩, .int .i64 c] w (fun e w' => e = .returned (.string z) ∧ Below w.heap.size w w') := by
  obtain ⟨c, rfl⟩ : ∃ n : Nat, c = n := ⟨c.toNat, by omega⟩
  rw [Int.toNat_natCast] at hz
  subst hz
  match c, h1 with
  | 0, _ => exact (Tryz.strings_Repeat_zero ⟨#[48]⟩ w).mono fun e w' ⟨he, hw⟩ => ⟨he, by subst hw; exact Below.refl _ _⟩
  | 1, _ => exact (Tryz.strings_Repeat_one ⟨#[48]⟩ w).mono fun e w' ⟨he, hw⟩ => ⟨he, by subst hw; exact Below.refl _ _⟩
  | c + 2, h1 =>
    refine (Tryz.strings_Repeat_main ⟨#[48]⟩ (c + 2) w (by omega) (by omega) (by show 1 * (c + 2) ≤ _; omega) (by decide)).mono fun e w' ⟨he, hb⟩ => ⟨?_, hb⟩
    rw [he]
    have e2 : (⟨#[48]⟩ : ByteArray).data.toList = [48] := rfl
    rw [e2, zeros_rep]; rfl
end Go.Proofs.YtfckomjbgopmaaaGreatDoor.OrdLib
