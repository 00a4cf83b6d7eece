/- The walk of OrderOrder. -/
import Derived.Test.YtebagmiclfhelaaDoorOrdAwake2
import Derived.Test.YtebagmiclfhelaaDoorOrdOrd
import Derived.StillTailTactics
import Derived.Laws.StructEq
import Derived.Outline
set_option linter.unusedVariables false
namespace Go.Proofs.YtebagmiclfhelaaDoor.OrderOrderWalk
open Go.RowKit Go.Lib OrdP Kit OrdRef OrdLib Words Owned

/-- A key lies in a block. -/
structure KeyAt (W : World) (b : Nat) (k : KeyD) : Prop where
  c0 : W.cell? ⟨b, 0, none⟩ = some (.int .i64 k.kind)
  c1 : W.cell? ⟨b, 1, none⟩ = some (.int .i64 k.num)
  c2 : W.cell? ⟨b, 2, none⟩ = some (.string k.text)
  lt : b < W.heap.size
theorem KeyAt.next {w w' : World} {b : Nat} {k : KeyD} (h : KeyAt w b k) (hb : Below w.heap.size w w') : KeyAt w' b k :=
  ⟨(hb.cell (p := ⟨b, 0, none⟩) h.lt).trans h.c0, (hb.cell (p := ⟨b, 1, none⟩) h.lt).trans h.c1, (hb.cell (p := ⟨b, 2, none⟩) h.lt).trans h.c2, Nat.lt_of_lt_of_le h.lt hb.size⟩

set_option maxRecDepth 100000 in
set_option maxHeartbeats 1600000 in
theorem walk (a b c : KeyD) (w : World) (hT : OTabs w) :
    Calls Tryd.prog 5 #[a.v, b.v, c.v] w (BoolB true w) := by
  obtain ⟨x, hx⟩ : ∃ x, cmpF a b = x := ⟨_, rfl⟩
  obtain ⟨y, hy⟩ : ∃ y, cmpF b c = y := ⟨_, rfl⟩
  obtain ⟨z, hz⟩ : ∃ z, cmpF a c = z := ⟨_, rfl⟩
  have HT := Lib.hid hT; clear hT
  have L3 := cmpF_three a b c x y z hx hy hz
  have LE : (x = 0 ∧ a = b) ∨ (¬ x = 0 ∧ ¬ a = b) := by
    by_cases h : x = 0
    · exact .inl ⟨h, cmpF_zero (hx.trans h)⟩
    · exact .inr ⟨h, fun e => h (by rw [← hx, e, cmpF_self])⟩
  have LK : a.kind < b.kind → x = -1 := fun h => by rw [← hx, cmpF_kind_lt h]
  have C4 : ∀ w, Calls Tryd.prog 14 #[b.v, a.v] w (IntB (-x) w) := by intro w; rw [← hx, ← cmpF_anti]; exact compare_any b a w
  have C5 : ∀ w, Calls Tryd.prog 14 #[a.v, a.v] w (IntB 0 w) := by intro w; have := compare_any a a w; rw [cmpF_self] at this; exact this
  have H3 := Lib.hid L3; have HE := Lib.hid LE; have HK := Lib.hid LK; clear L3 LE LK
  have C1 : ∀ w, Calls Tryd.prog 14 #[a.v, b.v] w (IntB x w) := by intro w; rw [← hx]; exact compare_any a b w
  have C2 : ∀ w, Calls Tryd.prog 14 #[b.v, c.v] w (IntB y w) := by intro w; rw [← hy]; exact compare_any b c w
  have C3 : ∀ w, Calls Tryd.prog 14 #[a.v, c.v] w (IntB z w) := by intro w; rw [← hz]; exact compare_any a c w
  obtain ⟨k1, n1, t1⟩ := a
  obtain ⟨k2, n2, t2⟩ := b
  obtain ⟨k3, n3, t3⟩ := c
  unfold KeyD.v at *
  dsimp only at *
  have D1 := Lib.hid C1; have D2 := Lib.hid C2; have D3 := Lib.hid C3; have D4 := Lib.hid C4; have D5 := Lib.hid C5
  clear C1 C2 C3 C4 C5
  clear hx hy hz
  go_enter Tryd.func5, Tryd.ntmps5
  go_upto_region 1 with fail
  obtain ⟨W, hW⟩ : ∃ W : World, W = ((w.alloc (.cells #[.int .i64 k1, .int .i64 n1, .string t1] 35)).alloc (.cells #[.int .i64 k2, .int .i64 n2, .string t2] 35)).alloc (.cells #[.int .i64 k3, .int .i64 n3, .string t3] 35) := ⟨_, rfl⟩
  rw [← hW]
  have B0 := Lib.hid (show Below w.heap.size w W by rw [hW]; exact (((Below.refl _ _).alloc (Nat.le_refl _) _).alloc (by simp) _).alloc (by simp; omega) _)
  have KA := Lib.hid (show KeyAt W w.heap.size ⟨k1, n1, t1⟩ by rw [hW]; exact ⟨by go_simp, by go_simp, by go_simp, by simp; omega⟩)
  have KB := Lib.hid (show KeyAt W (w.heap.size + 1) ⟨k2, n2, t2⟩ by rw [hW]; exact ⟨by go_simp, by go_simp, by go_simp, by simp⟩)
  have KC := Lib.hid (show KeyAt W (w.heap.size + 2) ⟨k3, n3, t3⟩ by rw [hW]; exact ⟨by go_simp, by go_simp, by go_simp, by simp⟩)
  clear hW
  obtain ⟨a0, a1, a2, al⟩ := KA.out
  obtain ⟨b0, b1, b2, bl⟩ := KB.out
  obtain ⟨c0, c1, c2, cl⟩ := KC.out
  dsimp only at a0 a1 a2 b0 b1 b2 c0 c1 c2
  go_wp2_with fail
  refine (D1.out _).mono ?_
  rintro e w1 ⟨rfl, hb1⟩
  clear a0 a1 a2 al b0 b1 b2 bl c0 c1 c2 cl
  replace KA := Lib.hid (KA.out.next hb1); replace KB := Lib.hid (KB.out.next hb1); replace KC := Lib.hid (KC.out.next hb1)
  have B1 := Lib.hid (B0.out.trans (hb1.mono B0.out.size)); clear hb1
  obtain ⟨a0, a1, a2, al⟩ := KA.out
  obtain ⟨b0, b1, b2, bl⟩ := KB.out
  obtain ⟨c0, c1, c2, cl⟩ := KC.out
  dsimp only at a0 a1 a2 b0 b1 b2 c0 c1 c2
  go_wp2_with fail
  refine (D2.out _).mono ?_
  rintro e w2 ⟨rfl, hb1⟩
  clear a0 a1 a2 al b0 b1 b2 bl c0 c1 c2 cl
  replace KA := Lib.hid (KA.out.next hb1); replace KB := Lib.hid (KB.out.next hb1); replace KC := Lib.hid (KC.out.next hb1)
  have B1 := Lib.hid (B1.out.trans (hb1.mono B1.out.size)); clear hb1
  obtain ⟨a0, a1, a2, al⟩ := KA.out
  obtain ⟨b0, b1, b2, bl⟩ := KB.out
  obtain ⟨c0, c1, c2, cl⟩ := KC.out
  dsimp only at a0 a1 a2 b0 b1 b2 c0 c1 c2
  go_wp2_with fail
  refine (D3.out _).mono ?_
  rintro e w3 ⟨rfl, hb1⟩
  clear a0 a1 a2 al b0 b1 b2 bl c0 c1 c2 cl
  replace KA := Lib.hid (KA.out.next hb1); replace KB := Lib.hid (KB.out.next hb1); replace KC := Lib.hid (KC.out.next hb1)
  have B1 := Lib.hid (B1.out.trans (hb1.mono B1.out.size)); clear hb1
  obtain ⟨a0, a1, a2, al⟩ := KA.out
  obtain ⟨b0, b1, b2, bl⟩ := KB.out
  obtain ⟨c0, c1, c2, cl⟩ := KC.out
  dsimp only at a0 a1 a2 b0 b1 b2 c0 c1 c2
  go_wp2_with fail
  refine (D4.out _).mono ?_
  rintro e w4 ⟨rfl, hb1⟩
  clear a0 a1 a2 al b0 b1 b2 bl c0 c1 c2 cl
  replace KA := Lib.hid (KA.out.next hb1); replace KB := Lib.hid (KB.out.next hb1); replace KC := Lib.hid (KC.out.next hb1)
  replace B1 := Lib.hid (B1.out.trans (hb1.mono B1.out.size)); clear hb1
  obtain ⟨a0, a1, a2, al⟩ := KA.out
  obtain ⟨b0, b1, b2, bl⟩ := KB.out
  obtain ⟨c0, c1, c2, cl⟩ := KC.out
  dsimp only at a0 a1 a2 b0 b1 b2 c0 c1 c2
  rcases HE.out with ⟨rfl, he⟩ | ⟨hx0, he⟩
  · simp only [KeyD.mk.injEq] at he
    obtain ⟨rfl, rfl, rfl⟩ := he
    clear HE HK
    go_wp2_with fail
    refine (D5.out _).mono ?_
    rintro e w5 ⟨rfl, hb1⟩
    clear a0 a1 a2 al b0 b1 b2 bl c0 c1 c2 cl
    replace KA := Lib.hid (KA.out.next hb1); replace KB := Lib.hid (KB.out.next hb1)
    replace B1 := Lib.hid (B1.out.trans (hb1.mono B1.out.size)); clear hb1
    obtain ⟨a0, a1, a2, al⟩ := KA.out
    obtain ⟨b0, b1, b2, bl⟩ := KB.out
    dsimp only at a0 a1 a2 b0 b1 b2
    clear D1 D2 D3 D4 D5
    rcases H3.out with ⟨h, _⟩ | ⟨h, _⟩ | ⟨h, _⟩ | ⟨_, rfl, rfl⟩ | ⟨_, rfl, rfl⟩ | ⟨_, rfl⟩ | h
    · cases h
    · cases h
    · cases h
    · clear H3
      go_wp2_with fail
      refine (awake_any _ (HT.out.next B1.out)).mono ?_
      rintro e w6 ⟨rfl, hb1⟩
      have B6 := Lib.hid (B1.out.trans (hb1.mono B1.out.size)); clear hb1
      clear a0 a1 a2 al b0 b1 b2 bl
      go_wp2_with fail
      go_ret
      exact ⟨ret_bool (by simp), B6.out⟩
    · clear H3
      go_wp2_with fail
      refine (awake_any _ (HT.out.next B1.out)).mono ?_
      rintro e w6 ⟨rfl, hb1⟩
      have B6 := Lib.hid (B1.out.trans (hb1.mono B1.out.size)); clear hb1
      clear a0 a1 a2 al b0 b1 b2 bl
      go_wp2_with fail
      go_ret
      exact ⟨ret_bool (by simp), B6.out⟩
    · clear H3
      go_wp2_with fail
      refine (awake_any _ (HT.out.next B1.out)).mono ?_
      rintro e w6 ⟨rfl, hb1⟩
      have B6 := Lib.hid (B1.out.trans (hb1.mono B1.out.size)); clear hb1
      clear a0 a1 a2 al b0 b1 b2 bl
      go_wp2_with fail
      go_ret
      exact ⟨ret_bool (by simp), B6.out⟩
    · cases h
  · have H4 : x = -1 ∨ x = 1 := by
      rcases H3.out with ⟨h, _⟩ | ⟨h, _⟩ | ⟨h, _⟩ | ⟨h, _⟩ | ⟨h, _⟩ | ⟨h, _⟩ | h
      · exact .inl h
      · exact .inl h
      · exact .inl h
      · exact absurd h hx0
      · exact absurd h hx0
      · exact absurd h hx0
      · exact .inr h
    clear HE hx0
    have HN : ¬ k1 = k2 ∨ (k1 = k2 ∧ ¬ n1 = n2) ∨ (k1 = k2 ∧ n1 = n2 ∧ ¬ t1 = t2) := by
      by_cases h1 : k1 = k2
      · by_cases h2 : n1 = n2
        · exact .inr (.inr ⟨h1, h2, fun h3 => he (by rw [h1, h2, h3])⟩)
        · exact .inr (.inl ⟨h1, h2⟩)
      · exact .inl h1
    clear he
    rcases H4 with rfl | rfl
    · rcases HN with hn | ⟨rfl, hn⟩ | ⟨rfl, rfl, hn⟩
      · have e1 : (k1 == k2) = false := by rw [beq_eq_false_iff_ne]; exact hn
        clear hn
        clear HK
        go_wp2_with fail
        refine (D5.out _).mono ?_
        rintro e w5 ⟨rfl, hb1⟩
        clear a0 a1 a2 al b0 b1 b2 bl c0 c1 c2 cl
        replace KA := Lib.hid (KA.out.next hb1); replace KB := Lib.hid (KB.out.next hb1)
        replace B1 := Lib.hid (B1.out.trans (hb1.mono B1.out.size)); clear hb1
        obtain ⟨a0, a1, a2, al⟩ := KA.out
        obtain ⟨b0, b1, b2, bl⟩ := KB.out
        dsimp only at a0 a1 a2 b0 b1 b2
        clear D1 D2 D3 D4 D5
        rcases H3.out with ⟨_, rfl, rfl⟩ | ⟨_, rfl, rfl⟩ | ⟨_, rfl⟩ | ⟨h, _⟩ | ⟨h, _⟩ | ⟨h, _⟩ | h
        · clear H3
          by_cases hk : k2 ≤ k1
          · have bk : decide (k2 ≤ k1) = true := by rw [decide_eq_true_eq]; exact hk
            clear hk
            go_wp2_with fail
            refine (awake_any _ (HT.out.next B1.out)).mono ?_
            rintro e w6 ⟨rfl, hb1⟩
            have B6 := Lib.hid (B1.out.trans (hb1.mono B1.out.size)); clear hb1
            clear a0 a1 a2 al b0 b1 b2 bl
            go_wp2_with fail
            go_ret
            exact ⟨ret_bool (by simp), B6.out⟩
          · have bk : decide (k2 ≤ k1) = false := by rw [decide_eq_false_iff_not]; exact hk
            clear hk
            go_wp2_with fail
            refine (awake_any _ (HT.out.next B1.out)).mono ?_
            rintro e w6 ⟨rfl, hb1⟩
            have B6 := Lib.hid (B1.out.trans (hb1.mono B1.out.size)); clear hb1
            clear a0 a1 a2 al b0 b1 b2 bl
            go_wp2_with fail
            go_ret
            exact ⟨ret_bool (by simp), B6.out⟩
        · clear H3
          by_cases hk : k2 ≤ k1
          · have bk : decide (k2 ≤ k1) = true := by rw [decide_eq_true_eq]; exact hk
            clear hk
            go_wp2_with fail
            refine (awake_any _ (HT.out.next B1.out)).mono ?_
            rintro e w6 ⟨rfl, hb1⟩
            have B6 := Lib.hid (B1.out.trans (hb1.mono B1.out.size)); clear hb1
            clear a0 a1 a2 al b0 b1 b2 bl
            go_wp2_with fail
            go_ret
            exact ⟨ret_bool (by simp), B6.out⟩
          · have bk : decide (k2 ≤ k1) = false := by rw [decide_eq_false_iff_not]; exact hk
            clear hk
            go_wp2_with fail
            refine (awake_any _ (HT.out.next B1.out)).mono ?_
            rintro e w6 ⟨rfl, hb1⟩
            have B6 := Lib.hid (B1.out.trans (hb1.mono B1.out.size)); clear hb1
            clear a0 a1 a2 al b0 b1 b2 bl
            go_wp2_with fail
            go_ret
            exact ⟨ret_bool (by simp), B6.out⟩
        · clear H3
          by_cases hk : k2 ≤ k1
          · have bk : decide (k2 ≤ k1) = true := by rw [decide_eq_true_eq]; exact hk
            clear hk
            go_wp2_with fail
            refine (awake_any _ (HT.out.next B1.out)).mono ?_
            rintro e w6 ⟨rfl, hb1⟩
            have B6 := Lib.hid (B1.out.trans (hb1.mono B1.out.size)); clear hb1
            clear a0 a1 a2 al b0 b1 b2 bl
            go_wp2_with fail
            go_ret
            exact ⟨ret_bool (by simp), B6.out⟩
          · have bk : decide (k2 ≤ k1) = false := by rw [decide_eq_false_iff_not]; exact hk
            clear hk
            go_wp2_with fail
            refine (awake_any _ (HT.out.next B1.out)).mono ?_
            rintro e w6 ⟨rfl, hb1⟩
            have B6 := Lib.hid (B1.out.trans (hb1.mono B1.out.size)); clear hb1
            clear a0 a1 a2 al b0 b1 b2 bl
            go_wp2_with fail
            go_ret
            exact ⟨ret_bool (by simp), B6.out⟩
        · cases h
        · cases h
        · cases h
        · cases h
      · have e1 : (n1 == n2) = false := by rw [beq_eq_false_iff_ne]; exact hn
        clear hn
        clear HK
        go_wp2_with fail
        refine (D5.out _).mono ?_
        rintro e w5 ⟨rfl, hb1⟩
        clear a0 a1 a2 al b0 b1 b2 bl c0 c1 c2 cl
        replace KA := Lib.hid (KA.out.next hb1); replace KB := Lib.hid (KB.out.next hb1)
        replace B1 := Lib.hid (B1.out.trans (hb1.mono B1.out.size)); clear hb1
        obtain ⟨a0, a1, a2, al⟩ := KA.out
        obtain ⟨b0, b1, b2, bl⟩ := KB.out
        dsimp only at a0 a1 a2 b0 b1 b2
        clear D1 D2 D3 D4 D5
        rcases H3.out with ⟨_, rfl, rfl⟩ | ⟨_, rfl, rfl⟩ | ⟨_, rfl⟩ | ⟨h, _⟩ | ⟨h, _⟩ | ⟨h, _⟩ | h
        · clear H3
          go_wp2_with fail
          refine (awake_any _ (HT.out.next B1.out)).mono ?_
          rintro e w6 ⟨rfl, hb1⟩
          have B6 := Lib.hid (B1.out.trans (hb1.mono B1.out.size)); clear hb1
          clear a0 a1 a2 al b0 b1 b2 bl
          go_wp2_with fail
          go_ret
          exact ⟨ret_bool (by simp), B6.out⟩
        · clear H3
          go_wp2_with fail
          refine (awake_any _ (HT.out.next B1.out)).mono ?_
          rintro e w6 ⟨rfl, hb1⟩
          have B6 := Lib.hid (B1.out.trans (hb1.mono B1.out.size)); clear hb1
          clear a0 a1 a2 al b0 b1 b2 bl
          go_wp2_with fail
          go_ret
          exact ⟨ret_bool (by simp), B6.out⟩
        · clear H3
          go_wp2_with fail
          refine (awake_any _ (HT.out.next B1.out)).mono ?_
          rintro e w6 ⟨rfl, hb1⟩
          have B6 := Lib.hid (B1.out.trans (hb1.mono B1.out.size)); clear hb1
          clear a0 a1 a2 al b0 b1 b2 bl
          go_wp2_with fail
          go_ret
          exact ⟨ret_bool (by simp), B6.out⟩
        · cases h
        · cases h
        · cases h
        · cases h
      · have e1 : (t1.toList == t2.toList) = false := by rw [beq_eq_false_iff_ne]; exact fun h => hn (by rw [ByteArray.toList_eq, ByteArray.toList_eq] at h; exact ByteArray.ext (Array.toList_inj.1 h))
        clear hn
        clear HK
        go_wp2_with fail
        refine (D5.out _).mono ?_
        rintro e w5 ⟨rfl, hb1⟩
        clear a0 a1 a2 al b0 b1 b2 bl c0 c1 c2 cl
        replace KA := Lib.hid (KA.out.next hb1); replace KB := Lib.hid (KB.out.next hb1)
        replace B1 := Lib.hid (B1.out.trans (hb1.mono B1.out.size)); clear hb1
        obtain ⟨a0, a1, a2, al⟩ := KA.out
        obtain ⟨b0, b1, b2, bl⟩ := KB.out
        dsimp only at a0 a1 a2 b0 b1 b2
        clear D1 D2 D3 D4 D5
        rcases H3.out with ⟨_, rfl, rfl⟩ | ⟨_, rfl, rfl⟩ | ⟨_, rfl⟩ | ⟨h, _⟩ | ⟨h, _⟩ | ⟨h, _⟩ | h
        · clear H3
          go_wp2_with fail
          refine (awake_any _ (HT.out.next B1.out)).mono ?_
          rintro e w6 ⟨rfl, hb1⟩
          have B6 := Lib.hid (B1.out.trans (hb1.mono B1.out.size)); clear hb1
          clear a0 a1 a2 al b0 b1 b2 bl
          go_wp2_with fail
          go_ret
          exact ⟨ret_bool (by simp), B6.out⟩
        · clear H3
          go_wp2_with fail
          refine (awake_any _ (HT.out.next B1.out)).mono ?_
          rintro e w6 ⟨rfl, hb1⟩
          have B6 := Lib.hid (B1.out.trans (hb1.mono B1.out.size)); clear hb1
          clear a0 a1 a2 al b0 b1 b2 bl
          go_wp2_with fail
          go_ret
          exact ⟨ret_bool (by simp), B6.out⟩
        · clear H3
          go_wp2_with fail
          refine (awake_any _ (HT.out.next B1.out)).mono ?_
          rintro e w6 ⟨rfl, hb1⟩
          have B6 := Lib.hid (B1.out.trans (hb1.mono B1.out.size)); clear hb1
          clear a0 a1 a2 al b0 b1 b2 bl
          go_wp2_with fail
          go_ret
          exact ⟨ret_bool (by simp), B6.out⟩
        · cases h
        · cases h
        · cases h
        · cases h
    · rcases HN with hn | ⟨rfl, hn⟩ | ⟨rfl, rfl, hn⟩
      · have e1 : (k1 == k2) = false := by rw [beq_eq_false_iff_ne]; exact hn
        clear hn
        have bk : decide (k2 ≤ k1) = true := by
          rw [decide_eq_true_eq]
          rcases (show k1 < k2 ∨ k2 ≤ k1 by omega) with h | h
          · exact absurd (HK.out h) (by decide)
          · exact h
        clear HK
        go_wp2_with fail
        refine (D5.out _).mono ?_
        rintro e w5 ⟨rfl, hb1⟩
        clear a0 a1 a2 al b0 b1 b2 bl c0 c1 c2 cl
        replace KA := Lib.hid (KA.out.next hb1); replace KB := Lib.hid (KB.out.next hb1)
        replace B1 := Lib.hid (B1.out.trans (hb1.mono B1.out.size)); clear hb1
        obtain ⟨a0, a1, a2, al⟩ := KA.out
        obtain ⟨b0, b1, b2, bl⟩ := KB.out
        dsimp only at a0 a1 a2 b0 b1 b2
        clear D1 D2 D3 D4 D5
        clear H3
        go_wp2_with fail
        refine (awake_any _ (HT.out.next B1.out)).mono ?_
        rintro e w6 ⟨rfl, hb1⟩
        have B6 := Lib.hid (B1.out.trans (hb1.mono B1.out.size)); clear hb1
        clear a0 a1 a2 al b0 b1 b2 bl
        go_wp2_with fail
        go_ret
        exact ⟨ret_bool (by simp), B6.out⟩
      · have e1 : (n1 == n2) = false := by rw [beq_eq_false_iff_ne]; exact hn
        clear hn
        clear HK
        go_wp2_with fail
        refine (D5.out _).mono ?_
        rintro e w5 ⟨rfl, hb1⟩
        clear a0 a1 a2 al b0 b1 b2 bl c0 c1 c2 cl
        replace KA := Lib.hid (KA.out.next hb1); replace KB := Lib.hid (KB.out.next hb1)
        replace B1 := Lib.hid (B1.out.trans (hb1.mono B1.out.size)); clear hb1
        obtain ⟨a0, a1, a2, al⟩ := KA.out
        obtain ⟨b0, b1, b2, bl⟩ := KB.out
        dsimp only at a0 a1 a2 b0 b1 b2
        clear D1 D2 D3 D4 D5
        clear H3
        go_wp2_with fail
        refine (awake_any _ (HT.out.next B1.out)).mono ?_
        rintro e w6 ⟨rfl, hb1⟩
        have B6 := Lib.hid (B1.out.trans (hb1.mono B1.out.size)); clear hb1
        clear a0 a1 a2 al b0 b1 b2 bl
        go_wp2_with fail
        go_ret
        exact ⟨ret_bool (by simp), B6.out⟩
      · have e1 : (t1.toList == t2.toList) = false := by rw [beq_eq_false_iff_ne]; exact fun h => hn (by rw [ByteArray.toList_eq, ByteArray.toList_eq] at h; exact ByteArray.ext (Array.toList_inj.1 h))
        clear hn
        clear HK
        go_wp2_with fail
        refine (D5.out _).mono ?_
        rintro e w5 ⟨rfl, hb1⟩
        clear a0 a1 a2 al b0 b1 b2 bl c0 c1 c2 cl
        replace KA := Lib.hid (KA.out.next hb1); replace KB := Lib.hid (KB.out.next hb1)
        replace B1 := Lib.hid (B1.out.trans (hb1.mono B1.out.size)); clear hb1
        obtain ⟨a0, a1, a2, al⟩ := KA.out
        obtain ⟨b0, b1, b2, bl⟩ := KB.out
        dsimp only at a0 a1 a2 b0 b1 b2
        clear D1 D2 D3 D4 D5
        clear H3
        go_wp2_with fail
        refine (awake_any _ (HT.out.next B1.out)).mono ?_
        rintro e w6 ⟨rfl, hb1⟩
        have B6 := Lib.hid (B1.out.trans (hb1.mono B1.out.size)); clear hb1
        clear a0 a1 a2 al b0 b1 b2 bl
        go_wp2_with fail
        go_ret
        exact ⟨ret_bool (by simp), B6.out⟩
end Go.Proofs.YtebagmiclfhelaaDoor.OrderOrderWalk
