/- Contracts: the document's bytes of keys (printed by gen_ref2.py). -/
import Derived.Test.YtebagmiclfhelaaDoorOrdRef1
import Derived.Laws.Bits64
set_option linter.unusedVariables false
namespace Go.Proofs.YtebagmiclfhelaaDoor.OrdLib
open Go.RowKit Go.Lib OrdP Kit OrdRef Words Owned

theorem xor_low (a : Nat) (h : a < 2 ^ 63) : a ^^^ 2 ^ 63 = 2 ^ 63 + a := by
  apply Nat.eq_of_testBit_eq
  intro i
  rw [Nat.testBit_xor, Nat.testBit_two_pow]
  rcases Nat.lt_trichotomy i 63 with h1 | rfl | h1
  · have : ¬ 63 = i := by omega
    rw [Nat.testBit_two_pow_add_gt h1]
    simp [this]
  · rw [Nat.testBit_two_pow_add_eq, Nat.testBit_lt_two_pow h]; simp
  · rw [Nat.testBit_lt_two_pow (Nat.lt_of_lt_of_le h (Nat.pow_le_pow_right (by decide) (by omega))), Nat.testBit_lt_two_pow (Nat.lt_of_lt_of_le (show 2 ^ 63 + a < 2 ^ 64 by omega) (Nat.pow_le_pow_right (by decide) (by omega)))]
    have : ¬ 63 = i := by omega
    simp [this]
theorem xor_top (a : Nat) (h : a < 18446744073709551616) : a ^^^ 9223372036854775808 = (a + 9223372036854775808) % 18446744073709551616 := by
  have e : (9223372036854775808 : Nat) = 2 ^ 63 := by decide
  rcases Nat.lt_or_ge a 9223372036854775808 with h1 | h1
  · rw [e, xor_low a (by omega)]; omega
  · obtain ⟨b, rfl⟩ := Nat.exists_eq_add_of_le h1
    have h2 := xor_low b (by omega)
    rw [e, ← h2, Nat.xor_assoc, Nat.xor_self, Nat.xor_zero]
    omega
theorem xor64 (n : Int) : bits BinOp.xor IntKind.u64 (IntKind.u64.wrap n) 9223372036854775808 = (n + 9223372036854775808) % 18446744073709551616 := by
  have e : IntKind.u64.wrap n = ((n % 18446744073709551616).toNat : Int) := by rw [IntKind.wrap_u64]; omega
  rw [e]
  have h := bits_xor_u64_nat (n % 18446744073709551616).toNat 9223372036854775808 (by omega) (by omega)
  rw [xor_top _ (by omega)] at h
  have h2 : bits BinOp.xor IntKind.u64 ((n % 18446744073709551616).toNat : Int) 9223372036854775808 = ((((n % 18446744073709551616).toNat + 9223372036854775808) % 18446744073709551616 : Nat) : Int) := h
  rw [h2]; omega
theorem own_mono {w : World} {B B' n m : Nat} {e : TypeId} {v : Value} {xs : List Value} (h : w.ownsRow B e m v n xs) (hB : B' ≤ B) : w.ownsRow B' e m v n xs := by
  refine ⟨h.1, ?_⟩
  rcases h.2 with h0 | ⟨g, cap, cur, hv, hb, hr⟩
  · exact .inl h0
  · exact .inr ⟨g, cap, cur, hv, by omega, hr⟩
theorem row_at {w w' : World} {B B' : Nat} {v : Value} {l : List UInt8} {W0 : World} (h : w'.ownsRow B 5 1 v l.length (byteCells l)) (hb : Below B W0 w') (hB : B' ≤ B) (h0 : Below B' w W0) : RowAt B' l w (.returned v) w' :=
  ⟨v, rfl, own_mono h hB, h0.trans (hb.mono hB)⟩
theorem esc_snoc : ∀ (l : List UInt8) (c : UInt8) (r : List UInt8), escL (c :: r) = (if c = 0 then [0, 255] else [c]) ++ escL r
  | _, c, r => by rw [escL]; split <;> rfl

set_option maxRecDepth 100000 in
set_option maxHeartbeats 4000000 in
theorem one_any (k : KeyD) (hr : rightF k = true) (hs : k.text.size ≤ 4194304) (w : World) : Calls Tryd.prog 49 #[k.v] w (RowAt w.heap.size (keyB k) w) := by
  obtain ⟨i0, hi, hz0, hz1, hz2⟩ := info_parts infoU8
  rcases right_cases hr with ⟨_, rfl, rfl⟩ | ⟨n, rfl⟩ | ⟨tx, rfl⟩
  · clear hr hs
    rw [keyB_0]
    unfold KeyD.v
    dsimp only
    go_enter Tryd.func49, Tryd.ntmps49
    go_wp2_with fail
    go_ret
    refine ⟨_, rfl, ?_, ((Below.refl _ w).alloc (Nat.le_refl _) _).alloc (by simp) _⟩
    have := own_new (w.alloc (.cells #[.int .i64 0, .int .i64 0, .string ⟨#[]⟩] 35)) w.heap.size 5 [0] (by simp) (by decide)
    simpa [byteCells] using this
  · clear hr hs
    rw [keyB_1]
    unfold KeyD.v
    dsimp only
    have hx := xor64 n
    obtain ⟨m, hm, h1, _⟩ : ∃ m : Nat, m < 18446744073709551616 ∧ (n + 9223372036854775808) % 18446744073709551616 = (m : Int) ∧ True := ⟨((n + 9223372036854775808) % 18446744073709551616).toNat, by omega, by omega, trivial⟩
    rw [h1] at hx ⊢
    clear h1
    go_enter Tryd.func49, Tryd.ntmps49
    go_wp2_with fail
    have HX := Lib.hid hx
    clear hx
    obtain ⟨B, hB⟩ : ∃ B, w.heap.size + 1 = B := ⟨_, rfl⟩
    obtain ⟨W0, hW0⟩ : ∃ W : World, W = w.alloc (.cells #[.int .i64 1, .int .i64 n, .string ⟨#[]⟩] 35) := ⟨_, rfl⟩
    have hz0' : W0.heap.size = B := by rw [hW0, ← hB]; simp
    have hn1 := own_new W0 B 5 [1] (by omega) (by decide)
    have hk0 : W0.cell? ⟨w.heap.size, 0, none⟩ = some (.int .i64 1) := by rw [hW0]; go_simp
    have hb0 : Below w.heap.size w W0 := by rw [hW0]; exact (Below.refl _ w).alloc (Nat.le_refl _) _
    rw [← hW0, hB]
    rw [hz0'] at hn1
    have O1 : Hid ((W0.alloc (.cells #[.int .u8 1] 5)).ownsRow B 5 1 (.slice (some ⟨B, 0, none⟩) 1 1) ([1] ++ (be8 m).take 0).length (byteCells ([1] ++ (be8 m).take 0))) := Lib.hid (by simpa [byteCells] using hn1)
    have O2 : Hid (Below B W0 (W0.alloc (.cells #[.int .u8 1] 5))) := Lib.hid ((Below.refl B W0).alloc (by omega) _)
    have HK0 : Hid (∀ W, Below B W0 W → W.cell? ⟨w.heap.size, 0, none⟩ = some (.int .i64 1)) := Lib.hid (fun W h => by rw [h.cell (by show w.heap.size < B; omega)]; exact hk0)
    have HB := Lib.hid hB; have HB0 := Lib.hid hb0; have HZ0 := Lib.hid hz0'
    clear hW0 hn1 hk0 hb0 hB hz0'
    generalize W0.alloc (.cells #[.int .u8 1] 5) = W1 at *
    go_loopw [3, 5] (fun o i wr => ∃ j : Nat, j ≤ 8 ∧ i = .int .i64 (7 - (j : Int)) ∧ Hid (wr.ownsRow B 5 1 o ([1] ++ (be8 m).take j).length (byteCells ([1] ++ (be8 m).take j))) ∧ Hid (Below B W0 wr)) (fun _ i _ => (RowKit.intOf i + 1).toNat)
    case atStart => exact ⟨0, by omega, by simp, O1, O2⟩
    case round =>
      obtain ⟨j, hj, rfl, HO, HBW⟩ := hrel
      have ho := HO.out
      have hb := HBW.out
      have hz := HZ0.out
      have hl8 : (be8 m).length = 8 := be8_len m
      have hj9 : j = 0 ∨ j = 1 ∨ j = 2 ∨ j = 3 ∨ j = 4 ∨ j = 5 ∨ j = 6 ∨ j = 7 ∨ j = 8 := by omega
      clear hj
      rcases hj9 with rfl | rfl | rfl | rfl | rfl | rfl | rfl | rfl | rfl
      · have htake := be8_take m 0 (by omega)
        have hle : ((be8 m).take 0).length = 0 := by rw [List.length_take, hl8]; rfl
        rw [show (56 - 8 * 0 : Nat) = 56 from rfl, show (2 ^ 56 : Nat) = 72057594037927936 from rfl] at htake
        have HT := Lib.hid htake; have HLE := Lib.hid hle
        clear htake hle hl8
        go_wp2_with (at_builtin; refine wpList_append_own _ rfl (.tmp 22) (.tmp 29) 66 rfl B 5 i0 (.int .u8 0) 1 1 Tryd.underlying66 hi hz0 hz1 hz2 rfl (by decide) _ ([1] ++ (be8 m).take 0).length (byteCells ([1] ++ (be8 m).take 0)) rfl (ho.alloc _) ⟨wr.heap.size, 0, none⟩ 1 1 [.int .u8 ((m : Int) / 72057594037927936)] rfl rfl ?c1 ?c2 ?c3 ?c4 ?c5 ?_)
        case c1 => exact cell_one_new _ _ _
        case c2 => intro u hu; simp at hu; first | (subst hu; rfl) | (rcases hu with rfl | rfl <;> rfl)
        case c3 => unfold maxLen; have := HLE.out; simp only [List.length_append, List.length_cons, List.length_nil]; omega
        case c4 => have := HLE.out; simp only [List.length_append, List.length_cons, List.length_nil]; omega
        case c5 => have := hb.size; simp; omega
        intro xv xw xo xg _
        have xb : Below B W0 xw := (hb.alloc (by have := hb.size; omega) _).grown xg (by have := hb.size; simp; omega) (fun r e => (ho.lt r e).1)
        have G1 : Hid (xw.ownsRow B 5 1 xv ([1] ++ (be8 m).take 0 ++ [UInt8.ofNat (m / 72057594037927936)]).length (byteCells ([1] ++ (be8 m).take 0 ++ [UInt8.ofNat (m / 72057594037927936)]))) := Lib.hid (by rw [byteCells_append, List.length_append, byteOf m 72057594037927936 ((m : Int) / 72057594037927936) (by first | rfl | omega | (simp; done))]; first | exact xo | simpa using xo)
        have G2 := Lib.hid xb
        clear xo xg xb ho hb
        have G3 : Hid (xw.ownsRow B 5 1 xv ([1] ++ (be8 m).take 1).length (byteCells ([1] ++ (be8 m).take 1))) := Lib.hid (by rw [HT.out, ← List.append_assoc]; exact G1.out)
        clear G1 hz
        go_wp2_with fail
        go_roundw
        case rel => exact ⟨1, by omega, by simp, G3, G2⟩
        case measure => simp [RowKit.intOf]
      · have htake := be8_take m 1 (by omega)
        have hle : ((be8 m).take 1).length = 1 := by rw [List.length_take, hl8]; rfl
        rw [show (56 - 8 * 1 : Nat) = 48 from rfl, show (2 ^ 48 : Nat) = 281474976710656 from rfl] at htake
        have HT := Lib.hid htake; have HLE := Lib.hid hle
        clear htake hle hl8
        go_wp2_with (at_builtin; refine wpList_append_own _ rfl (.tmp 22) (.tmp 29) 66 rfl B 5 i0 (.int .u8 0) 1 1 Tryd.underlying66 hi hz0 hz1 hz2 rfl (by decide) _ ([1] ++ (be8 m).take 1).length (byteCells ([1] ++ (be8 m).take 1)) rfl (ho.alloc _) ⟨wr.heap.size, 0, none⟩ 1 1 [.int .u8 ((m : Int) / 281474976710656 % 256)] rfl rfl ?c1 ?c2 ?c3 ?c4 ?c5 ?_)
        case c1 => exact cell_one_new _ _ _
        case c2 => intro u hu; simp at hu; first | (subst hu; rfl) | (rcases hu with rfl | rfl <;> rfl)
        case c3 => unfold maxLen; have := HLE.out; simp only [List.length_append, List.length_cons, List.length_nil]; omega
        case c4 => have := HLE.out; simp only [List.length_append, List.length_cons, List.length_nil]; omega
        case c5 => have := hb.size; simp; omega
        intro xv xw xo xg _
        have xb : Below B W0 xw := (hb.alloc (by have := hb.size; omega) _).grown xg (by have := hb.size; simp; omega) (fun r e => (ho.lt r e).1)
        have G1 : Hid (xw.ownsRow B 5 1 xv ([1] ++ (be8 m).take 1 ++ [UInt8.ofNat (m / 281474976710656)]).length (byteCells ([1] ++ (be8 m).take 1 ++ [UInt8.ofNat (m / 281474976710656)]))) := Lib.hid (by rw [byteCells_append, List.length_append, byteOf m 281474976710656 ((m : Int) / 281474976710656 % 256) (by first | rfl | omega | (simp; done))]; first | exact xo | simpa using xo)
        have G2 := Lib.hid xb
        clear xo xg xb ho hb
        have G3 : Hid (xw.ownsRow B 5 1 xv ([1] ++ (be8 m).take 2).length (byteCells ([1] ++ (be8 m).take 2))) := Lib.hid (by rw [HT.out, ← List.append_assoc]; exact G1.out)
        clear G1 hz
        go_wp2_with fail
        go_roundw
        case rel => exact ⟨2, by omega, by simp, G3, G2⟩
        case measure => simp [RowKit.intOf]
      · have htake := be8_take m 2 (by omega)
        have hle : ((be8 m).take 2).length = 2 := by rw [List.length_take, hl8]; rfl
        rw [show (56 - 8 * 2 : Nat) = 40 from rfl, show (2 ^ 40 : Nat) = 1099511627776 from rfl] at htake
        have HT := Lib.hid htake; have HLE := Lib.hid hle
        clear htake hle hl8
        go_wp2_with (at_builtin; refine wpList_append_own _ rfl (.tmp 22) (.tmp 29) 66 rfl B 5 i0 (.int .u8 0) 1 1 Tryd.underlying66 hi hz0 hz1 hz2 rfl (by decide) _ ([1] ++ (be8 m).take 2).length (byteCells ([1] ++ (be8 m).take 2)) rfl (ho.alloc _) ⟨wr.heap.size, 0, none⟩ 1 1 [.int .u8 ((m : Int) / 1099511627776 % 256)] rfl rfl ?c1 ?c2 ?c3 ?c4 ?c5 ?_)
        case c1 => exact cell_one_new _ _ _
        case c2 => intro u hu; simp at hu; first | (subst hu; rfl) | (rcases hu with rfl | rfl <;> rfl)
        case c3 => unfold maxLen; have := HLE.out; simp only [List.length_append, List.length_cons, List.length_nil]; omega
        case c4 => have := HLE.out; simp only [List.length_append, List.length_cons, List.length_nil]; omega
        case c5 => have := hb.size; simp; omega
        intro xv xw xo xg _
        have xb : Below B W0 xw := (hb.alloc (by have := hb.size; omega) _).grown xg (by have := hb.size; simp; omega) (fun r e => (ho.lt r e).1)
        have G1 : Hid (xw.ownsRow B 5 1 xv ([1] ++ (be8 m).take 2 ++ [UInt8.ofNat (m / 1099511627776)]).length (byteCells ([1] ++ (be8 m).take 2 ++ [UInt8.ofNat (m / 1099511627776)]))) := Lib.hid (by rw [byteCells_append, List.length_append, byteOf m 1099511627776 ((m : Int) / 1099511627776 % 256) (by first | rfl | omega | (simp; done))]; first | exact xo | simpa using xo)
        have G2 := Lib.hid xb
        clear xo xg xb ho hb
        have G3 : Hid (xw.ownsRow B 5 1 xv ([1] ++ (be8 m).take 3).length (byteCells ([1] ++ (be8 m).take 3))) := Lib.hid (by rw [HT.out, ← List.append_assoc]; exact G1.out)
        clear G1 hz
        go_wp2_with fail
        go_roundw
        case rel => exact ⟨3, by omega, by simp, G3, G2⟩
        case measure => simp [RowKit.intOf]
      · have htake := be8_take m 3 (by omega)
        have hle : ((be8 m).take 3).length = 3 := by rw [List.length_take, hl8]; rfl
        rw [show (56 - 8 * 3 : Nat) = 32 from rfl, show (2 ^ 32 : Nat) = 4294967296 from rfl] at htake
        have HT := Lib.hid htake; have HLE := Lib.hid hle
        clear htake hle hl8
        go_wp2_with (at_builtin; refine wpList_append_own _ rfl (.tmp 22) (.tmp 29) 66 rfl B 5 i0 (.int .u8 0) 1 1 Tryd.underlying66 hi hz0 hz1 hz2 rfl (by decide) _ ([1] ++ (be8 m).take 3).length (byteCells ([1] ++ (be8 m).take 3)) rfl (ho.alloc _) ⟨wr.heap.size, 0, none⟩ 1 1 [.int .u8 ((m : Int) / 4294967296 % 256)] rfl rfl ?c1 ?c2 ?c3 ?c4 ?c5 ?_)
        case c1 => exact cell_one_new _ _ _
        case c2 => intro u hu; simp at hu; first | (subst hu; rfl) | (rcases hu with rfl | rfl <;> rfl)
        case c3 => unfold maxLen; have := HLE.out; simp only [List.length_append, List.length_cons, List.length_nil]; omega
        case c4 => have := HLE.out; simp only [List.length_append, List.length_cons, List.length_nil]; omega
        case c5 => have := hb.size; simp; omega
        intro xv xw xo xg _
        have xb : Below B W0 xw := (hb.alloc (by have := hb.size; omega) _).grown xg (by have := hb.size; simp; omega) (fun r e => (ho.lt r e).1)
        have G1 : Hid (xw.ownsRow B 5 1 xv ([1] ++ (be8 m).take 3 ++ [UInt8.ofNat (m / 4294967296)]).length (byteCells ([1] ++ (be8 m).take 3 ++ [UInt8.ofNat (m / 4294967296)]))) := Lib.hid (by rw [byteCells_append, List.length_append, byteOf m 4294967296 ((m : Int) / 4294967296 % 256) (by first | rfl | omega | (simp; done))]; first | exact xo | simpa using xo)
        have G2 := Lib.hid xb
        clear xo xg xb ho hb
        have G3 : Hid (xw.ownsRow B 5 1 xv ([1] ++ (be8 m).take 4).length (byteCells ([1] ++ (be8 m).take 4))) := Lib.hid (by rw [HT.out, ← List.append_assoc]; exact G1.out)
        clear G1 hz
        go_wp2_with fail
        go_roundw
        case rel => exact ⟨4, by omega, by simp, G3, G2⟩
        case measure => simp [RowKit.intOf]
      · have htake := be8_take m 4 (by omega)
        have hle : ((be8 m).take 4).length = 4 := by rw [List.length_take, hl8]; rfl
        rw [show (56 - 8 * 4 : Nat) = 24 from rfl, show (2 ^ 24 : Nat) = 16777216 from rfl] at htake
        have HT := Lib.hid htake; have HLE := Lib.hid hle
        clear htake hle hl8
        go_wp2_with (at_builtin; refine wpList_append_own _ rfl (.tmp 22) (.tmp 29) 66 rfl B 5 i0 (.int .u8 0) 1 1 Tryd.underlying66 hi hz0 hz1 hz2 rfl (by decide) _ ([1] ++ (be8 m).take 4).length (byteCells ([1] ++ (be8 m).take 4)) rfl (ho.alloc _) ⟨wr.heap.size, 0, none⟩ 1 1 [.int .u8 ((m : Int) / 16777216 % 256)] rfl rfl ?c1 ?c2 ?c3 ?c4 ?c5 ?_)
        case c1 => exact cell_one_new _ _ _
        case c2 => intro u hu; simp at hu; first | (subst hu; rfl) | (rcases hu with rfl | rfl <;> rfl)
        case c3 => unfold maxLen; have := HLE.out; simp only [List.length_append, List.length_cons, List.length_nil]; omega
        case c4 => have := HLE.out; simp only [List.length_append, List.length_cons, List.length_nil]; omega
        case c5 => have := hb.size; simp; omega
        intro xv xw xo xg _
        have xb : Below B W0 xw := (hb.alloc (by have := hb.size; omega) _).grown xg (by have := hb.size; simp; omega) (fun r e => (ho.lt r e).1)
        have G1 : Hid (xw.ownsRow B 5 1 xv ([1] ++ (be8 m).take 4 ++ [UInt8.ofNat (m / 16777216)]).length (byteCells ([1] ++ (be8 m).take 4 ++ [UInt8.ofNat (m / 16777216)]))) := Lib.hid (by rw [byteCells_append, List.length_append, byteOf m 16777216 ((m : Int) / 16777216 % 256) (by first | rfl | omega | (simp; done))]; first | exact xo | simpa using xo)
        have G2 := Lib.hid xb
        clear xo xg xb ho hb
        have G3 : Hid (xw.ownsRow B 5 1 xv ([1] ++ (be8 m).take 5).length (byteCells ([1] ++ (be8 m).take 5))) := Lib.hid (by rw [HT.out, ← List.append_assoc]; exact G1.out)
        clear G1 hz
        go_wp2_with fail
        go_roundw
        case rel => exact ⟨5, by omega, by simp, G3, G2⟩
        case measure => simp [RowKit.intOf]
      · have htake := be8_take m 5 (by omega)
        have hle : ((be8 m).take 5).length = 5 := by rw [List.length_take, hl8]; rfl
        rw [show (56 - 8 * 5 : Nat) = 16 from rfl, show (2 ^ 16 : Nat) = 65536 from rfl] at htake
        have HT := Lib.hid htake; have HLE := Lib.hid hle
        clear htake hle hl8
        go_wp2_with (at_builtin; refine wpList_append_own _ rfl (.tmp 22) (.tmp 29) 66 rfl B 5 i0 (.int .u8 0) 1 1 Tryd.underlying66 hi hz0 hz1 hz2 rfl (by decide) _ ([1] ++ (be8 m).take 5).length (byteCells ([1] ++ (be8 m).take 5)) rfl (ho.alloc _) ⟨wr.heap.size, 0, none⟩ 1 1 [.int .u8 ((m : Int) / 65536 % 256)] rfl rfl ?c1 ?c2 ?c3 ?c4 ?c5 ?_)
        case c1 => exact cell_one_new _ _ _
        case c2 => intro u hu; simp at hu; first | (subst hu; rfl) | (rcases hu with rfl | rfl <;> rfl)
        case c3 => unfold maxLen; have := HLE.out; simp only [List.length_append, List.length_cons, List.length_nil]; omega
        case c4 => have := HLE.out; simp only [List.length_append, List.length_cons, List.length_nil]; omega
        case c5 => have := hb.size; simp; omega
        intro xv xw xo xg _
        have xb : Below B W0 xw := (hb.alloc (by have := hb.size; omega) _).grown xg (by have := hb.size; simp; omega) (fun r e => (ho.lt r e).1)
        have G1 : Hid (xw.ownsRow B 5 1 xv ([1] ++ (be8 m).take 5 ++ [UInt8.ofNat (m / 65536)]).length (byteCells ([1] ++ (be8 m).take 5 ++ [UInt8.ofNat (m / 65536)]))) := Lib.hid (by rw [byteCells_append, List.length_append, byteOf m 65536 ((m : Int) / 65536 % 256) (by first | rfl | omega | (simp; done))]; first | exact xo | simpa using xo)
        have G2 := Lib.hid xb
        clear xo xg xb ho hb
        have G3 : Hid (xw.ownsRow B 5 1 xv ([1] ++ (be8 m).take 6).length (byteCells ([1] ++ (be8 m).take 6))) := Lib.hid (by rw [HT.out, ← List.append_assoc]; exact G1.out)
        clear G1 hz
        go_wp2_with fail
        go_roundw
        case rel => exact ⟨6, by omega, by simp, G3, G2⟩
        case measure => simp [RowKit.intOf]
      · have htake := be8_take m 6 (by omega)
        have hle : ((be8 m).take 6).length = 6 := by rw [List.length_take, hl8]; rfl
        rw [show (56 - 8 * 6 : Nat) = 8 from rfl, show (2 ^ 8 : Nat) = 256 from rfl] at htake
        have HT := Lib.hid htake; have HLE := Lib.hid hle
        clear htake hle hl8
        go_wp2_with (at_builtin; refine wpList_append_own _ rfl (.tmp 22) (.tmp 29) 66 rfl B 5 i0 (.int .u8 0) 1 1 Tryd.underlying66 hi hz0 hz1 hz2 rfl (by decide) _ ([1] ++ (be8 m).take 6).length (byteCells ([1] ++ (be8 m).take 6)) rfl (ho.alloc _) ⟨wr.heap.size, 0, none⟩ 1 1 [.int .u8 ((m : Int) / 256 % 256)] rfl rfl ?c1 ?c2 ?c3 ?c4 ?c5 ?_)
        case c1 => exact cell_one_new _ _ _
        case c2 => intro u hu; simp at hu; first | (subst hu; rfl) | (rcases hu with rfl | rfl <;> rfl)
        case c3 => unfold maxLen; have := HLE.out; simp only [List.length_append, List.length_cons, List.length_nil]; omega
        case c4 => have := HLE.out; simp only [List.length_append, List.length_cons, List.length_nil]; omega
        case c5 => have := hb.size; simp; omega
        intro xv xw xo xg _
        have xb : Below B W0 xw := (hb.alloc (by have := hb.size; omega) _).grown xg (by have := hb.size; simp; omega) (fun r e => (ho.lt r e).1)
        have G1 : Hid (xw.ownsRow B 5 1 xv ([1] ++ (be8 m).take 6 ++ [UInt8.ofNat (m / 256)]).length (byteCells ([1] ++ (be8 m).take 6 ++ [UInt8.ofNat (m / 256)]))) := Lib.hid (by rw [byteCells_append, List.length_append, byteOf m 256 ((m : Int) / 256 % 256) (by first | rfl | omega | (simp; done))]; first | exact xo | simpa using xo)
        have G2 := Lib.hid xb
        clear xo xg xb ho hb
        have G3 : Hid (xw.ownsRow B 5 1 xv ([1] ++ (be8 m).take 7).length (byteCells ([1] ++ (be8 m).take 7))) := Lib.hid (by rw [HT.out, ← List.append_assoc]; exact G1.out)
        clear G1 hz
        go_wp2_with fail
        go_roundw
        case rel => exact ⟨7, by omega, by simp, G3, G2⟩
        case measure => simp [RowKit.intOf]
      · have htake := be8_take m 7 (by omega)
        have hle : ((be8 m).take 7).length = 7 := by rw [List.length_take, hl8]; rfl
        rw [show (56 - 8 * 7 : Nat) = 0 from rfl, show (2 ^ 0 : Nat) = 1 from rfl] at htake
        have HT := Lib.hid htake; have HLE := Lib.hid hle
        clear htake hle hl8
        go_wp2_with (at_builtin; refine wpList_append_own _ rfl (.tmp 22) (.tmp 29) 66 rfl B 5 i0 (.int .u8 0) 1 1 Tryd.underlying66 hi hz0 hz1 hz2 rfl (by decide) _ ([1] ++ (be8 m).take 7).length (byteCells ([1] ++ (be8 m).take 7)) rfl (ho.alloc _) ⟨wr.heap.size, 0, none⟩ 1 1 [.int .u8 ((m : Int) % 256)] rfl rfl ?c1 ?c2 ?c3 ?c4 ?c5 ?_)
        case c1 => exact cell_one_new _ _ _
        case c2 => intro u hu; simp at hu; first | (subst hu; rfl) | (rcases hu with rfl | rfl <;> rfl)
        case c3 => unfold maxLen; have := HLE.out; simp only [List.length_append, List.length_cons, List.length_nil]; omega
        case c4 => have := HLE.out; simp only [List.length_append, List.length_cons, List.length_nil]; omega
        case c5 => have := hb.size; simp; omega
        intro xv xw xo xg _
        have xb : Below B W0 xw := (hb.alloc (by have := hb.size; omega) _).grown xg (by have := hb.size; simp; omega) (fun r e => (ho.lt r e).1)
        have G1 : Hid (xw.ownsRow B 5 1 xv ([1] ++ (be8 m).take 7 ++ [UInt8.ofNat (m / 1)]).length (byteCells ([1] ++ (be8 m).take 7 ++ [UInt8.ofNat (m / 1)]))) := Lib.hid (by rw [byteCells_append, List.length_append, byteOf m 1 ((m : Int) % 256) (by first | rfl | omega | (simp; done))]; first | exact xo | simpa using xo)
        have G2 := Lib.hid xb
        clear xo xg xb ho hb
        have G3 : Hid (xw.ownsRow B 5 1 xv ([1] ++ (be8 m).take 8).length (byteCells ([1] ++ (be8 m).take 8))) := Lib.hid (by rw [HT.out, ← List.append_assoc]; exact G1.out)
        clear G1 hz
        go_wp2_with fail
        go_roundw
        case rel => exact ⟨8, by omega, by simp, G3, G2⟩
        case measure => simp [RowKit.intOf]
      · have hall : (be8 m).take 8 = be8 m := List.take_of_length_le (by omega)
        rw [hall] at ho
        have H1 := Lib.hid ho
        have k0 := HK0.out _ hb
        clear ho hall hl8 hz hb
        go_wp2_with fail
        go_ret
        exact row_at H1.out HBW.out (by have := HB.out; omega) HB0.out
  · clear hr
    rw [keyB_2]
    unfold KeyD.v
    dsimp only at hs ⊢
    go_enter Tryd.func49, Tryd.ntmps49
    go_wp2_with fail
    obtain ⟨B, hB⟩ : ∃ B, w.heap.size + 1 = B := ⟨_, rfl⟩
    obtain ⟨W0, hW0⟩ : ∃ W : World, W = w.alloc (.cells #[.int .i64 2, .int .i64 0, .string tx] 35) := ⟨_, rfl⟩
    have hz0' : W0.heap.size = B := by rw [hW0, ← hB]; simp
    have hn1 := own_new W0 B 5 [2] (by omega) (by decide)
    have hk2 : W0.cell? ⟨w.heap.size, 2, none⟩ = some (.string tx) := by rw [hW0]; go_simp
    have hb0 : Below w.heap.size w W0 := by rw [hW0]; exact (Below.refl _ w).alloc (Nat.le_refl _) _
    rw [← hW0, hB]
    rw [hz0'] at hn1
    have O1 : Hid ((W0.alloc (.cells #[.int .u8 2] 5)).ownsRow B 5 1 (.slice (some ⟨B, 0, none⟩) 1 1) [2].length (byteCells [2])) := Lib.hid (by simpa [byteCells] using hn1)
    have O2 : Hid (Below B W0 (W0.alloc (.cells #[.int .u8 2] 5))) := Lib.hid ((Below.refl B W0).alloc (by omega) _)
    have HK2 : Hid (∀ W, Below B W0 W → W.cell? ⟨w.heap.size, 2, none⟩ = some (.string tx)) := Lib.hid (fun W h => by rw [h.cell (by show w.heap.size < B; omega)]; exact hk2)
    have HB := Lib.hid hB; have HB0 := Lib.hid hb0; have HZ0 := Lib.hid hz0'
    clear hW0 hn1 hk2 hb0 hB hz0'
    generalize W0.alloc (.cells #[.int .u8 2] 5) = W1 at *
    go_loopw [3, 6] (fun o i wr => ∃ (k : Nat) (q : List UInt8), k ≤ tx.size ∧ q.length ≤ 1 + 2 * k ∧ i = .int .i64 k ∧ Hid (q ++ escL (tx.data.toList.drop k) = 2 :: escL tx.data.toList) ∧ Hid (wr.ownsRow B 5 1 o q.length (byteCells q)) ∧ Hid (Below B W0 wr)) (fun _ i _ => tx.size - (RowKit.intOf i).toNat)
    case atStart => exact ⟨0, [2], by omega, by simp, rfl, Lib.hid rfl, O1, O2⟩
    case round =>
      obtain ⟨k, q, hk, hq, rfl, HQ, HO, HBW⟩ := hrel
      have ho := HO.out
      have hb := HBW.out
      have hz := HZ0.out
      have t2 := HK2.out _ hb
      by_cases hlt : k < tx.size
      · have hd := drop_get tx k hlt
        by_cases hc : tx[k] = 0
        · have hz : ((tx[k].toNat : Int) == 0) = true := by rw [hc]; rfl
          have HQ2 : Hid ((q ++ [tx[k]] ++ [255]) ++ escL (tx.data.toList.drop (k + 1)) = 2 :: escL tx.data.toList) := Lib.hid (by rw [← HQ.out, hd, hc, escL_zero]; simp)
          clear hd hc
          go_wp2_with (at_builtin; refine wpList_append_own _ rfl (.tmp 41) (.tmp 46) 66 rfl B 5 i0 (.int .u8 0) 1 1 Tryd.underlying66 hi hz0 hz1 hz2 rfl (by decide) _ (q).length (byteCells (q)) rfl (ho.alloc _) ⟨wr.heap.size, 0, none⟩ 1 1 [.int .u8 (tx[k].toNat : Int)] rfl rfl ?c1 ?c2 ?c3 ?c4 ?c5 ?_)
          case c1 => exact cell_one_new _ _ _
          case c2 => intro u hu; simp at hu; first | (subst hu; rfl) | (rcases hu with rfl | rfl <;> rfl)
          case c3 => unfold maxLen; omega
          case c4 => omega
          case c5 => have := hb.size; simp; omega
          intro xv xw xo xg _
          have xb : Below B W0 xw := (hb.alloc (by have := hb.size; omega) _).grown xg (by have := hb.size; simp; omega) (fun r e => (ho.lt r e).1)
          have G1 : Hid (xw.ownsRow B 5 1 xv (q ++ [tx[k]]).length (byteCells (q ++ [tx[k]]))) := Lib.hid (by rw [byteCells_append, List.length_append]; exact xo)
          have G2 := Lib.hid xb
          clear xo xg xb ho hb
          have ho := G1.out
          have hb := G2.out
          have t3 := HK2.out _ hb
          clear G1 G2 t2
          go_wp2_with (at_builtin; refine wpList_append_own _ rfl (.tmp 53) (.tmp 54) 66 rfl B 5 i0 (.int .u8 0) 1 1 Tryd.underlying66 hi hz0 hz1 hz2 rfl (by decide) _ (q ++ [tx[k]]).length (byteCells (q ++ [tx[k]])) rfl (ho.alloc _) ⟨xw.heap.size, 0, none⟩ 1 1 [.int .u8 255] rfl rfl ?c1 ?c2 ?c3 ?c4 ?c5 ?_)
          case c1 => exact cell_one_new _ _ _
          case c2 => intro u hu; simp at hu; first | (subst hu; rfl) | (rcases hu with rfl | rfl <;> rfl)
          case c3 => unfold maxLen; simp only [List.length_append, List.length_cons, List.length_nil]; omega
          case c4 => simp only [List.length_append, List.length_cons, List.length_nil]; omega
          case c5 => have := hb.size; simp; omega
          intro yv yw yo yg _
          have xb : Below B W0 yw := (hb.alloc (by have := hb.size; omega) _).grown yg (by have := hb.size; simp; omega) (fun r e => (ho.lt r e).1)
          have G1 : Hid (yw.ownsRow B 5 1 yv (q ++ [tx[k]] ++ [255]).length (byteCells (q ++ [tx[k]] ++ [255]))) := Lib.hid (by have h := yo; simpa [byteCells_append, byteCells] using h)
          have G2 := Lib.hid xb
          clear yo yg xb ho hb
          clear t3
          go_wp2_with fail
          go_roundw
          case rel => exact ⟨k + 1, q ++ [tx[k]] ++ [255], hlt, by simp; omega, by go_num, HQ2, G1, G2⟩
          case measure => simp [RowKit.intOf]; omega
        · have hz : ((tx[k].toNat : Int) == 0) = false := by
            rw [beq_eq_false_iff_ne]; intro h; apply hc; apply UInt8.toNat_inj.1; rw [show (0 : UInt8).toNat = 0 from rfl]; omega
          have HQ2 : Hid ((q ++ [tx[k]]) ++ escL (tx.data.toList.drop (k + 1)) = 2 :: escL tx.data.toList) := Lib.hid (by rw [← HQ.out, hd, escL_c hc]; simp)
          clear hd hc
          go_wp2_with (at_builtin; refine wpList_append_own _ rfl (.tmp 41) (.tmp 46) 66 rfl B 5 i0 (.int .u8 0) 1 1 Tryd.underlying66 hi hz0 hz1 hz2 rfl (by decide) _ (q).length (byteCells (q)) rfl (ho.alloc _) ⟨wr.heap.size, 0, none⟩ 1 1 [.int .u8 (tx[k].toNat : Int)] rfl rfl ?c1 ?c2 ?c3 ?c4 ?c5 ?_)
          case c1 => exact cell_one_new _ _ _
          case c2 => intro u hu; simp at hu; first | (subst hu; rfl) | (rcases hu with rfl | rfl <;> rfl)
          case c3 => unfold maxLen; omega
          case c4 => omega
          case c5 => have := hb.size; simp; omega
          intro xv xw xo xg _
          have xb : Below B W0 xw := (hb.alloc (by have := hb.size; omega) _).grown xg (by have := hb.size; simp; omega) (fun r e => (ho.lt r e).1)
          have G1 : Hid (xw.ownsRow B 5 1 xv (q ++ [tx[k]]).length (byteCells (q ++ [tx[k]]))) := Lib.hid (by rw [byteCells_append, List.length_append]; exact xo)
          have G2 := Lib.hid xb
          clear xo xg xb ho hb
          have t3 := HK2.out _ G2.out
          clear t2
          go_wp2_with fail
          go_roundw
          case rel => exact ⟨k + 1, q ++ [tx[k]], hlt, by simp; omega, by go_num, HQ2, G1, G2⟩
          case measure => simp [RowKit.intOf]; omega
      · have hq2 := HQ.out
        rw [drop_none tx k (by omega)] at hq2
        have HQ2 : Hid (q ++ [0, 1] = 2 :: escL tx.data.toList) := Lib.hid hq2
        clear hq2
        go_wp2_with (at_builtin; refine wpList_append_own _ rfl (.tmp 56) (.tmp 57) 66 rfl B 5 i0 (.int .u8 0) 1 1 Tryd.underlying66 hi hz0 hz1 hz2 rfl (by decide) _ (q).length (byteCells (q)) rfl (ho.alloc _) ⟨wr.heap.size, 0, none⟩ 2 2 [.int .u8 0, .int .u8 1] rfl rfl ?c1 ?c2 ?c3 ?c4 ?c5 ?_)
        case c1 => intro j u hu; exact cells_new _ _ _ j u hu
        case c2 => intro u hu; simp at hu; first | (subst hu; rfl) | (rcases hu with rfl | rfl <;> rfl)
        case c3 => unfold maxLen; omega
        case c4 => omega
        case c5 => have := hb.size; simp; omega
        intro xv xw xo xg _
        have xb : Below B W0 xw := (hb.alloc (by have := hb.size; omega) _).grown xg (by have := hb.size; simp; omega) (fun r e => (ho.lt r e).1)
        have G1 : Hid (xw.ownsRow B 5 1 xv (q ++ [0, 1]).length (byteCells (q ++ [0, 1]))) := Lib.hid (by rw [byteCells_append, List.length_append]; exact xo)
        have G2 := Lib.hid xb
        clear xo xg xb ho hb
        clear t2
        go_wp2_with fail
        go_ret
        rw [HQ2.out] at G1
        exact row_at G1.out G2.out (by have := HB.out; omega) HB0.out
end Go.Proofs.YtebagmiclfhelaaDoor.OrdLib
