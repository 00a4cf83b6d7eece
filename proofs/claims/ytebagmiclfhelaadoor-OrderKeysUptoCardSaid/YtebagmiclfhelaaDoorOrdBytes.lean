/- Contracts: bytes of keys. -/
import Derived.Test.YtebagmiclfhelaaDoorOrdCmp
import Derived.Test.YtebagmiclfhelaaDoorOrdRefDec
import Derived.Test.YtebagmiclfhelaaDoorOwn
set_option linter.unusedVariables false
namespace OrdP
open Go.Lib Go
/-- A text's bytes, and its end. -/
def escL : List UInt8 → List UInt8
  | [] => [0, 1]
  | c :: l => if c = 0 then 0 :: 255 :: escL l else c :: escL l
theorem escL_len : ∀ l : List UInt8, (escL l).length ≤ 2 * l.length + 2
  | [] => by simp [escL]
  | c :: l => by unfold escL; have := escL_len l; split <;> simp <;> omega
end OrdP
namespace Go.Proofs.YtebagmiclfhelaaDoor.OrdLib
open Go.RowKit Go.Lib OrdP Kit OrdRef Words Owned

/-- A row of bytes that is the call's own has grown to this list. -/
def RowAt (B : Nat) (l : List UInt8) (w : World) (e : Ending) (w' : World) : Prop :=
  ∃ v, e = .returned v ∧ w'.ownsRow B 5 1 v l.length (byteCells l) ∧ Below B w w'

theorem cells_new (w : World) (l : List Value) (t : TypeId) (j : Nat) (u : Value) (hu : l[j]? = some u) : (w.alloc (.cells l.toArray t)).cell? ((⟨w.heap.size, 0, none⟩ : Addr).add j) = some u := by
  have hadd : (⟨w.heap.size, 0, none⟩ : Addr).add j = ⟨w.heap.size, j, none⟩ := by unfold Addr.add; split <;> simp_all
  rw [hadd, World.cell?_alloc_new]
  simpa using hu
theorem byteCells_one (c : UInt8) : byteCells [c] = [.int .u8 (c.toNat : Int)] := rfl

set_option maxHeartbeats 1000000 in
theorem escaped_any (B : Nat) (v : Value) (pre : List UInt8) (s : ByteArray) (w : World) (hown : w.ownsRow B 5 1 v pre.length (byteCells pre)) (hB : B ≤ w.heap.size) (hs : pre.length + 2 * s.size + 2 ≤ 70368744177664) :
    Calls Tryd.prog 44 #[v, .string s] w (RowAt B (pre ++ escL s.data.toList) w) := by
  obtain ⟨i0, hi, hz0, hz1, hz2⟩ := info_parts infoU8
  go_enter Tryd.func44, Tryd.ntmps44
  go_wp2
  go_loopw [0, 9] (fun o i wr => ∃ (k : Nat) (q : List UInt8), k ≤ s.size ∧ q.length ≤ pre.length + 2 * k ∧ i = .int .i64 k ∧ Hid (q ++ escL (s.data.toList.drop k) = pre ++ escL s.data.toList) ∧
      Hid (wr.ownsRow B 5 1 o q.length (byteCells q)) ∧ Hid (Below B w wr)) (fun _ i _ => s.size - (RowKit.intOf i).toNat)
  case atStart => exact ⟨0, pre, Nat.zero_le _, by omega, rfl, Lib.hid rfl, Lib.hid hown, Lib.hid (Below.refl _ _)⟩
  case round =>
    obtain ⟨k, q, hk, hq, rfl, HQ, HO, HBW⟩ := hrel
    have ho := HO.out
    have hb := HBW.out
    by_cases hlt : k < s.size
    · have hd := drop_get s k hlt
      by_cases hc : s[k] = 0
      · have hz : ((s[k].toNat : Int) == 0) = true := by rw [hc]; rfl
        have HQ2 : Hid ((q ++ [0] ++ [255]) ++ escL (s.data.toList.drop (k + 1)) = pre ++ escL s.data.toList) := Lib.hid (by rw [← HQ.out, hd, escL, if_pos hc]; simp)
        clear hd hc
        go_wp2_with (at_builtin; refine wpList_append_own _ rfl (.tmp 18) (.tmp 19) 66 rfl B 5 i0 (.int .u8 0) 1 1 Tryd.underlying66 hi hz0 hz1 hz2 rfl (by decide) _ (q).length (byteCells (q)) rfl (ho.alloc _) ⟨wr.heap.size, 0, none⟩ 1 1 [.int .u8 0] rfl rfl ?c1 ?c2 ?c3 ?c4 ?c5 ?_)
        case c1 => exact cell_one_new _ _ _
        case c2 => intro u hu; simp at hu; first | (subst hu; rfl) | (rcases hu with rfl | rfl <;> rfl)
        case c3 => unfold maxLen; (try simp only [List.length_append, List.length_cons, List.length_nil]); omega
        case c4 => (try simp only [List.length_append, List.length_cons, List.length_nil]); omega
        case c5 => have := hb.size; simp; omega
        intro xv xw xo xg _
        have xb : Below B w xw := (hb.alloc (by have := hb.size; omega) _).grown xg (by have := hb.size; simp; omega) (fun r e => (ho.lt r e).1)
        have xo2 : xw.ownsRow B 5 1 xv (q ++ [0]).length (byteCells (q ++ [0])) := by rw [byteCells_append, List.length_append]; exact xo
        clear xo xg
        go_wp2_with (at_builtin; refine wpList_append_own _ rfl (.tmp 21) (.tmp 23) 66 rfl B 5 i0 (.int .u8 0) 1 1 Tryd.underlying66 hi hz0 hz1 hz2 rfl (by decide) _ (q ++ [0]).length (byteCells (q ++ [0])) rfl (xo2.alloc _) ⟨xw.heap.size, 0, none⟩ 1 1 [.int .u8 255] rfl rfl ?c1 ?c2 ?c3 ?c4 ?c5 ?_)
        case c1 => exact cell_one_new _ _ _
        case c2 => intro u hu; simp at hu; first | (subst hu; rfl) | (rcases hu with rfl | rfl <;> rfl)
        case c3 => unfold maxLen; (try simp only [List.length_append, List.length_cons, List.length_nil]); omega
        case c4 => (try simp only [List.length_append, List.length_cons, List.length_nil]); omega
        case c5 => have := xb.size; simp; omega
        intro yv yw yo yg _
        have yb : Below B w yw := (xb.alloc (by have := xb.size; omega) _).grown yg (by have := xb.size; simp; omega) (fun r e => (xo2.lt r e).1)
        have H1 : Hid (yw.ownsRow B 5 1 yv (q ++ [0] ++ [255]).length (byteCells (q ++ [0] ++ [255]))) := Lib.hid (by rw [byteCells_append, List.length_append, List.length_append]; exact yo)
        have H2 := Lib.hid yb
        clear yo yg yb xo2 xb ho hb
        go_wp2_with fail
        go_roundw
        case rel => exact ⟨k + 1, q ++ [0] ++ [255], hlt, by simp; omega, by go_num, HQ2, H1, H2⟩
        case measure => simp [RowKit.intOf]; omega
      · have hz : ((s[k].toNat : Int) == 0) = false := by
          rw [beq_eq_false_iff_ne]; intro h; apply hc; apply UInt8.toNat_inj.1; rw [show (0 : UInt8).toNat = 0 from rfl]; omega
        have HQ2 : Hid ((q ++ [s[k]]) ++ escL (s.data.toList.drop (k + 1)) = pre ++ escL s.data.toList) := Lib.hid (by rw [← HQ.out, hd, escL, if_neg hc]; simp)
        clear hc hd
        generalize hn : s[k] = c at *
        go_wp2_with (at_builtin; refine wpList_append_own _ rfl (.tmp 21) (.tmp 23) 66 rfl B 5 i0 (.int .u8 0) 1 1 Tryd.underlying66 hi hz0 hz1 hz2 rfl (by decide) _ (q).length (byteCells (q)) rfl (ho.alloc _) ⟨wr.heap.size, 0, none⟩ 1 1 [.int .u8 (c.toNat : Int)] rfl rfl ?c1 ?c2 ?c3 ?c4 ?c5 ?_)
        case c1 => exact cell_one_new _ _ _
        case c2 => intro u hu; simp at hu; first | (subst hu; rfl) | (rcases hu with rfl | rfl <;> rfl)
        case c3 => unfold maxLen; (try simp only [List.length_append, List.length_cons, List.length_nil]); omega
        case c4 => (try simp only [List.length_append, List.length_cons, List.length_nil]); omega
        case c5 => have := hb.size; simp; omega
        intro xv xw xo xg _
        have xb : Below B w xw := (hb.alloc (by have := hb.size; omega) _).grown xg (by have := hb.size; simp; omega) (fun r e => (ho.lt r e).1)
        have H1 : Hid (xw.ownsRow B 5 1 xv (q ++ [c]).length (byteCells (q ++ [c]))) := Lib.hid (by rw [byteCells_append, List.length_append]; exact xo)
        have H2 := Lib.hid xb
        clear xo xg xb ho hb
        go_wp2_with fail
        go_roundw
        case rel => exact ⟨k + 1, q ++ [c], hlt, by simp; omega, by go_num, HQ2, H1, H2⟩
        case measure => simp [RowKit.intOf]; omega
    · have hq2 := HQ.out
      rw [drop_none s k (by omega)] at hq2
      have HQ2 : Hid (q ++ [0, 1] = pre ++ escL s.data.toList) := Lib.hid hq2
      clear hq2
      go_wp2_with (at_builtin; refine wpList_append_own _ rfl (.tmp 26) (.tmp 27) 66 rfl B 5 i0 (.int .u8 0) 1 1 Tryd.underlying66 hi hz0 hz1 hz2 rfl (by decide) _ (q).length (byteCells (q)) rfl (ho.alloc _) ⟨wr.heap.size, 0, none⟩ 2 2 [.int .u8 0, .int .u8 1] rfl rfl ?c1 ?c2 ?c3 ?c4 ?c5 ?_)
      case c1 => intro j u hu; exact cells_new _ _ _ j u hu
      case c2 => intro u hu; simp at hu; first | (subst hu; rfl) | (rcases hu with rfl | rfl <;> rfl)
      case c3 => unfold maxLen; (try simp only [List.length_append, List.length_cons, List.length_nil]); omega
      case c4 => (try simp only [List.length_append, List.length_cons, List.length_nil]); omega
      case c5 => have := hb.size; simp; omega
      intro xv xw xo xg _
      have xb : Below B w xw := (hb.alloc (by have := hb.size; omega) _).grown xg (by have := hb.size; simp; omega) (fun r e => (ho.lt r e).1)
      have H1 : Hid (xw.ownsRow B 5 1 xv (q ++ [0, 1]).length (byteCells (q ++ [0, 1]))) := Lib.hid (by rw [byteCells_append, List.length_append]; exact xo)
      have H2 := Lib.hid xb
      clear xo xg xb ho hb
      go_wp2_with fail
      go_ret
      rw [HQ2.out] at H1
      exact ⟨_, rfl, H1.out, H2.out⟩
end Go.Proofs.YtebagmiclfhelaaDoor.OrdLib
