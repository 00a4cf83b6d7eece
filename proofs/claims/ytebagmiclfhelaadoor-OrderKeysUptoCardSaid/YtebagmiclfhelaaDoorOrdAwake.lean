/- Contracts: the chapter's examples (small judges, where they are true), awake. -/
import Derived.Test.YtebagmiclfhelaaDoorOrdRow
import Derived.Test.YtebagmiclfhelaaDoorOrdDec
import Derived.Test.YtebagmiclfhelaaDoorOrdText
set_option linter.unusedVariables false
namespace Go.Proofs.YtebagmiclfhelaaDoor.OrdLib
open Go.RowKit Go.Lib OrdP Kit OrdRef Words Owned

set_option maxRecDepth 100000 in
theorem decimal_true (s : ByteArray) (scale want : Int) (w : World) (hs : s.size < 4294967281) (hT : OTabs w) (h1 : decN s.data.toList scale = want) (h2 : decE s.data.toList scale = 0) :
    Calls Tryd.prog 15 #[.string s, .int .i64 scale, .int .i64 want] w (BoolB true w) := by
  have HC := dec_any s scale w hs hT
  unfold DecRet at HC
  rw [h1, h2] at HC
  have HC := Lib.hid HC
  clear h1 h2 hT
  go_enter Tryd.func15, Tryd.ntmps15
  go_wp2_with fail
  refine HC.out.mono ?_
  rintro e w2 ⟨rfl, hb⟩
  have HB := Lib.hid hb; clear hb
  go_wp2_with fail
  go_ret
  exact ⟨ret_bool (by simp), HB.out⟩
set_option maxRecDepth 100000 in
theorem none_true (s : ByteArray) (scale : Int) (w : World) (hs : s.size < 4294967281) (hT : OTabs w) (h1 : decN s.data.toList scale = 0) (h2 : decE s.data.toList scale = 70) :
    Calls Tryd.prog 16 #[.string s, .int .i64 scale] w (BoolB true w) := by
  have HC := dec_any s scale w hs hT
  unfold DecRet at HC
  rw [h1, h2] at HC
  have HC := Lib.hid HC
  clear h1 h2 hT
  go_enter Tryd.func16, Tryd.ntmps16
  go_wp2_with fail
  refine HC.out.mono ?_
  rintro e w2 ⟨rfl, hb⟩
  have HB := Lib.hid hb; clear hb
  go_wp2_with fail
  go_ret
  exact ⟨ret_bool (by simp), HB.out⟩
set_option maxRecDepth 100000 in
theorem text_true (n scale : Int) (want : ByteArray) (w : World) (h0 : -9223372036854775808 ≤ n) (h9 : n ≤ 9223372036854775807) (hT : OTabs w) (h1 : str (txtS n scale) = want) (h2 : txtE scale = 0) :
    Calls Tryd.prog 17 #[.int .i64 n, .int .i64 scale, .string want] w (BoolB true w) := by
  have HC := text_any n scale w h0 h9 hT
  unfold TextRet at HC
  rw [h1, h2] at HC
  have HC := Lib.hid HC
  clear h1 h2 hT h0 h9
  go_enter Tryd.func17, Tryd.ntmps17
  go_wp2_with fail
  refine HC.out.mono ?_
  rintro e w2 ⟨rfl, hb⟩
  have HB := Lib.hid hb; clear hb
  go_wp2_with fail
  go_ret
  exact ⟨ret_bool (by simp), HB.out⟩
set_option maxRecDepth 100000 in
theorem bytes_true (kd nm : Int) (tx : ByteArray) (bl n c : Nat) (l : List UInt8) (w : World) (hn : n = l.length) (hbl : bl < w.heap.size) (hc : ∀ j (h : j < l.length), w.cell? ⟨bl, j, none⟩ = some (.int .u8 (l[j].toNat : Int)))
    (hs : tx.size ≤ 1000) (hr : rightF ⟨kd, nm, tx⟩ = true) (hl : rowB [⟨kd, nm, tx⟩] = l) :
    Calls Tryd.prog 21 #[.agg #[.int .i64 kd, .int .i64 nm, .string tx], .slice (some ⟨bl, 0, none⟩) n c] w (BoolB true w) := by
  subst hn
  have HC : ∀ (w0 : World), Calls Tryd.prog 18 #[.slice (some ⟨w0.heap.size, 0, none⟩) 1 1] (w0.alloc (.cells #[.int .i64 kd, .int .i64 nm, .string tx] 35)) (fun e w' => e = .returned (.tuple #[.string (str l), .int .i64 0]) ∧ Below (w0.heap.size + 1) (w0.alloc (.cells #[.int .i64 kd, .int .i64 nm, .string tx] 35)) w') := by
    intro w0
    have h := bytes_ok w0.heap.size 1 [⟨kd, nm, tx⟩] (w0.alloc (.cells #[.int .i64 kd, .int .i64 nm, .string tx] 35)) (by simp) (by
      intro i k hk
      cases i with
      | zero =>
        simp only [List.getElem?_cons_zero, Option.some.injEq] at hk
        subst hk
        exact ⟨by rw [World.cell?_alloc_new]; rfl, by rw [World.cell?_alloc_new]; rfl, by rw [World.cell?_alloc_new]; rfl⟩
      | succ i => simp at hk) (by simp [sumT]; omega) (by simp) (by simp [hr])
    rw [hl] at h
    simpa using h
  have HC := Lib.hid HC
  have HH := Lib.hid hc
  clear hr hl hs hc
  go_enter Tryd.func21, Tryd.ntmps21
  go_wp2_with fail
  have h := HC.out (w.alloc (.cells #[.int .i64 kd, .int .i64 nm, .string tx] 35))
  rw [show (w.alloc (.cells #[.int .i64 kd, .int .i64 nm, .string tx] 35)).heap.size = w.heap.size + 1 by simp] at h
  refine h.mono ?_
  clear h
  rintro e w2 ⟨rfl, hb⟩
  have hbw : Below w.heap.size w w2 := (((Below.refl _ w).alloc (Nat.le_refl _) _).alloc (by simp) _).trans (hb.mono (by omega))
  have hcv := run_convert_bytes_back (P := Tryd.prog) w2 66 9 5 ⟨bl, 0, none⟩ c l Tryd.underlying66 Tryd.underlying5 Tryd.underlying9 (fun j hj => by
      have hadd : (⟨bl, 0, none⟩ : Addr).add j = ⟨bl, j, none⟩ := by unfold Addr.add; split <;> simp_all
      rw [hadd, hbw.cell hbl]; exact HH.out j hj)
  have HB := Lib.hid hbw; clear hbw hb
  change (convert _ _ _).run _ _ = .ok (.string (str l)) _ at hcv
  go_wp2_with fail
  go_ret
  exact ⟨ret_bool (by simp), HB.out⟩
end Go.Proofs.YtebagmiclfhelaaDoor.OrdLib
