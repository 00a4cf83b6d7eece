/- Contract: Bytes of a row of keys. -/
import Derived.Test.YtebagmiclfhelaaDoorOrdBytes
set_option linter.unusedVariables false
namespace OrdP
open Go.Lib Go
def be8 (u : Int) : List UInt8 := (List.range 8).map fun i => UInt8.ofNat (u.toNat / 2 ^ (56 - 8 * i))
def keyB (k : KeyD) : List UInt8 := UInt8.ofNat k.kind.toNat :: (if k.kind = 1 then be8 ((k.num + 9223372036854775808) % 18446744073709551616) else if k.kind = 2 then escL k.text.data.toList else [])
def rowB : List KeyD → List UInt8
  | [] => []
  | k :: l => keyB k ++ rowB l
def sumT : List KeyD → Nat
  | [] => 0
  | k :: l => k.text.size + sumT l
def keyCells (ks : List KeyD) : List Value := ks.flatMap KeyD.cells
theorem keyCells_append (a b : List KeyD) : keyCells (a ++ b) = keyCells a ++ keyCells b := by unfold keyCells; rw [List.flatMap_append]
theorem keyCells_length : ∀ ks : List KeyD, (keyCells ks).length = ks.length * 3
  | [] => rfl
  | k :: l => by
    show (k.cells ++ keyCells l).length = _
    rw [List.length_append, keyCells_length l, List.length_cons]
    show 3 + _ = _
    omega
theorem keyCells_get : ∀ (ks : List KeyD) (i : Nat) (k : KeyD), ks[i]? = some k → ∀ j, j < 3 → (keyCells ks)[i * 3 + j]? = k.cells[j]?
  | [], i, k, h, _, _ => by simp at h
  | a :: l, 0, k, h, j, hj => by
    simp only [List.getElem?_cons_zero, Option.some.injEq] at h
    subst h
    show (a.cells ++ keyCells l)[0 * 3 + j]? = _
    rw [Nat.zero_mul, Nat.zero_add, List.getElem?_append_left (by show j < 3; exact hj)]
  | a :: l, i + 1, k, h, j, hj => by
    rw [List.getElem?_cons_succ] at h
    show (a.cells ++ keyCells l)[(i + 1) * 3 + j]? = _
    rw [List.getElem?_append_right (by show 3 ≤ _; omega)]
    show (keyCells l)[(i + 1) * 3 + j - 3]? = _
    rw [show (i + 1) * 3 + j - 3 = i * 3 + j by omega]
    exact keyCells_get l i k h j hj
end OrdP
namespace Go.Proofs.YtebagmiclfhelaaDoor.OrdLib
open Go.RowKit Go.Lib OrdP Kit OrdRef Words Owned

theorem _root_.OrdP.sumT_snoc : ∀ (l : List KeyD) (k : KeyD), sumT (l ++ [k]) = sumT l + k.text.size
  | [], k => by simp [sumT]
  | a :: l, k => by rw [List.cons_append, sumT, sumT, sumT_snoc l k]; omega
theorem _root_.OrdP.sumT_take : ∀ (l : List KeyD) (n : Nat), sumT (l.take n) ≤ sumT l
  | [], n => by simp [sumT]
  | a :: l, 0 => by simp [sumT]
  | a :: l, n + 1 => by rw [List.take_succ_cons, sumT, sumT]; have := sumT_take l n; omega
theorem be8_take (m : Nat) (j : Nat) (hj : j < 8) : (be8 m).take (j + 1) = (be8 m).take j ++ [UInt8.ofNat (m / 2 ^ (56 - 8 * j))] := by
  rw [List.take_succ_eq_append_getElem (by simp [be8]; omega)]
  simp [be8]
theorem byteOf (m D : Nat) (n : Int) (h : n = (m : Int) / (D : Int) % 256) : byteCells [UInt8.ofNat (m / D)] = [.int .u8 n] := by
  subst h
  simp [byteCells]
theorem u64nat (n : Int) : IntKind.u64.wrap (IntKind.u64.wrap n + 9223372036854775808) = (((n + 9223372036854775808) % 18446744073709551616).toNat : Int) ∧ IntKind.u64.wrap (IntKind.u64.wrap n + 9223372036854775808) = (n + 9223372036854775808) % 18446744073709551616 := by
  have h : IntKind.u64.wrap (IntKind.u64.wrap n + 9223372036854775808) = (n + 9223372036854775808) % 18446744073709551616 := by
    simp only [IntKind.wrap, IntKind.signed, IntKind.bits]
    simp
  exact ⟨by rw [h]; omega, h⟩
theorem add_at (ad : Addr) (n j : Nat) : ad.add (n + (j + 1)) = ⟨(ad.add n).block, (ad.add n).off + (j + 1), none⟩ := by
  rw [← add_of_add]
  unfold Addr.add
  rw [if_neg (by omega : ¬ j + 1 = 0)]
/-- A key of a row that is read. -/
theorem reads_key {w : World} {B n : Nat} {ao : Option Addr} {ks : List KeyD} (h : Reads w B 3 ao n (keyCells ks)) {k : Nat} (hk : k < ks.length) :
    ∃ ad, ao = some ad ∧ ad.block < B ∧ w.cell? (ad.add (k * 3)) = some (.int .i64 ks[k].kind) ∧ w.cell? ⟨(ad.add (k * 3)).block, (ad.add (k * 3)).off + 1, none⟩ = some (.int .i64 ks[k].num) ∧ w.cell? ⟨(ad.add (k * 3)).block, (ad.add (k * 3)).off + 2, none⟩ = some (.string ks[k].text) := by
  have hn : n = ks.length := by have := h.1; rw [keyCells_length] at this; omega
  obtain ⟨ad, ha, hb, hc⟩ := h.2 (by omega)
  have hg : ks[k]? = some ks[k] := List.getElem?_eq_getElem hk
  refine ⟨ad, ha, hb, ?_, ?_, ?_⟩
  · have := hc (k * 3 + 0) _ (keyCells_get ks k _ hg 0 (by omega)); exact this
  · rw [← add_at]; exact hc (k * 3 + 1) _ (keyCells_get ks k _ hg 1 (by omega))
  · rw [← add_at]; exact hc (k * 3 + 2) _ (keyCells_get ks k _ hg 2 (by omega))
def BytesRet (ks : List KeyD) (w : World) (e : Ending) (w' : World) : Prop :=
  (if ks.all rightF then e = .returned (.tuple #[.string (str (rowB ks)), .int .i64 0]) else e = .returned (.tuple #[.string ⟨#[]⟩, .int .i64 1])) ∧ Below w.heap.size w w'

set_option maxRecDepth 100000 in
set_option maxHeartbeats 1000000 in
theorem bytes_any (ao : Option Addr) (c : Nat) (ks : List KeyD) (w : World) (hk : Reads w w.heap.size 3 ao ks.length (keyCells ks)) (hs : sumT ks ≤ 4194304) (hl : ks.length ≤ 4194304) :
    Calls Tryd.prog 18 #[.slice ao ks.length c] w (BytesRet ks w) := by
  obtain ⟨i0, hi, hz0, hz1, hz2⟩ := info_parts infoU8
  have HK := Lib.hid hk; clear hk
  go_enter Tryd.func18, Tryd.ntmps18
  go_wp2
  go_loopw [4, 11] (fun o i wr => ∃ (k : Nat) (q : List UInt8), k ≤ ks.length ∧ q.length ≤ 9 * k + 2 * sumT (ks.take k) + 2 * k ∧ i = .int .i64 k ∧ Hid (q ++ rowB (ks.drop k) = rowB ks) ∧
      Hid (wr.ownsRow w.heap.size 5 1 o q.length (byteCells q)) ∧ Hid (Below w.heap.size w wr) ∧ Hid ((ks.take k).all rightF = true)) (fun _ i _ => ks.length - (RowKit.intOf i).toNat)
  case atStart => exact ⟨0, [], Nat.zero_le _, by simp, rfl, Lib.hid rfl, Lib.hid (World.ownsRow_nil _ _ _ _), Lib.hid (Below.refl _ _), Lib.hid (by simp)⟩
  case round =>
    obtain ⟨k, q, hk, hq, rfl, HQ, HO, HBW, HR⟩ := hrel
    have ho := HO.out
    have hb := HBW.out
    by_cases hlt : k < ks.length
    · have hkk : ks[k]? = some ks[k] := List.getElem?_eq_getElem (by omega)
      obtain ⟨ad, rfl, hbl, c0, c1, c2⟩ := reads_key HK.out hlt
      rw [← hb.cell (by rw [block_of_add]; exact hbl)] at c0
      rw [← hb.cell (by show (ad.add (k * 3)).block < _; rw [block_of_add]; exact hbl)] at c1 c2
      have htkr : (ks.take (k + 1)).all rightF = rightF ks[k] := by rw [List.take_succ_eq_append_getElem hlt, List.all_append, HR.out]; simp
      have hnor : rightF ks[k] = false → ks.all rightF = false := fun h => by
        rw [List.all_eq_false]; exact ⟨_, List.getElem_mem hlt, by rw [h]; decide⟩
      have hdr : rowB (ks.drop k) = keyB ks[k] ++ rowB (ks.drop (k + 1)) := by rw [List.drop_eq_getElem_cons hlt, rowB]
      have htk : sumT (ks.take (k + 1)) = sumT (ks.take k) + ks[k].text.size := by rw [List.take_succ_eq_append_getElem hlt]; exact sumT_snoc _ _
      have htl : sumT (ks.take (k + 1)) ≤ sumT ks := sumT_take _ _
      clear hkk
      generalize hx : ks[k] = x at *
      clear hx
      obtain ⟨kd, nm, tx⟩ := x
      dsimp only at c0 c1 c2 htk
      have HQ2 := HQ.out
      rw [hdr] at HQ2
      have HQ2 := Lib.hid HQ2
      have HTK := Lib.hid htk; have HTL := Lib.hid htl
      clear hdr htk htl
      have HTR := Lib.hid htkr; have HNR := Lib.hid hnor
      clear htkr hnor
      cases hrx : rightF ⟨kd, nm, tx⟩ with
      | false =>
        have HRX := Lib.hid hrx; clear hrx
        have HW : ∀ w2, Calls Tryd.prog 22 #[.agg #[.int .i64 kd, .int .i64 nm, .string tx]] w2 (BoolB false w2) := by
          intro w2
          have := right_any ⟨kd, nm, tx⟩ w2
          rw [HRX.out] at this
          exact this
        have HW := Lib.hid HW
        go_wp2_with fail
        refine (HW.out _).mono ?_
        rintro e w2 ⟨rfl, hb2⟩
        have hbw2 : Below w.heap.size w w2 := (hb.alloc hb.size _).trans (hb2.mono (by have := hb.size; simp; omega))
        have HB2 := Lib.hid hbw2
        clear hb2 hbw2 hb ho
        go_wp2_with fail
        go_ret2
        exact ⟨by rw [HNR.out HRX.out]; rfl, HB2.out⟩
      | true =>
      have h3 : (kd = 0 ∧ nm = 0 ∧ tx.size = 0) ∨ (kd = 1 ∧ tx.size = 0) ∨ (kd = 2 ∧ nm = 0) := by
        unfold rightF at hrx
        simp only [Bool.or_eq_true, Bool.and_eq_true, decide_eq_true_eq] at hrx
        rcases hrx with (⟨⟨h1, h2⟩, h3⟩ | ⟨h1, h2⟩) | ⟨h1, h2⟩
        · exact .inl ⟨h1, h2, h3⟩
        · exact .inr (.inl ⟨h1, h2⟩)
        · exact .inr (.inr ⟨h1, h2⟩)
      have HRX := Lib.hid hrx; clear hrx
      have HW : ∀ w2, Calls Tryd.prog 22 #[.agg #[.int .i64 kd, .int .i64 nm, .string tx]] w2 (BoolB true w2) := by
        intro w2
        have := right_any ⟨kd, nm, tx⟩ w2
        rw [HRX.out] at this
        exact this
      have HW := Lib.hid HW
      rcases h3 with ⟨rfl, rfl, ht0⟩ | ⟨rfl, ht0⟩ | ⟨rfl, rfl⟩
      · go_wp2_with fail
        refine (HW.out _).mono ?_
        rintro e w2 ⟨rfl, hb2⟩
        have f0 : w2.cell? ⟨wr.heap.size, 0, none⟩ = some (.int .i64 0) := by rw [hb2.cell (by simp)]; simp [World.cell?_alloc_new]
        have f1 : w2.cell? ⟨wr.heap.size, 1, none⟩ = some (.int .i64 0) := by rw [hb2.cell (by simp)]; simp [World.cell?_alloc_new]
        have f2 : w2.cell? ⟨wr.heap.size, 2, none⟩ = some (.string tx) := by rw [hb2.cell (by simp)]; simp [World.cell?_alloc_new]
        have hbw2 : Below w.heap.size w w2 := (hb.alloc hb.size _).trans (hb2.mono (by have := hb.size; simp; omega))
        have HB2 := Lib.hid hb2
        have ho2 := own_below (ho.alloc _) hb2
        go_wp2_with (at_builtin; refine wpList_append_own _ rfl (.tmp 18) (.tmp 22) 66 rfl w.heap.size 5 i0 (.int .u8 0) 1 1 Tryd.underlying66 hi hz0 hz1 hz2 rfl (by decide) _ (q).length (byteCells (q)) rfl (ho2.alloc _) ⟨w2.heap.size, 0, none⟩ 1 1 [.int .u8 0] rfl rfl ?c1 ?c2 ?c3 ?c4 ?c5 ?_)
        case c1 => exact cell_one_new _ _ _
        case c2 => intro u hu; simp at hu; subst hu; rfl
        case c3 => unfold maxLen; have := HTL.out; have := HTK.out; omega
        case c4 => have := HTL.out; have := HTK.out; omega
        case c5 => have := hbw2.size; simp; omega
        intro v1 w3 hown1 hg _
        have hbw3 : Below w.heap.size w w3 := (hbw2.alloc hbw2.size _).grown hg (by have := hbw2.size; simp; omega) (fun r e => (ho2.lt r e).1)
        have hblk : w3.heap[wr.heap.size]? = w2.heap[wr.heap.size]? := by
          obtain ⟨_, _, _, _, hh⟩ := hg
          have hlt2 : wr.heap.size < w2.heap.size := by have := HB2.out.size; simp at this; omega
          rw [hh wr.heap.size (by simp; omega) (fun e => by have := (ho.lt _ e.symm).2; omega)]
          show (w2.heap.push _)[wr.heap.size]? = _
          rw [Array.getElem?_push, if_neg (by omega)]
        have e0 : w3.cell? ⟨wr.heap.size, 0, none⟩ = some (.int .i64 0) := by rw [World.cell?_of_block hblk]; exact f0
        have e1 : w3.cell? ⟨wr.heap.size, 1, none⟩ = some (.int .i64 0) := by rw [World.cell?_of_block hblk]; exact f1
        have e2 : w3.cell? ⟨wr.heap.size, 2, none⟩ = some (.string tx) := by rw [World.cell?_of_block hblk]; exact f2
        have H1 : Hid (w3.ownsRow w.heap.size 5 1 v1 (q ++ [0]).length (byteCells (q ++ [0]))) := Lib.hid (by rw [byteCells_append, List.length_append]; exact hown1)
        have H2 := Lib.hid hbw3
        clear hown1 hbw3 hg hblk ho2 hbw2 f0 f1 f2
        go_wp2_with fail
        go_roundw
        case rel =>
          refine ⟨k + 1, q ++ [0], hlt, ?_, by go_num, ?_, H1, H2, Lib.hid (HTR.out.trans HRX.out)⟩
          · simp; have := HTK.out; omega
          · unfold Hid; rw [← HQ2.out]; simp [keyB]
        case measure => simp [RowKit.intOf]; omega
      · go_wp2_with fail
        refine (HW.out _).mono ?_
        rintro e w2 ⟨rfl, hb2⟩
        have f0 : w2.cell? ⟨wr.heap.size, 0, none⟩ = some (.int .i64 1) := by rw [hb2.cell (by simp)]; simp [World.cell?_alloc_new]
        have f1 : w2.cell? ⟨wr.heap.size, 1, none⟩ = some (.int .i64 nm) := by rw [hb2.cell (by simp)]; simp [World.cell?_alloc_new]
        have f2 : w2.cell? ⟨wr.heap.size, 2, none⟩ = some (.string tx) := by rw [hb2.cell (by simp)]; simp [World.cell?_alloc_new]
        have hbw2 : Below w.heap.size w w2 := (hb.alloc hb.size _).trans (hb2.mono (by have := hb.size; simp; omega))
        have HB2 := Lib.hid hb2
        have ho2 := own_below (ho.alloc _) hb2
        go_wp2_with (at_builtin; refine wpList_append_own _ rfl (.tmp 18) (.tmp 22) 66 rfl w.heap.size 5 i0 (.int .u8 0) 1 1 Tryd.underlying66 hi hz0 hz1 hz2 rfl (by decide) _ (q).length (byteCells (q)) rfl (ho2.alloc _) ⟨w2.heap.size, 0, none⟩ 1 1 [.int .u8 1] rfl rfl ?c1 ?c2 ?c3 ?c4 ?c5 ?_)
        case c1 => exact cell_one_new _ _ _
        case c2 => intro u hu; simp at hu; subst hu; rfl
        case c3 => unfold maxLen; have := HTL.out; have := HTK.out; omega
        case c4 => have := HTL.out; have := HTK.out; omega
        case c5 => have := hbw2.size; simp; omega
        intro v1 w3 hown1 hg _
        have hbw3 : Below w.heap.size w w3 := (hbw2.alloc hbw2.size _).grown hg (by have := hbw2.size; simp; omega) (fun r e => (ho2.lt r e).1)
        have hblk : w3.heap[wr.heap.size]? = w2.heap[wr.heap.size]? := by
          obtain ⟨_, _, _, _, hh⟩ := hg
          have hlt2 : wr.heap.size < w2.heap.size := by have := HB2.out.size; simp at this; omega
          rw [hh wr.heap.size (by simp; omega) (fun e => by have := (ho.lt _ e.symm).2; omega)]
          show (w2.heap.push _)[wr.heap.size]? = _
          rw [Array.getElem?_push, if_neg (by omega)]
        have e0 : w3.cell? ⟨wr.heap.size, 0, none⟩ = some (.int .i64 1) := by rw [World.cell?_of_block hblk]; exact f0
        have e1 : w3.cell? ⟨wr.heap.size, 1, none⟩ = some (.int .i64 nm) := by rw [World.cell?_of_block hblk]; exact f1
        have e2 : w3.cell? ⟨wr.heap.size, 2, none⟩ = some (.string tx) := by rw [World.cell?_of_block hblk]; exact f2
        have H1 : Hid (w3.ownsRow w.heap.size 5 1 v1 (q ++ [1]).length (byteCells (q ++ [1]))) := Lib.hid (by rw [byteCells_append, List.length_append]; exact hown1)
        have H2 := Lib.hid hbw3
        clear hown1 hbw3 hg hblk ho2 hbw2 f0 f1 f2
        go_upto_region 11 with fail
        obtain ⟨m, hm⟩ : ∃ m : Nat, IntKind.u64.wrap (IntKind.u64.wrap nm + 9223372036854775808) = (m : Int) := ⟨_, (u64nat nm).1⟩
        have hm2 : (m : Int) = (nm + 9223372036854775808) % 18446744073709551616 := by rw [← hm]; exact (u64nat nm).2
        rw [hm]
        have HM2 := Lib.hid hm2
        clear hm hm2 e0 e1 e2 c0 c1 c2
        go_wp2_with fail
        go_loopw [4, 32] (fun o i wr => ∃ j : Nat, j ≤ 8 ∧ i = .int .i64 j ∧ Hid (wr.ownsRow w.heap.size 5 1 o (q ++ [1] ++ (be8 m).take j).length (byteCells (q ++ [1] ++ (be8 m).take j))) ∧ Hid (Below w.heap.size w wr)) (fun _ i _ => 8 - (RowKit.intOf i).toNat)
        case atStart => exact ⟨0, by omega, rfl, Lib.hid (by simpa using H1.out), H2⟩
        case round =>
          rename_i wx _
          obtain ⟨j, hj, rfl, HO3, HB3⟩ := hrel
          have ho3 := HO3.out
          have hb3 := HB3.out
          have hl8 : (be8 m).length = 8 := by simp [be8]
          by_cases hj8 : j = 8
          · subst hj8
            have hall : (be8 m).take 8 = be8 m := List.take_of_length_le (by omega)
            rw [hall] at HO3
            have HL8 := Lib.hid hl8
            clear ho3 hb3 hall
            go_wp2_with fail
            go_roundw
            case rel =>
              refine ⟨k + 1, q ++ [1] ++ be8 m, hlt, ?_, by go_num, ?_, HO3, HB3, Lib.hid (HTR.out.trans HRX.out)⟩
              · have := HTK.out; have := HL8.out; simp; omega
              · unfold Hid; rw [← HQ2.out]; simp [keyB, ← HM2.out]
            case measure => simp [RowKit.intOf]; omega
          · have hj9 : j = 0 ∨ j = 1 ∨ j = 2 ∨ j = 3 ∨ j = 4 ∨ j = 5 ∨ j = 6 ∨ j = 7 := by omega
            rcases hj9 with rfl | rfl | rfl | rfl | rfl | rfl | rfl | rfl
            · have htake := be8_take m 0 (by omega)
              have hle : ((be8 m).take 0).length = 0 := by rw [List.length_take, hl8]; rfl
              rw [show (56 - 8 * 0 : Nat) = 56 from rfl, show (2 ^ 56 : Nat) = 72057594037927936 from rfl] at htake
              have HT := Lib.hid htake; have HLE := Lib.hid hle
              clear htake hle hl8 hj8 hj
              go_wp2_with (at_builtin; refine wpList_append_own _ rfl (.tmp 35) (.tmp 42) 66 rfl w.heap.size 5 i0 (.int .u8 0) 1 1 Tryd.underlying66 hi hz0 hz1 hz2 rfl (by decide) _ (q ++ [1] ++ (be8 m).take 0).length (byteCells (q ++ [1] ++ (be8 m).take 0)) rfl (ho3.alloc _) ⟨wr.heap.size, 0, none⟩ 1 1 [.int .u8 ((m : Int) / 72057594037927936 % 256)] rfl rfl ?c1 ?c2 ?c3 ?c4 ?c5 ?_)
              case c1 => exact cell_one_new _ _ _
              case c2 => intro u hu; simp at hu; subst hu; rfl
              case c3 => have := HTL.out; have := HTK.out; have := HLE.out; simp only [List.length_append, List.length_cons, List.length_nil]; unfold maxLen; omega
              case c4 => have := HTL.out; have := HTK.out; have := HLE.out; simp only [List.length_append, List.length_cons, List.length_nil]; omega
              case c5 => have := hb3.size; simp; omega
              intro xv xw xo xg _
              have xb : Below w.heap.size w xw := (hb3.alloc hb3.size _).grown xg (by have := hb3.size; simp; omega) (fun r e => (ho3.lt r e).1)
              have G1 : Hid (xw.ownsRow w.heap.size 5 1 xv (q ++ [1] ++ (be8 m).take (0 + 1)).length (byteCells (q ++ [1] ++ (be8 m).take (0 + 1)))) := Lib.hid (by
                rw [HT.out, ← List.append_assoc, byteCells_append, List.length_append, byteOf m 72057594037927936 ((m : Int) / 72057594037927936 % 256) (by first | rfl | simp)]; first | exact xo | simpa using xo)
              have G2 := Lib.hid xb
              clear xo xg xb ho3 hb3
              go_wp2_with fail
              go_roundw
              case rel => exact ⟨0 + 1, by omega, by go_num, G1, G2⟩
              case measure => simp [RowKit.intOf]
            · have htake := be8_take m 1 (by omega)
              have hle : ((be8 m).take 1).length = 1 := by rw [List.length_take, hl8]; rfl
              rw [show (56 - 8 * 1 : Nat) = 48 from rfl, show (2 ^ 48 : Nat) = 281474976710656 from rfl] at htake
              have HT := Lib.hid htake; have HLE := Lib.hid hle
              clear htake hle hl8 hj8 hj
              go_wp2_with (at_builtin; refine wpList_append_own _ rfl (.tmp 35) (.tmp 42) 66 rfl w.heap.size 5 i0 (.int .u8 0) 1 1 Tryd.underlying66 hi hz0 hz1 hz2 rfl (by decide) _ (q ++ [1] ++ (be8 m).take 1).length (byteCells (q ++ [1] ++ (be8 m).take 1)) rfl (ho3.alloc _) ⟨wr.heap.size, 0, none⟩ 1 1 [.int .u8 ((m : Int) / 281474976710656 % 256)] rfl rfl ?c1 ?c2 ?c3 ?c4 ?c5 ?_)
              case c1 => exact cell_one_new _ _ _
              case c2 => intro u hu; simp at hu; subst hu; rfl
              case c3 => have := HTL.out; have := HTK.out; have := HLE.out; simp only [List.length_append, List.length_cons, List.length_nil]; unfold maxLen; omega
              case c4 => have := HTL.out; have := HTK.out; have := HLE.out; simp only [List.length_append, List.length_cons, List.length_nil]; omega
              case c5 => have := hb3.size; simp; omega
              intro xv xw xo xg _
              have xb : Below w.heap.size w xw := (hb3.alloc hb3.size _).grown xg (by have := hb3.size; simp; omega) (fun r e => (ho3.lt r e).1)
              have G1 : Hid (xw.ownsRow w.heap.size 5 1 xv (q ++ [1] ++ (be8 m).take (1 + 1)).length (byteCells (q ++ [1] ++ (be8 m).take (1 + 1)))) := Lib.hid (by
                rw [HT.out, ← List.append_assoc, byteCells_append, List.length_append, byteOf m 281474976710656 ((m : Int) / 281474976710656 % 256) (by first | rfl | simp)]; first | exact xo | simpa using xo)
              have G2 := Lib.hid xb
              clear xo xg xb ho3 hb3
              go_wp2_with fail
              go_roundw
              case rel => exact ⟨1 + 1, by omega, by go_num, G1, G2⟩
              case measure => simp [RowKit.intOf]
            · have htake := be8_take m 2 (by omega)
              have hle : ((be8 m).take 2).length = 2 := by rw [List.length_take, hl8]; rfl
              rw [show (56 - 8 * 2 : Nat) = 40 from rfl, show (2 ^ 40 : Nat) = 1099511627776 from rfl] at htake
              have HT := Lib.hid htake; have HLE := Lib.hid hle
              clear htake hle hl8 hj8 hj
              go_wp2_with (at_builtin; refine wpList_append_own _ rfl (.tmp 35) (.tmp 42) 66 rfl w.heap.size 5 i0 (.int .u8 0) 1 1 Tryd.underlying66 hi hz0 hz1 hz2 rfl (by decide) _ (q ++ [1] ++ (be8 m).take 2).length (byteCells (q ++ [1] ++ (be8 m).take 2)) rfl (ho3.alloc _) ⟨wr.heap.size, 0, none⟩ 1 1 [.int .u8 ((m : Int) / 1099511627776 % 256)] rfl rfl ?c1 ?c2 ?c3 ?c4 ?c5 ?_)
              case c1 => exact cell_one_new _ _ _
              case c2 => intro u hu; simp at hu; subst hu; rfl
              case c3 => have := HTL.out; have := HTK.out; have := HLE.out; simp only [List.length_append, List.length_cons, List.length_nil]; unfold maxLen; omega
              case c4 => have := HTL.out; have := HTK.out; have := HLE.out; simp only [List.length_append, List.length_cons, List.length_nil]; omega
              case c5 => have := hb3.size; simp; omega
              intro xv xw xo xg _
              have xb : Below w.heap.size w xw := (hb3.alloc hb3.size _).grown xg (by have := hb3.size; simp; omega) (fun r e => (ho3.lt r e).1)
              have G1 : Hid (xw.ownsRow w.heap.size 5 1 xv (q ++ [1] ++ (be8 m).take (2 + 1)).length (byteCells (q ++ [1] ++ (be8 m).take (2 + 1)))) := Lib.hid (by
                rw [HT.out, ← List.append_assoc, byteCells_append, List.length_append, byteOf m 1099511627776 ((m : Int) / 1099511627776 % 256) (by first | rfl | simp)]; first | exact xo | simpa using xo)
              have G2 := Lib.hid xb
              clear xo xg xb ho3 hb3
              go_wp2_with fail
              go_roundw
              case rel => exact ⟨2 + 1, by omega, by go_num, G1, G2⟩
              case measure => simp [RowKit.intOf]
            · have htake := be8_take m 3 (by omega)
              have hle : ((be8 m).take 3).length = 3 := by rw [List.length_take, hl8]; rfl
              rw [show (56 - 8 * 3 : Nat) = 32 from rfl, show (2 ^ 32 : Nat) = 4294967296 from rfl] at htake
              have HT := Lib.hid htake; have HLE := Lib.hid hle
              clear htake hle hl8 hj8 hj
              go_wp2_with (at_builtin; refine wpList_append_own _ rfl (.tmp 35) (.tmp 42) 66 rfl w.heap.size 5 i0 (.int .u8 0) 1 1 Tryd.underlying66 hi hz0 hz1 hz2 rfl (by decide) _ (q ++ [1] ++ (be8 m).take 3).length (byteCells (q ++ [1] ++ (be8 m).take 3)) rfl (ho3.alloc _) ⟨wr.heap.size, 0, none⟩ 1 1 [.int .u8 ((m : Int) / 4294967296 % 256)] rfl rfl ?c1 ?c2 ?c3 ?c4 ?c5 ?_)
              case c1 => exact cell_one_new _ _ _
              case c2 => intro u hu; simp at hu; subst hu; rfl
              case c3 => have := HTL.out; have := HTK.out; have := HLE.out; simp only [List.length_append, List.length_cons, List.length_nil]; unfold maxLen; omega
              case c4 => have := HTL.out; have := HTK.out; have := HLE.out; simp only [List.length_append, List.length_cons, List.length_nil]; omega
              case c5 => have := hb3.size; simp; omega
              intro xv xw xo xg _
              have xb : Below w.heap.size w xw := (hb3.alloc hb3.size _).grown xg (by have := hb3.size; simp; omega) (fun r e => (ho3.lt r e).1)
              have G1 : Hid (xw.ownsRow w.heap.size 5 1 xv (q ++ [1] ++ (be8 m).take (3 + 1)).length (byteCells (q ++ [1] ++ (be8 m).take (3 + 1)))) := Lib.hid (by
                rw [HT.out, ← List.append_assoc, byteCells_append, List.length_append, byteOf m 4294967296 ((m : Int) / 4294967296 % 256) (by first | rfl | simp)]; first | exact xo | simpa using xo)
              have G2 := Lib.hid xb
              clear xo xg xb ho3 hb3
              go_wp2_with fail
              go_roundw
              case rel => exact ⟨3 + 1, by omega, by go_num, G1, G2⟩
              case measure => simp [RowKit.intOf]
            · have htake := be8_take m 4 (by omega)
              have hle : ((be8 m).take 4).length = 4 := by rw [List.length_take, hl8]; rfl
              rw [show (56 - 8 * 4 : Nat) = 24 from rfl, show (2 ^ 24 : Nat) = 16777216 from rfl] at htake
              have HT := Lib.hid htake; have HLE := Lib.hid hle
              clear htake hle hl8 hj8 hj
              go_wp2_with (at_builtin; refine wpList_append_own _ rfl (.tmp 35) (.tmp 42) 66 rfl w.heap.size 5 i0 (.int .u8 0) 1 1 Tryd.underlying66 hi hz0 hz1 hz2 rfl (by decide) _ (q ++ [1] ++ (be8 m).take 4).length (byteCells (q ++ [1] ++ (be8 m).take 4)) rfl (ho3.alloc _) ⟨wr.heap.size, 0, none⟩ 1 1 [.int .u8 ((m : Int) / 16777216 % 256)] rfl rfl ?c1 ?c2 ?c3 ?c4 ?c5 ?_)
              case c1 => exact cell_one_new _ _ _
              case c2 => intro u hu; simp at hu; subst hu; rfl
              case c3 => have := HTL.out; have := HTK.out; have := HLE.out; simp only [List.length_append, List.length_cons, List.length_nil]; unfold maxLen; omega
              case c4 => have := HTL.out; have := HTK.out; have := HLE.out; simp only [List.length_append, List.length_cons, List.length_nil]; omega
              case c5 => have := hb3.size; simp; omega
              intro xv xw xo xg _
              have xb : Below w.heap.size w xw := (hb3.alloc hb3.size _).grown xg (by have := hb3.size; simp; omega) (fun r e => (ho3.lt r e).1)
              have G1 : Hid (xw.ownsRow w.heap.size 5 1 xv (q ++ [1] ++ (be8 m).take (4 + 1)).length (byteCells (q ++ [1] ++ (be8 m).take (4 + 1)))) := Lib.hid (by
                rw [HT.out, ← List.append_assoc, byteCells_append, List.length_append, byteOf m 16777216 ((m : Int) / 16777216 % 256) (by first | rfl | simp)]; first | exact xo | simpa using xo)
              have G2 := Lib.hid xb
              clear xo xg xb ho3 hb3
              go_wp2_with fail
              go_roundw
              case rel => exact ⟨4 + 1, by omega, by go_num, G1, G2⟩
              case measure => simp [RowKit.intOf]
            · have htake := be8_take m 5 (by omega)
              have hle : ((be8 m).take 5).length = 5 := by rw [List.length_take, hl8]; rfl
              rw [show (56 - 8 * 5 : Nat) = 16 from rfl, show (2 ^ 16 : Nat) = 65536 from rfl] at htake
              have HT := Lib.hid htake; have HLE := Lib.hid hle
              clear htake hle hl8 hj8 hj
              go_wp2_with (at_builtin; refine wpList_append_own _ rfl (.tmp 35) (.tmp 42) 66 rfl w.heap.size 5 i0 (.int .u8 0) 1 1 Tryd.underlying66 hi hz0 hz1 hz2 rfl (by decide) _ (q ++ [1] ++ (be8 m).take 5).length (byteCells (q ++ [1] ++ (be8 m).take 5)) rfl (ho3.alloc _) ⟨wr.heap.size, 0, none⟩ 1 1 [.int .u8 ((m : Int) / 65536 % 256)] rfl rfl ?c1 ?c2 ?c3 ?c4 ?c5 ?_)
              case c1 => exact cell_one_new _ _ _
              case c2 => intro u hu; simp at hu; subst hu; rfl
              case c3 => have := HTL.out; have := HTK.out; have := HLE.out; simp only [List.length_append, List.length_cons, List.length_nil]; unfold maxLen; omega
              case c4 => have := HTL.out; have := HTK.out; have := HLE.out; simp only [List.length_append, List.length_cons, List.length_nil]; omega
              case c5 => have := hb3.size; simp; omega
              intro xv xw xo xg _
              have xb : Below w.heap.size w xw := (hb3.alloc hb3.size _).grown xg (by have := hb3.size; simp; omega) (fun r e => (ho3.lt r e).1)
              have G1 : Hid (xw.ownsRow w.heap.size 5 1 xv (q ++ [1] ++ (be8 m).take (5 + 1)).length (byteCells (q ++ [1] ++ (be8 m).take (5 + 1)))) := Lib.hid (by
                rw [HT.out, ← List.append_assoc, byteCells_append, List.length_append, byteOf m 65536 ((m : Int) / 65536 % 256) (by first | rfl | simp)]; first | exact xo | simpa using xo)
              have G2 := Lib.hid xb
              clear xo xg xb ho3 hb3
              go_wp2_with fail
              go_roundw
              case rel => exact ⟨5 + 1, by omega, by go_num, G1, G2⟩
              case measure => simp [RowKit.intOf]
            · have htake := be8_take m 6 (by omega)
              have hle : ((be8 m).take 6).length = 6 := by rw [List.length_take, hl8]; rfl
              rw [show (56 - 8 * 6 : Nat) = 8 from rfl, show (2 ^ 8 : Nat) = 256 from rfl] at htake
              have HT := Lib.hid htake; have HLE := Lib.hid hle
              clear htake hle hl8 hj8 hj
              go_wp2_with (at_builtin; refine wpList_append_own _ rfl (.tmp 35) (.tmp 42) 66 rfl w.heap.size 5 i0 (.int .u8 0) 1 1 Tryd.underlying66 hi hz0 hz1 hz2 rfl (by decide) _ (q ++ [1] ++ (be8 m).take 6).length (byteCells (q ++ [1] ++ (be8 m).take 6)) rfl (ho3.alloc _) ⟨wr.heap.size, 0, none⟩ 1 1 [.int .u8 ((m : Int) / 256 % 256)] rfl rfl ?c1 ?c2 ?c3 ?c4 ?c5 ?_)
              case c1 => exact cell_one_new _ _ _
              case c2 => intro u hu; simp at hu; subst hu; rfl
              case c3 => have := HTL.out; have := HTK.out; have := HLE.out; simp only [List.length_append, List.length_cons, List.length_nil]; unfold maxLen; omega
              case c4 => have := HTL.out; have := HTK.out; have := HLE.out; simp only [List.length_append, List.length_cons, List.length_nil]; omega
              case c5 => have := hb3.size; simp; omega
              intro xv xw xo xg _
              have xb : Below w.heap.size w xw := (hb3.alloc hb3.size _).grown xg (by have := hb3.size; simp; omega) (fun r e => (ho3.lt r e).1)
              have G1 : Hid (xw.ownsRow w.heap.size 5 1 xv (q ++ [1] ++ (be8 m).take (6 + 1)).length (byteCells (q ++ [1] ++ (be8 m).take (6 + 1)))) := Lib.hid (by
                rw [HT.out, ← List.append_assoc, byteCells_append, List.length_append, byteOf m 256 ((m : Int) / 256 % 256) (by first | rfl | simp)]; first | exact xo | simpa using xo)
              have G2 := Lib.hid xb
              clear xo xg xb ho3 hb3
              go_wp2_with fail
              go_roundw
              case rel => exact ⟨6 + 1, by omega, by go_num, G1, G2⟩
              case measure => simp [RowKit.intOf]
            · have htake := be8_take m 7 (by omega)
              have hle : ((be8 m).take 7).length = 7 := by rw [List.length_take, hl8]; rfl
              rw [show (56 - 8 * 7 : Nat) = 0 from rfl, show (2 ^ 0 : Nat) = 1 from rfl] at htake
              have HT := Lib.hid htake; have HLE := Lib.hid hle
              clear htake hle hl8 hj8 hj
              go_wp2_with (at_builtin; first | refine wpList_append_own _ rfl (.tmp 35) (.tmp 42) 66 rfl w.heap.size 5 i0 (.int .u8 0) 1 1 Tryd.underlying66 hi hz0 hz1 hz2 rfl (by decide) _ (q ++ [1] ++ (be8 m).take 7).length (byteCells (q ++ [1] ++ (be8 m).take 7)) rfl (ho3.alloc _) ⟨wr.heap.size, 0, none⟩ 1 1 [.int .u8 ((m : Int) % 256)] rfl rfl ?c1 ?c2 ?c3 ?c4 ?c5 ?_ | refine wpList_append_own _ rfl (.tmp 35) (.tmp 42) 66 rfl w.heap.size 5 i0 (.int .u8 0) 1 1 Tryd.underlying66 hi hz0 hz1 hz2 rfl (by decide) _ (q ++ [1] ++ (be8 m).take 7).length (byteCells (q ++ [1] ++ (be8 m).take 7)) rfl (ho3.alloc _) ⟨wr.heap.size, 0, none⟩ 1 1 [.int .u8 ((m : Int) / 1 % 256)] rfl rfl ?c1 ?c2 ?c3 ?c4 ?c5 ?_)
              case c1 => exact cell_one_new _ _ _
              case c2 => intro u hu; simp at hu; subst hu; rfl
              case c3 => have := HTL.out; have := HTK.out; have := HLE.out; simp only [List.length_append, List.length_cons, List.length_nil]; unfold maxLen; omega
              case c4 => have := HTL.out; have := HTK.out; have := HLE.out; simp only [List.length_append, List.length_cons, List.length_nil]; omega
              case c5 => have := hb3.size; simp; omega
              intro xv xw xo xg _
              have xb : Below w.heap.size w xw := (hb3.alloc hb3.size _).grown xg (by have := hb3.size; simp; omega) (fun r e => (ho3.lt r e).1)
              have G1 : Hid (xw.ownsRow w.heap.size 5 1 xv (q ++ [1] ++ (be8 m).take (7 + 1)).length (byteCells (q ++ [1] ++ (be8 m).take (7 + 1)))) := Lib.hid (by
                rw [HT.out, ← List.append_assoc, byteCells_append, List.length_append, byteOf m 1 ((m : Int) % 256) (by first | rfl | simp)]; first | exact xo | simpa using xo)
              have G2 := Lib.hid xb
              clear xo xg xb ho3 hb3
              go_wp2_with fail
              go_roundw
              case rel => exact ⟨7 + 1, by omega, by go_num, G1, G2⟩
              case measure => simp [RowKit.intOf]
      · go_wp2_with fail
        refine (HW.out _).mono ?_
        rintro e w2 ⟨rfl, hb2⟩
        have f0 : w2.cell? ⟨wr.heap.size, 0, none⟩ = some (.int .i64 2) := by rw [hb2.cell (by simp)]; simp [World.cell?_alloc_new]
        have f1 : w2.cell? ⟨wr.heap.size, 1, none⟩ = some (.int .i64 0) := by rw [hb2.cell (by simp)]; simp [World.cell?_alloc_new]
        have f2 : w2.cell? ⟨wr.heap.size, 2, none⟩ = some (.string tx) := by rw [hb2.cell (by simp)]; simp [World.cell?_alloc_new]
        have hbw2 : Below w.heap.size w w2 := (hb.alloc hb.size _).trans (hb2.mono (by have := hb.size; simp; omega))
        have HB2 := Lib.hid hb2
        have ho2 := own_below (ho.alloc _) hb2
        go_wp2_with (at_builtin; refine wpList_append_own _ rfl (.tmp 18) (.tmp 22) 66 rfl w.heap.size 5 i0 (.int .u8 0) 1 1 Tryd.underlying66 hi hz0 hz1 hz2 rfl (by decide) _ (q).length (byteCells (q)) rfl (ho2.alloc _) ⟨w2.heap.size, 0, none⟩ 1 1 [.int .u8 2] rfl rfl ?c1 ?c2 ?c3 ?c4 ?c5 ?_)
        case c1 => exact cell_one_new _ _ _
        case c2 => intro u hu; simp at hu; subst hu; rfl
        case c3 => unfold maxLen; have := HTL.out; have := HTK.out; omega
        case c4 => have := HTL.out; have := HTK.out; omega
        case c5 => have := hbw2.size; simp; omega
        intro v1 w3 hown1 hg _
        have hbw3 : Below w.heap.size w w3 := (hbw2.alloc hbw2.size _).grown hg (by have := hbw2.size; simp; omega) (fun r e => (ho2.lt r e).1)
        have hblk : w3.heap[wr.heap.size]? = w2.heap[wr.heap.size]? := by
          obtain ⟨_, _, _, _, hh⟩ := hg
          have hlt2 : wr.heap.size < w2.heap.size := by have := HB2.out.size; simp at this; omega
          rw [hh wr.heap.size (by simp; omega) (fun e => by have := (ho.lt _ e.symm).2; omega)]
          show (w2.heap.push _)[wr.heap.size]? = _
          rw [Array.getElem?_push, if_neg (by omega)]
        have e0 : w3.cell? ⟨wr.heap.size, 0, none⟩ = some (.int .i64 2) := by rw [World.cell?_of_block hblk]; exact f0
        have e1 : w3.cell? ⟨wr.heap.size, 1, none⟩ = some (.int .i64 0) := by rw [World.cell?_of_block hblk]; exact f1
        have e2 : w3.cell? ⟨wr.heap.size, 2, none⟩ = some (.string tx) := by rw [World.cell?_of_block hblk]; exact f2
        have H1 : Hid (w3.ownsRow w.heap.size 5 1 v1 (q ++ [2]).length (byteCells (q ++ [2]))) := Lib.hid (by rw [byteCells_append, List.length_append]; exact hown1)
        have H2 := Lib.hid hbw3
        clear hown1 hbw3 hg hblk ho2 hbw2 f0 f1 f2
        go_wp2_with fail
        refine (escaped_any w.heap.size _ (q ++ [2]) tx w3 H1.out H2.out.size ?_).mono ?_
        · have := HTL.out; have := HTK.out; simp; omega
        rintro e w4 ⟨v4, rfl, ho4, hb4⟩
        have G1 := Lib.hid ho4
        have G2 := Lib.hid (H2.out.trans hb4)
        clear ho4 hb4
        go_wp2_with fail
        go_roundw
        case rel =>
          refine ⟨k + 1, q ++ [2] ++ escL tx.data.toList, hlt, ?_, by go_num, ?_, G1, G2, Lib.hid (HTR.out.trans HRX.out)⟩
          · have := HTK.out; have h9 := escL_len tx.data.toList; simp at h9 ⊢; omega
          · unfold Hid; rw [← HQ2.out]; simp [keyB]
        case measure => simp [RowKit.intOf]; omega
    · obtain rfl : k = ks.length := by omega
      have hq2 := HQ.out
      rw [List.drop_eq_nil_of_le (by omega), rowB, List.append_nil] at hq2
      have hcv := run_convert_own (P := Tryd.prog) wr 66 9 5 Tryd.underlying66 Tryd.underlying5 Tryd.underlying9 rfl ho
      go_wp2_with fail
      go_ret2
      subst hq2
      have hall : ks.all rightF = true := by have := HR.out; rwa [List.take_of_length_le (Nat.le_refl _)] at this
      exact ⟨by rw [if_pos hall]; exact rfl, hb⟩
def KeysAt (w : World) (bl : Nat) (ks : List KeyD) : Prop := ∀ i k, ks[i]? = some k → w.cell? ⟨bl, i * 3, none⟩ = some (.int .i64 k.kind) ∧ w.cell? ⟨bl, i * 3 + 1, none⟩ = some (.int .i64 k.num) ∧ w.cell? ⟨bl, i * 3 + 2, none⟩ = some (.string k.text)
theorem keysAt_reads {w : World} {bl : Nat} {ks : List KeyD} (hbl : bl < w.heap.size) (h : KeysAt w bl ks) : Reads w w.heap.size 3 (some ⟨bl, 0, none⟩) ks.length (keyCells ks) := by
  refine ⟨keyCells_length ks, fun _ => ⟨_, rfl, hbl, fun j u hu => ?_⟩⟩
  have hj : j < ks.length * 3 := by rw [← keyCells_length]; exact (List.getElem?_eq_some_iff.1 hu).1
  have hk : ks[j / 3]? = some (ks[j / 3]'(by omega)) := List.getElem?_eq_getElem (by omega)
  have e := keyCells_get ks (j / 3) _ hk (j % 3) (by omega)
  rw [show j / 3 * 3 + j % 3 = j by omega, hu] at e
  obtain ⟨h0, h1, h2⟩ := h _ _ hk
  have hadd : (⟨bl, 0, none⟩ : Addr).add j = ⟨bl, j, none⟩ := by unfold Addr.add; split <;> simp_all
  rw [hadd]
  have h3 : j % 3 = 0 ∨ j % 3 = 1 ∨ j % 3 = 2 := by omega
  rcases h3 with h3 | h3 | h3
  · rw [h3] at e; rw [show j / 3 * 3 = j by omega] at h0; rw [h0]; exact e.symm
  · rw [h3] at e; rw [show j / 3 * 3 + 1 = j by omega] at h1; rw [h1]; exact e.symm
  · rw [h3] at e; rw [show j / 3 * 3 + 2 = j by omega] at h2; rw [h2]; exact e.symm
theorem bytes_ok (bl c : Nat) (ks : List KeyD) (w : World) (hbl : bl < w.heap.size) (hk : KeysAt w bl ks) (hs : sumT ks ≤ 4194304) (hl : ks.length ≤ 4194304) (hr : ks.all rightF = true) :
    Calls Tryd.prog 18 #[.slice (some ⟨bl, 0, none⟩) ks.length c] w (fun e w' => e = .returned (.tuple #[.string (str (rowB ks)), .int .i64 0]) ∧ Below w.heap.size w w') :=
  (bytes_any _ c ks w (keysAt_reads hbl hk) hs hl).mono fun e w' ⟨h1, h2⟩ => ⟨by rw [if_pos hr] at h1; exact h1, h2⟩
end Go.Proofs.YtebagmiclfhelaaDoor.OrdLib
