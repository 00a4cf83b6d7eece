/- Contracts: two rows of integers compared. Contracts: what is lent, in memory of its own with a mark behind each list; is it as it was? Rows of integers. Small laws for queries compared part by part. -/
import Derived.Test.YtinmiekbhoemjaaDoorPack6
import Derived.Deep.QuietTactic
import Derived.BigQuiet
import Derived.StillTailTactics
import Derived.LoopTactic
import Derived.Test.YtinmiekbhoemjaaDoorPack4
section
set_option linter.unusedVariables false
namespace Go.Proofs.YtinmiekbhoemjaaDoor.Qry
open Go.RowKit Words Tree QryP Kit

def BoolB (b : Bool) (w : World) (e : Ending) (w' : World) : Prop := e = .returned (.bool b) ∧ Below w.heap.size w w'
/-- Element k of a row of integers that is read. -/
theorem reads_int {w : World} {B : Nat} {A : Option Addr} {l : List Int} {i : IntKind} (h : Reads w B 1 A l.length (l.map (Value.int i))) {k : Nat} (hk : k < l.length) :
    ∃ ad, A = some ad ∧ ad.block < B ∧ w.cell? (ad.add k) = some (.int i l[k]) := by
  obtain ⟨ad, e, hb, hc⟩ := h.2 (by omega)
  exact ⟨ad, e, hb, hc k _ (by simp [hk])⟩
theorem below_drewN' {w : World} (n : Nat) : Below w.heap.size w (w.drewN n) := ⟨rfl, rfl, rfl, Nat.le_refl _, fun _ _ => rfl⟩
theorem take_snoc {α : Type} {l : List α} {k : Nat} (h : k < l.length) : l.take (k + 1) = l.take k ++ [l[k]] := List.take_succ_eq_append_getElem h

set_option maxRecDepth 100000 in
theorem int64s_any (ao bo : Option Addr) (c d : Nat) (xs ys : List Int) (w : World) (ha : Reads w w.heap.size 1 ao xs.length (xs.map (Value.int .i64))) (hb : Reads w w.heap.size 1 bo ys.length (ys.map (Value.int .i64))) (hla : xs.length * 8 ≤ 140737488351232) (hlb : ys.length * 8 ≤ 140737488351232) (r : Bool) (hr : r = true ↔ xs = ys) :
    Calls Tryd.prog 30 #[.slice ao xs.length c, .slice bo ys.length d] w (BoolB r w) := by
  have HA := Lib.hid ha; have HB := Lib.hid hb; have HR := Lib.hid hr
  clear ha hb hr
  by_cases hl : xs.length = ys.length
  · have HL := Lib.hid hl
    have hbne : ((xs.length : Int) != (ys.length : Int)) = false := by rw [hl]; simp
    clear hl
    go_enter Tryd.func30, Tryd.ntmps30
    go_wp2_with fail
    go_loopw [5] (fun i wr => ∃ (k m : Nat), k ≤ xs.length ∧ i = .int .i64 k ∧ Hid (xs.take k = ys.take k) ∧ wr = w.drewN m) (fun i _ => xs.length - (intOf i).toNat)
    case atStart => exact ⟨0, 0, by omega, rfl, Lib.hid (by simp), rfl⟩
    case round =>
      obtain ⟨k, m, hk, rfl, HE, rfl⟩ := hrel
      by_cases hlt : k < xs.length
      · have hlt2 : k < ys.length := by have := HL.out; omega
        obtain ⟨ad, rfl, hba, a0⟩ := reads_int HA.out hlt
        obtain ⟨bd, rfl, hbb, b0⟩ := reads_int HB.out hlt2
        have HST : Hid (xs.take (k + 1) = xs.take k ++ [xs[k]] ∧ ys.take (k + 1) = ys.take k ++ [ys[k]]) := Lib.hid ⟨take_snoc hlt, take_snoc hlt2⟩
        have HNE : Hid (¬ xs[k] = ys[k] → r = false) := Lib.hid (fun h => by
          cases hr0 : r with
          | false => rfl
          | true =>
            have e := HR.out.1 hr0
            subst e
            exact absurd rfl h)
        by_cases he : xs[k] = ys[k]
        · have HQ := Lib.hid he
          rw [← he] at b0
          clear he HNE
          generalize hx : xs[k] = x at *
          clear hx
          go_wp2_with fail
          go_quiet (fail)
          go_wp2_with fail
          go_roundw
          case rel => exact ⟨k + 1, _, by omega, by go_num, Lib.hid (by rw [HST.out.1, HST.out.2, HE.out, ← HQ.out]), by first | rfl | (rw [World.drewN_drewN])⟩
          case measure => simp [intOf]; omega
        · have HRF := Lib.hid (HNE.out he)
          have hne : (xs[k] != ys[k]) = true := by rw [bne_iff_ne]; exact he
          clear he HNE HST
          generalize xs[k] = x at *
          generalize ys[k] = y at *
          go_wp2_with fail
          go_quiet (fail)
          go_wp2_with fail
          go_ret
          rw [HRF.out]
          exact ⟨rfl, ⟨rfl, rfl, rfl, Nat.le_refl _, fun _ _ => rfl⟩⟩
      · obtain rfl : k = xs.length := by omega
        have hT : r = true := by
          rw [HR.out]
          have := HE.out
          rw [List.take_of_length_le (Nat.le_refl _), HL.out, List.take_of_length_le (Nat.le_refl _)] at this
          exact this
        have HRT := Lib.hid hT
        clear hT
        go_wp2_with fail
        go_ret
        rw [HRT.out]
        exact ⟨rfl, below_drewN' _⟩
  · have hbne : ((xs.length : Int) != (ys.length : Int)) = true := by rw [bne_iff_ne]; omega
    have HRF : Hid (r = false) := Lib.hid (by
      cases hr0 : r with
      | false => rfl
      | true => exact absurd (by rw [HR.out.1 hr0]) hl)
    clear hl
    go_enter Tryd.func30, Tryd.ntmps30
    go_wp2_with fail
    go_ret
    rw [HRF.out]
    exact ⟨rfl, Below.refl _ _⟩

end Go.Proofs.YtinmiekbhoemjaaDoor.Qry
end
section
set_option linter.unusedVariables false
namespace Go.Proofs.YtinmiekbhoemjaaDoor.Qry
open Go.RowKit Words Tree QryP Kit Owned

/-- The mark behind a row of queries. -/
def markQ : List Value := [.int .i64 (-71), .int .i64 0, .string ⟨#[]⟩, .string ⟨#[]⟩, .string ⟨#[]⟩, .slice none 0 0, .slice none 0 0, .int .i64 0, .int .i64 0, .slice none 0 0]
/-- What lies behind lists that are lent. -/
def lent : Nat → List (List Value) := fun s => if s = 1 then [[.int .i64 (-7171)]] else if s = 10 then [markQ] else []
theorem infoI64 : (Tryd.prog.info? 2).map (fun i => (i.zero, i.size, i.bytes)) = some (some (.int .i64 0), 1, 8) := by kernel_rfl
end Go.Proofs.YtinmiekbhoemjaaDoor.Qry
end
section
set_option linter.unusedVariables false
namespace Go.Proofs.YtinmiekbhoemjaaDoor.Qry
open Go.RowKit Words Tree QryP Kit Owned

theorem bne_int {a b : Int} (h : ¬ a = b) : (a != b) = true ∧ (a == b) = false := ⟨by rw [bne_iff_ne]; exact h, by rw [beq_eq_false_iff_ne]; exact h⟩
theorem bne_str {a b : ByteArray} (h : ¬ a = b) : (a.toList != b.toList) = true ∧ (a.toList == b.toList) = false := by
  have : ¬ a.toList = b.toList := fun e => by
    rw [ByteArray.toList_eq, ByteArray.toList_eq] at e
    exact h (ByteArray.ext (Array.toList_inj.1 e))
  exact ⟨by rw [bne_iff_ne]; exact this, by rw [beq_eq_false_iff_ne]; exact this⟩
theorem below2 {w : World} (o1 o2 : Obj) : Below w.heap.size w ((w.alloc o1).alloc o2) := ((Below.refl _ _).alloc (Nat.le_refl _) _).alloc (by simp) _
theorem blk_a (w : World) (cs ds : Array Value) (t t' : TypeId) : Blk ((w.alloc (.cells cs t)).alloc (.cells ds t')) w.heap.size t cs := (Blk.new w t cs).alloc _
theorem blk_b (w : World) (cs ds : Array Value) (t t' : TypeId) : Blk ((w.alloc (.cells cs t)).alloc (.cells ds t')) (w.heap.size + 1) t' ds := by
  have := Blk.new (w.alloc (.cells cs t)) t' ds
  rwa [World.size_alloc] at this
theorem blk10 {w : World} {g : Nat} {t : TypeId} {v0 v1 v2 v3 v4 v5 v6 v7 v8 v9 : Value} (h : Blk w g t #[v0, v1, v2, v3, v4, v5, v6, v7, v8, v9]) :
    w.cell? ⟨g, 0, none⟩ = some v0 ∧ w.cell? ⟨g, 1, none⟩ = some v1 ∧ w.cell? ⟨g, 2, none⟩ = some v2 ∧ w.cell? ⟨g, 3, none⟩ = some v3 ∧ w.cell? ⟨g, 4, none⟩ = some v4 ∧ w.cell? ⟨g, 5, none⟩ = some v5 ∧ w.cell? ⟨g, 6, none⟩ = some v6 ∧ w.cell? ⟨g, 7, none⟩ = some v7 ∧ w.cell? ⟨g, 8, none⟩ = some v8 ∧ w.cell? ⟨g, 9, none⟩ = some v9 :=
  ⟨h.cell 0, h.cell 1, h.cell 2, h.cell 3, h.cell 4, h.cell 5, h.cell 6, h.cell 7, h.cell 8, h.cell 9⟩
/-- Ten cells, as the walk spells them. -/
theorem ten {w : World} {ad : Addr} {v0 v1 v2 v3 v4 v5 v6 v7 v8 v9 : Value} (h : Cells w ad [v0, v1, v2, v3, v4, v5, v6, v7, v8, v9]) :
    w.cell? ad = some v0 ∧ w.cell? ⟨ad.block, ad.off + 1, none⟩ = some v1 ∧ w.cell? ⟨ad.block, ad.off + 2, none⟩ = some v2 ∧ w.cell? ⟨ad.block, ad.off + 3, none⟩ = some v3 ∧ w.cell? ⟨ad.block, ad.off + 4, none⟩ = some v4 ∧
    w.cell? ⟨ad.block, ad.off + 5, none⟩ = some v5 ∧ w.cell? ⟨ad.block, ad.off + 6, none⟩ = some v6 ∧ w.cell? ⟨ad.block, ad.off + 7, none⟩ = some v7 ∧ w.cell? ⟨ad.block, ad.off + 8, none⟩ = some v8 ∧ w.cell? ⟨ad.block, ad.off + 9, none⟩ = some v9 :=
  ⟨h.zero, h.at_ 1 _ rfl (by omega), h.at_ 2 _ rfl (by omega), h.at_ 3 _ rfl (by omega), h.at_ 4 _ rfl (by omega), h.at_ 5 _ rfl (by omega), h.at_ 6 _ rfl (by omega), h.at_ 7 _ rfl (by omega), h.at_ 8 _ rfl (by omega), h.at_ 9 _ rfl (by omega)⟩
theorem take_all {α : Type} {l m : List α} (h : l.take l.length = m.take l.length) (hl : l.length = m.length) : l = m := by
  rw [List.take_of_length_le (Nat.le_refl _), hl, List.take_of_length_le (Nat.le_refl _)] at h
  exact h
theorem ne_kid {ks js : List QT} {k : Nat} (h1 : k < ks.length) (h2 : k < js.length) (h : ¬ ks[k] = js[k]) : ¬ ks = js := fun e => by subst e; exact h rfl
theorem bool_cases {b : Bool} {p : Prop} (h : b = true ↔ p) : (p ∧ b = true) ∨ (¬ p ∧ b = false) := by cases b <;> simp_all
end Go.Proofs.YtinmiekbhoemjaaDoor.Qry
end
