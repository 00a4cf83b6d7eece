/- Contracts: query.write at any formed query, query.Text. What is read is fit for every contract. More on rows that a call gathers: two of them side by side. Over any program. -/
import Derived.Test.YtinmiekbhoemjaaDoorQryWrite
import Derived.Test.YtinmiekbhoemjaaDoorQryFormed
import Derived.Test.YtinmiekbhoemjaaDoorQryBackQ
import Derived.Test.YtinmiekbhoemjaaDoorPack19
import Derived.Test.YtinmiekbhoemjaaDoorPack20
import Derived.Test.YtinmiekbhoemjaaDoorQryPar20
import Derived.Test.YtinmiekbhoemjaaDoorPack7
section
set_option linter.unusedVariables false
namespace Go.Proofs.YtinmiekbhoemjaaDoor.Qry
open Go.RowKit Words Tree QryP Kit Sch SchP

theorem name_empty {f : ByteArray} (h : nameB f = true) : f.toList.isEmpty = false := by
  have := name_ne h
  rw [ByteArray.toList_eq]
  cases hf : f.data.toList with
  | nil => exact absurd hf this
  | cons => rfl
theorem formed_kid {u : Int} : ∀ {ks : List QT}, formedL u ks = true → ∀ k ∈ ks, formedB u k = true
  | [], _, k, h => by cases h
  | a :: l, hf, k, h => by
    rw [formedL, Bool.and_eq_true] at hf
    rcases List.mem_cons.1 h with rfl | h
    · exact hf.1
    · exact formed_kid hf.2 k h
theorem occ_kid {u : Int} {k : QT} (h : formedB u k = true) : oc k = 0 ∨ oc k = 1 ∨ oc k = 2 ∨ oc k = 3 ∨ oc k = 4 := by
  rw [formedB_eq, Bool.and_eq_true] at h
  have := own_oc h.1
  by_cases hu : u = 8
  · have := this.1 hu; omega
  · have := this.2 hu; omega
set_option maxHeartbeats 2000000 in
/-- query.write at any formed query. -/
theorem write_any : ∀ (n : Nat) (q : QT) (B b : Nat) (l : List UInt8) (vs : List Value) (w : World) (under : Int), q.sz ≤ n → formedB under q = true → Ok q → T.AtL bare w (fun g => g < B) (cells q) vs → Buf B b l w →
    (∀ W, Below B w W → Lib.TabIs Tryd.prog W "internal/strconv.uint64pow10" .u64 Lib.pow10Tab) → l.length + (writeF numT q).length + 100 ≤ maxW →
    Calls Tryd.prog 26 #[.pointer (some ⟨b, 0, none⟩), .agg vs.toArray] w (PutU B b l (writeF numT q) w)
  | n, .mk k o f t u lo hi bo op ks, B, b, l, vs, w, under, hn, hf, hok, ha, hb, hp, hl => by
    have hn1 : 1 ≤ n := by have := QT.sz_pos (.mk k o f t u lo hi bo op ks); omega
    have hf0 := hf
    rw [formedB_eq, Bool.and_eq_true] at hf
    obtain ⟨hown, hkids⟩ := hf
    replace hkids : formedL k ks = true := hkids
    obtain ⟨hk, F1, F2, F3, F4, F5, F6, F7, F8, F9, F10, F11, F12, F13⟩ := own_facts hown
    have hkk : ∀ q ∈ ks, Ok q := by
      cases hok with
      | mk _ _ _ _ _ _ _ _ _ _ hk => exact hk
    obtain ⟨vl, vh, vk, rfl, hvl, hvh, hvk⟩ := at_cells ha
    obtain ⟨A1, c1, rfl, _, _, hr1⟩ := at_ints hvl
    obtain ⟨A2, c2, rfl, _, _, hr2⟩ := at_ints hvh
    obtain ⟨A, cA, rfl⟩ := at_sl hvk
    have hA : Ask B b l k o f t u lo hi bo op ks A1 A2 A cA w := ⟨hb, hr1, hr2, hvk, hp, hl, hok, fun q hq => occ_kid (formed_kid hkids q hq), fun q hq l' vs' W hW hau hbu hlen =>
      write_any (n - 1) q B b l' vs' W k (by have := QT.sz_kid (kd := k) (oc := o) (f := f) (t := t) (u := u) (lo := lo) (hi := hi) (b := bo) (op := op) hq; omega) (formed_kid hkids q hq) (hkk q hq) hau hbu (fun V hV => hp V (hW.trans hV)) hlen⟩
    have hc : k = 1 ∨ k = 2 ∨ k = 3 ∨ k = 4 ∨ k = 5 ∨ k = 6 ∨ k = 7 ∨ k = 8 ∨ k = 9 ∨ k = 10 := by omega
    rcases hc with rfl | rfl | rfl | rfl | rfl | rfl | rfl | rfl | rfl | rfl
    · obtain rfl := F2 (by omega); obtain rfl := F13 (by omega) (by omega)
      exact write_1 hA
    · obtain rfl := F2 (by omega); obtain rfl := F13 (by omega) (by omega)
      exact write_2 hA
    · obtain rfl := F13 (by omega) (by omega)
      exact write_3 hA (name_empty (F1 (by omega)))
    · obtain rfl := F13 (by omega) (by omega)
      exact write_4 hA (name_empty (F1 (by omega)))
    · obtain rfl := F13 (by omega) (by omega)
      exact write_5 hA (name_empty (F1 (by omega)))
    · obtain rfl := F13 (by omega) (by omega)
      exact write_6 hA (name_empty (F1 (by omega)))
    · obtain rfl := F13 (by omega) (by omega)
      exact write_7 hA (name_empty (F1 (by omega)))
    · obtain rfl := F2 (by omega)
      exact write_8 hA
    · obtain rfl := F2 (by omega)
      exact write_9 hA
    · exact write_10 hA (name_empty (F1 (by omega))) (F10 rfl)
def StrB (s : ByteArray) (w : World) (e : Ending) (w' : World) : Prop := e = .returned (.string s) ∧ Below w.heap.size w w'
set_option maxRecDepth 100000 in
set_option maxHeartbeats 4000000 in
/-- query.Text. -/
theorem text_any (q : QT) (vs : List Value) (w : World) (hok : Ok q) (ha : T.AtL bare w (fun g => g < w.heap.size) (cells q) vs) (hp : ∀ W, Below w.heap.size w W → Lib.TabIs Tryd.prog W "internal/strconv.uint64pow10" .u64 Lib.pow10Tab) (hl : (writeF numT q).length + 100 ≤ maxW) :
    Calls Tryd.prog 13 #[.agg vs.toArray] w (StrB (str (textQ numT q)) w) := by
  have HF := Lib.hid (fun (W : World) (hW : Below w.heap.size w W) => formed_any q vs W hok (atL_ltw ha hW))
  have HWR := Lib.hid (fun (hf : formedB 0 q = true) (b : Nat) (W : World) (hW : Below w.heap.size w W) (hb : Buf w.heap.size b [] W) => write_any q.sz q w.heap.size b [] vs W 0 (Nat.le_refl _) hf hok (AtL.below ha hW (fun g hg => hg)) hb (fun V hV => hp V (hW.trans hV)) (by simpa using hl))
  obtain ⟨r, hr⟩ : ∃ r, formedB 0 q = r := ⟨_, rfl⟩
  have HQ : Hid (textQ numT q = if r then writeF numT q else []) := Lib.hid (by rw [textQ, hr])
  rw [hr] at HF HWR
  generalize textQ numT q = tq at *
  generalize writeF numT q = wq at *
  clear hr
  obtain ⟨kd, oc, f, t, u, lo, hi, b, op, ks⟩ := q
  obtain ⟨vl, vh, vk, rfl, hvl, hvh, hvk⟩ := at_cells ha
  obtain ⟨A1, c1, rfl, _⟩ := at_ints hvl
  obtain ⟨A2, c2, rfl, _⟩ := at_ints hvh
  obtain ⟨A, cA, rfl⟩ := at_sl hvk
  clear ha hvl hvh hvk hok hp hl
  go_enter Tryd.func13, Tryd.ntmps13
  go_wp2_with fail
  have hb0 : Below w.heap.size w (w.alloc (.cells #[.int .i64 kd, .int .i64 oc, .string f, .string t, .string u, .slice A1 lo.length c1, .slice A2 hi.length c2, .int .i64 b, .int .i64 op, .slice A ks.length cA] 25)) := (Below.refl _ w).alloc (Nat.le_refl _) _
  refine (HF.out _ hb0).mono ?_
  rintro e W1 ⟨rfl, hb⟩
  have HB1 := Lib.hid (hb0.trans (hb.mono hb0.size))
  have hlt : w.heap.size < W1.heap.size := by have := hb.size; simp at this; omega
  have hne : w.heap.size ≠ W1.heap.size := by omega
  obtain ⟨c0, c1', c2', c3, c4, c5, c6, c7, c8, c9⟩ := tenB ((Blk.new w _ _).below hb (by simp))
  clear hb hb0
  cases r with
  | false =>
    obtain rfl : tq = [] := by have := HQ.out; simpa using this
    go_wp2_with fail
    go_ret
    exact ⟨rfl, HB1.out⟩
  | true =>
    obtain rfl : wq = tq := by have := HQ.out; simpa using this.symm
    have HN : Hid (Buf w.heap.size W1.heap.size [] (W1.alloc (.cells #[.pointer none, .slice none 0 0] 45))) := Lib.hid (.inl ⟨HB1.out.size, .slice none 0 0, Blk.new W1 _ _, ⟨rfl, .inl ⟨rfl, rfl⟩⟩, by simp [Value.ownBlock]⟩)
    have HBA := Lib.hid (HB1.out.alloc HB1.out.size (.cells #[.pointer none, .slice none 0 0] 45))
    have HWA := Lib.hid (HWR.out rfl _ _ HBA.out HN.out)
    go_wp2_with fail
    refine HWA.out.mono ?_
    rintro e W2 ⟨rfl, hb, hw⟩
    have HB2 := Lib.hid hb
    have HS := Lib.hid (Tryd.Builder_String_any_k w.heap.size W1.heap.size _ W2 hb (Nat.le_trans HBA.out.size hw.below.size))
    have HBW := Lib.hid (HBA.out.trans hw.below)
    clear hb hw c0 c1' c2' c3 c4 c5 c6 c7 c8 c9
    go_wp2_with fail
    refine HS.out.mono ?_
    rintro e W3 ⟨rfl, _, hb3, _⟩
    have HB3 := Lib.hid (HBW.out.trans hb3)
    clear hb3
    go_wp2_with fail
    go_ret
    exact ⟨by simp [str], HB3.out⟩
end Go.Proofs.YtinmiekbhoemjaaDoor.Qry
end
section
set_option linter.unusedVariables false
namespace Go.Proofs.YtinmiekbhoemjaaDoor.Qry
open Go.RowKit Words Tree QryP Kit Sch SchP Owned

theorem nums_kid {I : Int → Prop} : ∀ {ks : List QT}, numsInL I ks → ∀ k ∈ ks, numsIn I k
  | [], _, k, h => by cases h
  | a :: l, hf, k, h => by
    rw [numsInL] at hf
    rcases List.mem_cons.1 h with rfl | h
    · exact hf.1
    · exact nums_kid hf.2 k h
theorem ok_of {n : Nat} (hn : n ≤ 5000) : ∀ (m : Nat) (q : QT) (u : Int), q.sz ≤ m → Sz n q → formedB u q = true → numsIn I64 q → Ok q := by
  intro m
  induction m with
  | zero => intro q u h; have := q.sz_pos; omega
  | succ m ih =>
    intro q u hm hs hf hi
    obtain ⟨k, o, f, t, uu, l, h, b, p, ks⟩ := q
    rw [formedB_eq, Bool.and_eq_true] at hf
    obtain ⟨hown, hkids⟩ := hf
    replace hkids : formedL k ks = true := hkids
    have hoc := own_oc hown
    replace hoc : (u = 8 → 1 ≤ o ∧ o ≤ 4) ∧ (u ≠ 8 → o = 0) := hoc
    obtain ⟨hk, _, _, _, _, _, _, _, _, _, hp1, hp2, _⟩ := own_facts hown
    rw [numsIn] at hi
    obtain ⟨hil, hih, hib, hik⟩ := hi
    cases hs with
    | mk hsf hst hsu hsl hsh hsn hsk =>
    refine .mk ⟨by omega, by omega⟩ ?_ (by omega) (by omega) (by omega) ⟨by omega, hil⟩ ⟨by omega, hih⟩ hib ?_ (by omega) fun x hx => ?_
    · by_cases hu : u = 8
      · have := hoc.1 hu; exact ⟨by omega, by omega⟩
      · have := hoc.2 hu; exact ⟨by omega, by omega⟩
    · by_cases hk10 : k = 10
      · have := hp1 hk10; exact ⟨by omega, by omega⟩
      · have := hp2 hk10; exact ⟨by omega, by omega⟩
    · refine ih x k ?_ (hsk x hx) (formed_kid hkids x hx) (nums_kid hik x hx)
      have := QT.sz_kid (kd := k) (oc := o) (f := f) (t := t) (u := uu) (lo := l) (hi := h) (b := b) (op := p) hx
      omega
mutual
theorem mass_bulk : ∀ q : QT, mass q = T.bulkL (cells q)
  | .mk k o f t u lo hi b p ks => by rw [bulk_cells, mass, massL_bulk ks]
theorem massL_bulk : ∀ ks : List QT, massL ks = T.bulkL (cellsL ks)
  | [] => by rw [massL, cellsL, T.bulkL]
  | q :: ks => by rw [massL, cellsL, bulkL_append, mass_bulk q, massL_bulk ks]
end
theorem got_ok {r : R} {q : QT} (h : parseS numT parT r = .ok q) : Ok q ∧ (writeF numT q).length + 500 ≤ maxW ∧ depthF q ≤ 6 ∧ formedB 0 q = true ∧ numsIn I64 q := by
  obtain ⟨h1, h2, h3⟩ := parse_got (I := I64) (fun r n hn => parT_in hn) ⟨by decide, by decide⟩ h
  have hok := ok_of (n := 4097) (by decide) q.sz q 0 (Nat.le_refl _) (parse_sz h) h1 h3
  have hw := write_len hok
  have hm := parse_ms h
  rw [mass_bulk] at hm
  exact ⟨hok, by unfold maxW; omega, h2, h1, h3⟩
/-- A query in memory of its own is a query in memory. -/
theorem OQ.atw {w : World} {B : Nat} {q : QT} {us : List Value} {bs : List Nat} (h : OQ w B q us bs) : T.AtL bare w (fun g => g < w.heap.size) (cells q) us :=
  AtL.keep (fun _ _ => rfl) (fun g hg => (h.mem g hg).2) h.at_
end Go.Proofs.YtinmiekbhoemjaaDoor.Qry
end
section
set_option linter.unusedVariables false
namespace Go.Proofs.YtinmiekbhoemjaaDoor.Tree
open Go.RowKit Go.WideShapes Go.ChangeShapes Words Owned

section
variable {sent : Nat → List (List Value)} {X : Type} {f : X → List T} {s : Nat} {et : TypeId} {box : Option Nat} {N : Nat}
end
end Go.Proofs.YtinmiekbhoemjaaDoor.Tree
end
