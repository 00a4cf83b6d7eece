/- Two structs of one cell, lent side by side: their loads and stores. The walk of SchemaCells. Written by gen_schcells.py. The tables and sentinels out of the laid list of Schema's rows; a world of the witness in which they lie. -/
import Derived.Test.YtfckomjbgopmaaaGreatDoorPack8
import Derived.Test.YtfckomjbgopmaaaGreatDoorTwo
import Derived.Test.YtfckomjbgopmaaaGreatDoorPack13
import Derived.Test.YtfckomjbgopmaaaGreatDoorSchRefCells
import Derived.Test.YtfckomjbgopmaaaGreatDoorSchCellsW
import Derived.Test.YtfckomjbgopmaaaGreatDoorSchCellsOk
import Derived.Deep.RegionHeld3
import Derived.Test.YtfckomjbgopmaaaGreatDoorPack43
import Derived.Test.YtfckomjbgopmaaaGreatDoorPack25
import Derived.Test.YtfckomjbgopmaaaGreatDoorPack2
import Derived.Test.YtfckomjbgopmaaaGreatDoorWords
import Derived.Test.YtfckomjbgopmaaaGreatDoorRows
import Derived.Lib.LaidTab
import Derived.Stop.LaidErr
import Derived.Deep.DeepLaidRun
import Derived.PinnedBridge
import Derived.Lib.LaidIn
import Derived.Lib.LaidU8T
section
set_option linter.unusedVariables false
namespace Go.Proofs.YtfckomjbgopmaaaGreatDoor.SchTwo
open Go.RowKit Words Tree SchP Kit Owned Sch Two

/-- A struct of one cell: its load, its store. -/
theorem load_1s {s d : Nat} {p : String} {ρ : Operand → Value} {W : World} {after : Array Edge} {g : Nat} {v0 : Value} (hp : ρ (.tmp s) = .pointer (some ⟨g, 0, none⟩)) (hb : Blk W g 24 #[v0]) :
    (execOp ρ ⟨some d, .load 24 (.tmp s), 24, p, after, none⟩).run Tryz.prog W = .ok (.value (.agg #[v0])) W := by
  have q0 : W.cell? ⟨g, 0, none⟩ = some v0 := hb.cell 0
  go_simp
theorem load_1d {s d : Nat} {p : String} {ρ : Operand → Value} {W : World} {after : Array Edge} {g : Nat} {v0 : Value} (hp : ρ (.tmp s) = .pointer (some ⟨g, 0, none⟩)) (hb : Blk W g 30 #[v0]) :
    (execOp ρ ⟨some d, .load 30 (.tmp s), 30, p, after, none⟩).run Tryz.prog W = .ok (.value (.agg #[v0])) W := by
  have q0 : W.cell? ⟨g, 0, none⟩ = some v0 := hb.cell 0
  go_simp
theorem store_1s {s d : Nat} {p : String} {ρ : Operand → Value} {W : World} {after : Array Edge} {g : Nat} {us : List Value} {l : List FT} {S : Nat → Prop} {c0 : Value} {sent : Nat → List (List Value)} (hp : ρ (.tmp s) = .pointer (some ⟨g, 0, none⟩)) (hv : ρ (.tmp d) = .agg us.toArray) (hu : T.AtL sent W S [fieldsT l] us)
    (hb : Blk W g 24 #[c0]) :
    ∃ W', (execOp ρ ⟨none, .store 24 (.tmp s) (.tmp d), 0, p, after, none⟩).run Tryz.prog W = .ok .skip W' ∧ Blk W' g 24 us.toArray ∧ W.grownBy W' (some g) ∧ W'.heap.size = W.heap.size := by
  obtain ⟨v, r, rfl, h, hr⟩ := AtL.cons_ hu
  obtain rfl := AtL.nil_ hr
  obtain ⟨L, c, rfl, _, _⟩ := at_slice h
  have q0 : W.cell? ⟨g, 0, none⟩ = some c0 := hb.cell 0
  have z0 := hb.frozen 0
  refine ⟨_, by go_simp, hb.set_ 0 _, only_setCell (World.grownBy.refl W _) (.inl rfl) _, by simp [World.setCell]⟩
theorem store_1d {s d : Nat} {p : String} {ρ : Operand → Value} {W : World} {after : Array Edge} {g : Nat} {us : List Value} {l : List ET} {S : Nat → Prop} {c0 : Value} {sent : Nat → List (List Value)} (hp : ρ (.tmp s) = .pointer (some ⟨g, 0, none⟩)) (hv : ρ (.tmp d) = .agg us.toArray) (hu : T.AtL sent W S [entriesT l] us)
    (hb : Blk W g 30 #[c0]) :
    ∃ W', (execOp ρ ⟨none, .store 30 (.tmp s) (.tmp d), 0, p, after, none⟩).run Tryz.prog W = .ok .skip W' ∧ Blk W' g 30 us.toArray ∧ W.grownBy W' (some g) ∧ W'.heap.size = W.heap.size := by
  obtain ⟨v, r, rfl, h, hr⟩ := AtL.cons_ hu
  obtain rfl := AtL.nil_ hr
  obtain ⟨L, c, rfl, _, _⟩ := at_slice h
  have q0 : W.cell? ⟨g, 0, none⟩ = some c0 := hb.cell 0
  have z0 := hb.frozen 0
  refine ⟨_, by go_simp, hb.set_ 0 _, only_setCell (World.grownBy.refl W _) (.inl rfl) _, by simp [World.setCell]⟩
end Go.Proofs.YtfckomjbgopmaaaGreatDoor.SchTwo
end
section
set_option linter.unusedVariables false
namespace Go.Proofs.YtfckomjbgopmaaaGreatDoor.SchemaCellsWalk
open Go.RowKit Words Tree SchP Kit Owned Sch Two SchTwo

def okOf : Except Int (List CT) → List CT
  | .error _ => []
  | .ok cs => cs
def codeOf : Except Int (List CT) → Int
  | .error n => n
  | .ok _ => 0
theorem cells_none {w : World} {S : Nat → Prop} : T.At bare w S (cellsT []) (.slice none 0 0) := by
  simp only [cellsT, rowT, T.At]
  exact ⟨none, 0, [], rfl, by simp [bare], by unfold maxLen; omega, rfl, fun hn => by simp [bare] at hn, by simp [T.AtL]⟩
theorem both {r : Except Int (List CT)} {w w' : World} {e : Ending} (h : CellsRet r w e w') : ∃ v, e = .returned (.tuple #[v, .int .i64 (codeOf r)]) ∧ T.At bare w' (fun g => w.heap.size ≤ g ∧ CellsAt w' g) (cellsT (okOf r)) v ∧ Below w.heap.size w w' := by
  obtain ⟨hb, h⟩ := h
  cases r with
  | error n => exact ⟨_, h, cells_none, hb⟩
  | ok cs => obtain ⟨v, h1, h2⟩ := h; exact ⟨v, h1, h2, hb⟩
theorem okOf_ok {l : List FT} {d : List ET} (hl : l.length * 72 ≤ 140737488351232) (he : ∀ e ∈ d, EOk e) : (okOf (cellsF decO runO l d)).length ≤ 64 ∧ ∀ c ∈ okOf (cellsF decO runO l d), COk c := by
  cases h : cellsF decO runO l d with
  | error n => exact ⟨by simp [okOf], fun c hc => by simp [okOf] at hc⟩
  | ok cs => exact cellsF_ok hl he h

set_option maxRecDepth 100000 in
set_option maxHeartbeats 4000000 in
theorem walk (u x : Value) (l : List FT) (d : List ET) (w : World) (hu : T.At bare w (fun g => g < w.heap.size) (fieldsT l) u) (hl : l.length * 72 ≤ 140737488351232) (okf : ∀ f ∈ l, FOk f)
    (hx : T.At bare w (fun g => g < w.heap.size) (entriesT d) x) (hd : d.length * 56 ≤ 140737488351232) (oke : ∀ e ∈ d, EOk e) (hes : ∀ e ∈ d, e.text.size < 4294967281) (hT : FoldNext.Tabs w) (hO : OrdLib.OTabs w) :
    Calls Tryz.prog 4 #[.agg #[u], .agg #[x]] w (AnsB true w) := by
  have hlt : ∀ {V : World} {g : Nat}, Below w.heap.size w V → g < w.heap.size → g < V.heap.size := fun hV hg => Nat.lt_of_lt_of_le hg hV.size
  have HL1 := Lib.hid (fun (V : World) (hV : Below w.heap.size w V) => lentSchema_any u l V (At.below hu hV (fun g hg => hlt hV hg)) hl okf)
  have HL2 := Lib.hid (fun (V : World) (hV : Below w.heap.size w V) => lentDoc_any x d V (At.below hx hV (fun g hg => hlt hV hg)) hd oke)
  have HRC := Lib.hid (fun (V : World) (hV : Below w.heap.size w V) => refCells_any u x l d V (At.below hu hV (fun g hg => hlt hV hg)) hl okf (At.below hx hV (fun g hg => hlt hV hg)) hd oke)
  have HIN := Lib.hid (fun (vi vd : Value) (W : World) (hi : T.At lent W (fun g => g < W.heap.size) (fieldsT l) vi) (hdd : T.At lent W (fun g => g < W.heap.size) (entriesT d) vd) (V : World) (hV : Below W.heap.size W V) (hw : Below w.heap.size w V) =>
    have hi' := At.below (S' := fun g => g < V.heap.size) hi hV (fun g hg => Nat.lt_of_lt_of_le hg hV.size)
    have hd' := At.below (S' := fun g => g < V.heap.size) hdd hV (fun g hg => Nat.lt_of_lt_of_le hg hV.size)
    And.intro (cells_any vi vd l d V (At.bare hi') hl okf (At.bare hd') hd oke hes (hT.next hw) (hO.next hw))
      (And.intro (keptSchema_any vi u l V hi' (At.below hu hw (fun g hg => hlt hw hg)) hl okf) (keptDoc_any vd x d V hd' (At.below hx hw (fun g hg => hlt hw hg)) hd oke)))
  have HOK := okOf_ok hl oke
  obtain ⟨r, hr⟩ : ∃ r, cellsF decO runO l d = r := ⟨_, rfl⟩
  rw [hr] at HRC HIN HOK
  have HEQ := Lib.hid (fun (va vb : Value) (V : World) (ha : T.At bare V (fun g => g < V.heap.size) (cellsT (okOf r)) va) (hb : T.At bare V (fun g => g < V.heap.size) (cellsT (okOf r)) vb) =>
    kitCells_any va vb (okOf r) (okOf r) V ha hb (by have := HOK.1; omega) (by have := HOK.1; omega) HOK.2 HOK.2 true (by simp))
  clear hr HOK hes hT hO
  obtain ⟨A, cA, rfl, _, _⟩ := at_slice hu
  obtain ⟨D, cD, rfl, _, _⟩ := at_slice hx
  clear hu hx hlt
  go_enter Tryz.func4, Tryz.ntmps4
  go_upto_region 1 with fail
  have BA := Lib.hid (blk_a w #[.slice A l.length cA] #[.slice D d.length cD] 24 30)
  have BB := Lib.hid (blk_b w #[.slice A l.length cA] #[.slice D d.length cD] 24 30)
  have HB := Lib.hid (below2 (w := w) (.cells #[.slice A l.length cA] 24) (.cells #[.slice D d.length cD] 30))
  have hz : ((w.alloc (.cells #[.slice A l.length cA] 24)).alloc (.cells #[.slice D d.length cD] 30)).heap.size = w.heap.size + 2 := by simp
  have HZ := Lib.hid hz; clear hz
  generalize ((w.alloc (.cells #[.slice A l.length cA] 24)).alloc (.cells #[.slice D d.length cD] 30)) = W0 at *
  refine two_lent (P := Tryz.prog) (A1 := 24) (A2 := 30) (T1 := 24) (T2 := 30) (f1 := 9) (f2 := 19) (s2 := 2) (s3 := 3) (s5 := 5) (s6 := 6) (s7 := 11) (s8 := 12) (s9 := 13) (s10 := 14) (p := "law.go:48")
    (x1 := .agg #[.slice A l.length cA]) (x2 := .agg #[.slice D d.length cD]) (z1 := #[.slice none 0 0]) (z2 := #[.slice none 0 0]) (m1 := lent) (m2 := lent) (ts1 := [fieldsT l]) (ts2 := [entriesT d]) (by kernel_rfl) ?six ⟨by decide, by decide, by decide, by decide, by decide, by decide⟩ ⟨by decide, by decide, by decide, by decide, by decide, by decide⟩ ?does ?after
  case six => exact ⟨by decide, by decide, by decide, by decide, by decide, by decide, by decide, by decide, by decide, by decide, by decide, by decide, by decide, by decide, by decide, by simp⟩
  case does =>
    refine ⟨?_, ?_, ?_, ?_, ?_, ?_, ?_, ?_, ?_, ?_⟩
    · intro ρ W after h1 h2
      exact load_1s (h1.trans rfl) (BA.out.below h2 BA.out.lt)
    · intro ρ W after h1 h2
      exact load_1d (h1.trans rfl) (BB.out.below h2 BB.out.lt)
    · intro ρ W after h1 h2
      go_simp
    · intro ρ W after h1 h2
      go_simp
    · intro ρ W after
      go_simp
    · intro ρ W after
      go_simp
    · intro ρ W after g us S h1 h2 h3 h4
      exact store_1s h1 h2 h3 h4
    · intro ρ W after g us S h1 h2 h3 h4
      exact store_1d h1 h2 h3 h4
    · intro W hW
      refine (HL1.out W (HB.out.trans (hW.mono (by rw [HZ.out]; omega)))).mono ?_
      rintro e W' ⟨v, rfl, ha, hb⟩
      exact ⟨[v], rfl, by simpa only [T.AtL, and_true] using ha, hb⟩
    · intro W hW
      refine (HL2.out W (HB.out.trans (hW.mono (by rw [HZ.out]; omega)))).mono ?_
      rintro e W' ⟨v, rfl, ha, hb⟩
      exact ⟨[v], rfl, by simpa only [T.AtL, and_true] using ha, hb⟩
  case after =>
    intro g5 g6 us1 us2 W hW n5 n6 n56 l5 l6 B5 B6 A5 A6
    obtain ⟨vi, r1, rfl, ai, hr1⟩ := AtL.cons_ A5
    obtain rfl := AtL.nil_ hr1
    obtain ⟨vd, r2, rfl, ad, hr2⟩ := AtL.cons_ A6
    obtain rfl := AtL.nil_ hr2
    obtain ⟨L, c1, rfl, _, _⟩ := at_slice ai
    obtain ⟨M, c2, rfl, _, _⟩ := at_slice ad
    have HW : Hid (Below w.heap.size w W) := Lib.hid (HB.out.trans (hW.mono (by rw [HZ.out]; omega)))
    have HC := Lib.hid (HIN.out _ _ W (At.keep (fun _ _ => rfl) (fun g h => h.2.2.2) ai) (At.keep (fun _ _ => rfl) (fun g h => h.2.2.2) ad))
    have BA2 := Lib.hid (BA.out.below hW BA.out.lt)
    have BB2 := Lib.hid (BB.out.below hW BB.out.lt)
    have HB5 := Lib.hid B5
    have HB6 := Lib.hid B6
    have SF : Hid (∀ V, Below W.heap.size W V → V.cell? ⟨w.heap.size, 0, none⟩ = some (.slice A l.length cA) ∧ V.cell? ⟨w.heap.size + 1, 0, none⟩ = some (.slice D d.length cD) ∧ V.cell? ⟨g5, 0, none⟩ = some (.slice L l.length c1) ∧ V.cell? ⟨g6, 0, none⟩ = some (.slice M d.length c2)) :=
      Lib.hid (fun V hV => ⟨(BA2.out.below hV BA2.out.lt).cell 0, (BB2.out.below hV BB2.out.lt).cell 0, (HB5.out.below hV HB5.out.lt).cell 0, (HB6.out.below hV HB6.out.lt).cell 0⟩)
    have HCC := Lib.hid (fun V hV => (HC.out V hV (HW.out.trans (hV.mono HW.out.size))).1)
    have HCK := Lib.hid (fun V hV => (HC.out V hV (HW.out.trans (hV.mono HW.out.size))).2.1)
    have HCD := Lib.hid (fun V hV => (HC.out V hV (HW.out.trans (hV.mono HW.out.size))).2.2)
    have HR2 := Lib.hid (fun V (hV : Below W.heap.size W V) => HRC.out V (HW.out.trans (hV.mono HW.out.size)))
    clear HC HIN HRC HL1 HL2 BA BB BA2 BB2 HB5 HB6 B5 B6 A5 A6 ai ad hr1 hr2 hW HB HZ n5 n6 n56 l5 l6 okf oke hl hd
    obtain ⟨n, hn⟩ : ∃ n, codeOf r = n := ⟨_, rfl⟩
    have hnn : (n == n) = true := by simp
    simp only [put6, Act.put, List.setIfInBounds_toArray, List.set_cons_zero, List.set_cons_succ]
    obtain ⟨x1, x2, x3, x4⟩ := SF.out W (Below.refl _ _)
    go_wp2_with fail
    refine (HCC.out W (Below.refl _ _)).mono ?_
    intro e W1 h1
    obtain ⟨va, rfl, ga, b1⟩ := both h1
    obtain ⟨P, p1, rfl, _, _⟩ := at_slice ga
    have GA := Lib.hid ga
    have HB1 := Lib.hid b1
    rw [hn]
    clear b1 x1 x2 x3 x4 ga h1
    obtain ⟨x1, x2, x3, x4⟩ := SF.out W1 HB1.out
    go_wp2_with fail
    refine (HR2.out W1 HB1.out).mono ?_
    intro e W2 h2
    obtain ⟨vb, rfl, gb, b2⟩ := both h2
    obtain ⟨Q, p2, rfl, _, _⟩ := at_slice gb
    have HB2 := Lib.hid (HB1.out.trans (b2.mono HB1.out.size))
    have HKC := Lib.hid (HEQ.out _ _ W2 (At.below (S' := fun g => g < W2.heap.size) (At.keep (fun _ _ => rfl) (fun g h => h.2.lt) GA.out) b2 (fun g hg => Nat.lt_of_lt_of_le hg b2.size)) (At.keep (fun _ _ => rfl) (fun g h => h.2.lt) gb))
    rw [hn]
    clear b2 x1 x2 x3 x4 gb h2 GA hn
    obtain ⟨x1, x2, x3, x4⟩ := SF.out W2 HB2.out
    go_wp2_with fail
    refine HKC.out.mono ?_
    rintro e W3 ⟨rfl, b3⟩
    have HB3 := Lib.hid (HB2.out.trans (b3.mono HB2.out.size))
    clear b3 x1 x2 x3 x4
    obtain ⟨x1, x2, x3, x4⟩ := SF.out W3 HB3.out
    go_wp2_with fail
    refine (HCK.out _ HB3.out).mono ?_
    rintro e W4 ⟨rfl, b4⟩
    have HB4 := Lib.hid (HB3.out.trans (b4.mono HB3.out.size))
    clear b4 x1 x2 x3 x4
    obtain ⟨x1, x2, x3, x4⟩ := SF.out W4 HB4.out
    go_wp2_with fail
    refine (HCD.out _ HB4.out).mono ?_
    rintro e W5 ⟨rfl, b5⟩
    have HB5 := Lib.hid (HB4.out.trans (b5.mono HB4.out.size))
    clear b5 x1 x2 x3 x4
    go_wp2_with fail
    go_ret
    exact ⟨rfl, HW.out.trans (HB5.out.mono HW.out.size)⟩
end Go.Proofs.YtfckomjbgopmaaaGreatDoor.SchemaCellsWalk
end
section
set_option linter.unusedVariables false
namespace Go.Proofs.YtfckomjbgopmaaaGreatDoor.SchTabs
open Go.RowKit Go.Lib OrdP Kit OrdLib
theorem gP : Tryz.prog.globalNamed "internal/strconv.uint64pow10" = some 0 := by kernel_rfl
theorem gPt : (Tryz.prog.globals[0]?).map (·.type) = some 178 := by kernel_rfl
theorem gR : Tryz.prog.globalNamed "strconv.ErrRange" = some 3 := by kernel_rfl
theorem gRt : (Tryz.prog.globals[3]?).map (·.type) = some 128 := by kernel_rfl
theorem row_err (u : TypeId) (h : Tryz.prog.typeName? 3 u = some "*errors.errorString") : u = 209 :=
  typeName_ptr_named (nm := "errors.errorString") (by rw [show "*" ++ "errors.errorString" = "*errors.errorString" by decide]; kernel_rfl) (by kernel_rfl) (by decide) u (by rw [show "*" ++ "errors.errorString" = "*errors.errorString" by decide]; exact h)
theorem pow_eq : (Rows.laid_internal_strconv_uint64pow10 : DataW Unit) = Lib.tabData .u64 Lib.pow10Tab := by kernel_rfl
theorem accept_eq : Rows.laid_unicode_utf8_acceptRanges = Lib.acceptData := by kernel_rfl
theorem first_eq : (Rows.laid_unicode_utf8_first : DataW Unit) = Lib.firstData := Pinned.utf8First_eq
theorem maxlen {W : World} (h : W.ShapedOpen Tryz.prog) : ∃ m, W.cell? ⟨1, 0, none⟩ = some (.int .i64 m) :=
  Go.Proofs.cell_of_shapedOpen_int (zero := #[.int .i64 0]) (t := 3) h (of_decide_eq_true (by kernel_rfl)) (by kernel_rfl) rfl (by kernel_rfl) (by kernel_rfl) Tryz.underlying3
/-- The listed variables, the two tables of unicode/utf8 and the powers of ten as the shelf has them. -/
abbrev laidL : List (String × DataW Unit) := [("math/bits.deBruijn32tab", Rows.laid_math_bits_deBruijn32tab), ("math/bits.deBruijn64tab", Rows.laid_math_bits_deBruijn64tab), ("internal/strconv.uint64pow10", Lib.tabData .u64 Lib.pow10Tab), ("unicode/utf8.acceptRanges", Lib.acceptData), ("strconv.ErrRange", Rows.laid_strconv_ErrRange), ("strconv.ErrSyntax", Rows.laid_strconv_ErrSyntax), ("unicode/utf8.first", Lib.firstData)]
theorem laid_eq : Rows.schemaCellsUptoRow.laid = laidL := by
  unfold laidL
  rw [← pow_eq, ← accept_eq, ← first_eq]; rfl
theorem otabs {W : World} (h : laidMet Tryz.prog laidL W) (hs : W.ShapedOpen Tryz.prog) : OTabs W := by
  have hp := tabIs_of_head gP gPt Tryz.underlying178 Tryz.underlying108 (by kernel_rfl) (by kernel_rfl) h.tail.tail
  obtain ⟨a0, s0, hv0, -, -, -⟩ := laid_sentinel h.tail.tail.tail.tail gR gRt Tryz.underlying128 row_err Tryz.underlying209 Tryz.underlying211 rfl rfl Tryz.underlying9 (by kernel_rfl) (by kernel_rfl)
  have h0 := World.var?_cell gR hv0 0
  exact ⟨maxlen hs, ⟨.iface 209 (.pointer (some a0)), by simpa using h0, .inr ⟨_, _, rfl⟩⟩, hp⟩
theorem tabs_size {w : World} (h : Lib.Utf8Tabs 6 7 w) : 8 ≤ w.heap.size := by
  have h1 := (h.2 0 (by omega)).1
  have := World.block_lt_of_cell? w _ h1
  have h2 := h.1 0 (by omega)
  have := World.block_lt_of_cell? w _ h2
  dsimp only at *
  omega
theorem utabs {W : World} (h : laidMet Tryz.prog laidL W) : FoldNext.Tabs W := by
  have ht : Lib.Utf8Tabs 6 7 W :=
    utf8Tabs_of_readsT (U8Types.of260 Tryz.lays260) ⟨by kernel_rfl, by kernel_rfl, by kernel_rfl, by kernel_rfl, by kernel_rfl, by kernel_rfl, by kernel_rfl⟩ (Lib.laidMet.reads h (.tail _ (.tail _ (.tail _ (.tail _ (.tail _ (.tail _ (.head _)))))))) (Lib.laidMet.reads h (.tail _ (.tail _ (.tail _ (.head _)))))
  exact ⟨ht, tabs_size ht⟩
def valsOf : DataW Unit → Array Value
  | .agg l => (l.map fun | .lit (.int k z) => Value.int k z | _ => undef).toArray
  | _ => #[]
def textOf : DataW Unit → ByteArray
  | .iface _ (.ptr (.agg [.lit (.string l)])) => ⟨l.toArray⟩
  | _ => ⟨#[]⟩
noncomputable def laidWorld (os : Os) : World :=
  let w0 := World.holding Tryz.prog os ⟨#[.cells #[.string (textOf Rows.laid_strconv_ErrRange)] 211, .cells #[.string (textOf Rows.laid_strconv_ErrSyntax)] 211], #[], []⟩
  let put (h : Array Obj) (g : Nat) (cs : Array Value) : Array Obj := h.modify g fun
    | .cells _ t frozen => .cells cs t frozen
    | o => o
  let h1 := put w0.heap 4 (valsOf Rows.laid_math_bits_deBruijn32tab)
  let h2 := put h1 5 (valsOf Rows.laid_math_bits_deBruijn64tab)
  let h3 := put h2 0 (valsOf Rows.laid_internal_strconv_uint64pow10)
  let h4 := put h3 3 #[.iface 209 (.pointer (some ⟨Tryz.prog.low, 0, none⟩))]
  let h5 := put h4 2 #[.iface 209 (.pointer (some ⟨Tryz.prog.low + 1, 0, none⟩))]
  let h6 := put h5 6 (Lib.firstTab.map fun z => Value.int .u8 z).toArray
  let h7 := put h6 7 ((List.range 16).flatMap fun i => [Value.int .u8 (Lib.accLo i), Value.int .u8 (Lib.accHi i)]).toArray
  { w0 with heap := h7 }
theorem laid_met (os : Os) (args : Array Value) : laidMet Tryz.prog laidL ((laidWorld os).forCall (fun _ _ => 0) ⟨#[], args, []⟩).memory :=
  laidMet_of_run3 8 (by kernel_rfl) (by kernel_rfl) (by kernel_rfl)
end Go.Proofs.YtfckomjbgopmaaaGreatDoor.SchTabs
end
