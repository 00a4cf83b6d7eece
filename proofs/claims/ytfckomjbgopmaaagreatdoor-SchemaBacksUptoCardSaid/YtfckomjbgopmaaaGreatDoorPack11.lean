/- Contracts: a schema and a document that are lent. Contracts: entries and a document that are lent. Contracts: a field is found by its name: the document's answer, and the program's. Contracts: rows of entries compared, and kept; a document that was lent is as it was. -/
import Derived.Test.YtfckomjbgopmaaaGreatDoorPack10
section
set_option linter.unusedVariables false
namespace Go.Proofs.YtfckomjbgopmaaaGreatDoor.Sch
open Go.RowKit Words Tree SchP Kit Owned

theorem below2 {w : World} (o1 o2 : Obj) : Below w.heap.size w ((w.alloc o1).alloc o2) := ((Below.refl _ _).alloc (Nat.le_refl _) _).alloc (by simp) _
theorem blk_a (w : World) (cs ds : Array Value) (t t' : TypeId) : Blk ((w.alloc (.cells cs t)).alloc (.cells ds t')) w.heap.size t cs := (Blk.new w t cs).alloc _
theorem blk_b (w : World) (cs ds : Array Value) (t t' : TypeId) : Blk ((w.alloc (.cells cs t)).alloc (.cells ds t')) (w.heap.size + 1) t' ds := by
  have := Blk.new (w.alloc (.cells cs t)) t' ds
  rwa [World.size_alloc] at this
/-- Seven cells, as the walk spells them. -/
theorem seven {w : World} {ad : Addr} {v0 v1 v2 v3 v4 v5 v6 : Value} (h : Cells w ad [v0, v1, v2, v3, v4, v5, v6]) :
    w.cell? ad = some v0 ∧ w.cell? ⟨ad.block, ad.off + 1, none⟩ = some v1 ∧ w.cell? ⟨ad.block, ad.off + 2, none⟩ = some v2 ∧ w.cell? ⟨ad.block, ad.off + 3, none⟩ = some v3 ∧ w.cell? ⟨ad.block, ad.off + 4, none⟩ = some v4 ∧
    w.cell? ⟨ad.block, ad.off + 5, none⟩ = some v5 ∧ w.cell? ⟨ad.block, ad.off + 6, none⟩ = some v6 :=
  ⟨h.zero, h.at_ 1 _ rfl (by omega), h.at_ 2 _ rfl (by omega), h.at_ 3 _ rfl (by omega), h.at_ 4 _ rfl (by omega), h.at_ 5 _ rfl (by omega), h.at_ 6 _ rfl (by omega)⟩

set_option maxRecDepth 100000 in
set_option maxHeartbeats 4000000 in
theorem lentSchema_any (u : Value) (l : List FT) (w : World) (hu : T.At bare w (fun g => g < w.heap.size) (fieldsT l) u) (hl : l.length * 72 ≤ 140737488351232) (hf : ∀ f ∈ l, FOk f) :
    Calls Tryz.prog 9 #[.agg #[u]] w (fun e w' => ∃ v, e = .returned (.agg #[v]) ∧ T.At lent w' (fun g => w.heap.size ≤ g ∧ g < w'.heap.size) (fieldsT l) v ∧ Below w.heap.size w w') := by
  obtain ⟨A, cap, rfl, hc, hm, hel⟩ := at_row fcells_len hu
  have EL := Lib.hid hel
  clear hel hu
  go_enter Tryz.func9, Tryz.ntmps9
  go_wp2_with fail
  have HB := Lib.hid (below2 (w := w) (.cells #[.slice A l.length cap] 24) (.cells #[.slice none 0 0] 24))
  have BA := Lib.hid (blk_a w #[.slice A l.length cap] #[.slice none 0 0] 24 24)
  have BB := Lib.hid (blk_b w #[.slice A l.length cap] #[.slice none 0 0] 24 24)
  have hzW : ((w.alloc (Obj.cells #[.slice A l.length cap] 24)).alloc (Obj.cells #[.slice none 0 0] 24)).heap.size = w.heap.size + 2 := by simp
  generalize (w.alloc (Obj.cells #[.slice A l.length cap] 24)).alloc (Obj.cells #[.slice none 0 0] 24) = W at *
  go_loopw [3, 4] (fun v i wr => ∃ k : Nat, k ≤ l.length ∧ i = .int .i64 k ∧ Hid (LentRow lent 54 7 fcells W wr v l k)) (fun _ i _ => l.length - (intOf i).toNat)
  case atStart => exact ⟨0, by omega, rfl, Lib.hid (lentRow_zero _ W l)⟩
  case round =>
    obtain ⟨k, hkk, rfl, HK⟩ := hrel
    have HKB : Hid (Below W.heap.size W wr) := Lib.hid (by obtain ⟨_, _, _, h⟩ := HK.out; exact h)
    have BW := Lib.hid (BA.out.below HKB.out (by omega))
    have hzr := HKB.out.size
    have c0 : wr.cell? ⟨w.heap.size, 0, none⟩ = some (.slice A l.length cap) := BW.out.cell 0
    by_cases hlt : k < l.length
    · obtain ⟨ad, us, rfl, hba, au, lu, cu⟩ := EL.out k hlt
      have HWR : Hid (Below w.heap.size w wr) := Lib.hid (HB.out.trans (HKB.out.mono HB.out.size))
      replace cu := cu.keep (w' := wr) (fun p hp => HWR.out.cell (by rw [hp, block_of_add]; exact hba))
      have hab : (ad.add (k * 7)).block < wr.heap.size := by rw [block_of_add]; omega
      have HF := Lib.hid (hf l[k] (List.getElem_mem hlt))
      have HFQ : Hid (∃ f, l[k] = f) := Lib.hid ⟨_, rfl⟩
      obtain ⟨f, hfk⟩ := HFQ.out
      rw [hfk] at au HF
      obtain ⟨vc, rfl, gc⟩ := at_fcells au
      obtain ⟨X, z, rfl, _, _, hrd⟩ := at_nums gc
      obtain ⟨a0, a1, a2, a3, a4, a5, a6⟩ := seven cu
      have HRD := Lib.hid hrd
      clear cu au lu gc hrd HFQ
      go_wp2_with fail
      have HWN := Lib.hid ((Below.refl _ wr).alloc (Nat.le_refl _) (Obj.cells #[.string f.name, .int .i64 f.kind, .slice X f.chain.length z, .int .i64 f.scale, .int .i64 f.dims, .bool f.many, .bool f.stored] 54))
      have BF := Lib.hid (Blk.new wr 54 #[.string f.name, .int .i64 f.kind, .slice X f.chain.length z, .int .i64 f.scale, .int .i64 f.dims, .bool f.many, .bool f.stored])
      have hzn : (wr.alloc (Obj.cells #[.string f.name, .int .i64 f.kind, .slice X f.chain.length z, .int .i64 f.scale, .int .i64 f.dims, .bool f.many, .bool f.stored] 54)).heap.size = wr.heap.size + 1 := by simp
      clear a0 a1 a2 a3 a4 a5 a6 c0
      generalize wr.alloc (Obj.cells #[.string f.name, .int .i64 f.kind, .slice X f.chain.length z, .int .i64 f.scale, .int .i64 f.dims, .bool f.many, .bool f.stored] 54) = W1 at *
      refine (lentInt_any X z f.chain W1 (((HRD.out.below HWR.out).below (HWN.out.mono HWR.out.size)).more (by have := HWR.out.size; omega)) HF.out.chain.1).mono ?_
      rintro e w3 ⟨vl, rfl, al, b3⟩
      obtain ⟨Y, z2, rfl, _, _⟩ := at_slice al
      have hz3 := b3.size
      have BF3 := Lib.hid (BF.out.below b3 BF.out.lt)
      have HB3 := Lib.hid (HWN.out.trans (b3.mono (by omega)) : Below wr.heap.size wr w3)
      have AL3 := Lib.hid al
      have c2 : w3.cell? ⟨wr.heap.size, 2, none⟩ = some (.slice X f.chain.length z) := BF3.out.cell 2
      have f2 : w3.frozen? ⟨wr.heap.size, 2, none⟩ = false := BF3.out.frozen 2
      clear al b3
      go_upto_region 7 with fail
      have BF4 : Hid (Blk (w3.setCell ⟨wr.heap.size, 2, none⟩ (.slice Y f.chain.length z2)) wr.heap.size 54 #[.string f.name, .int .i64 f.kind, .slice Y f.chain.length z2, .int .i64 f.scale, .int .i64 f.dims, .bool f.many, .bool f.stored]) := Lib.hid (BF3.out.set_ 2 _)
      have HB4 : Hid (Below wr.heap.size wr (w3.setCell ⟨wr.heap.size, 2, none⟩ (.slice Y f.chain.length z2))) := Lib.hid (HB3.out.setCell (Nat.le_refl _) _)
      have hs4 : (w3.setCell ⟨wr.heap.size, 2, none⟩ (.slice Y f.chain.length z2)).heap.size = w3.heap.size := by simp [World.setCell]
      have AL4 : Hid (T.At lent (w3.setCell ⟨wr.heap.size, 2, none⟩ (.slice Y f.chain.length z2)) (fun g => wr.heap.size ≤ g ∧ g < w3.heap.size) (numsT .i64 f.chain) (.slice Y f.chain.length z2)) :=
        Lib.hid (At.keep (fun p hp => World.cell?_setCell_other _ _ _ _ (by intro e; subst e; have := hp.1; simp at this; omega)) (fun g h => ⟨by omega, h.2⟩) AL3.out)
      clear c2 f2 BF3 HB3 AL3 BF
      generalize w3.setCell ⟨wr.heap.size, 2, none⟩ (.slice Y f.chain.length z2) = W4 at *
      have b0 := BF4.out.cell 0
      have b1 := BF4.out.cell 1
      have b2 := BF4.out.cell 2
      have b3 := BF4.out.cell 3
      have b4 := BF4.out.cell 4
      have b5 := BF4.out.cell 5
      have b6 := BF4.out.cell 6
      obtain ⟨xs, hx, ha, hB⟩ := HK.out
      have hown := own_below hx HB4.out
      have HX := Lib.hid hx; have HA := Lib.hid ha
      have HFK := Lib.hid hfk
      have HS4 := Lib.hid hs4
      obtain ⟨i0, hi1, hi2, hi3, hi4⟩ := info_parts infoF
      clear hx ha hB hfk hs4
      go_wp2_with (at_builtin; refine wpList_append_any _ rfl (.tmp 22) (.tmp 24) 22 rfl W.heap.size 54 i0 _ 7 72 Tryz.underlying22 hi1 hi2 hi3 hi4 rfl (by decide) _ k xs rfl (hown.alloc _) (W4.heap.size + 1) (some ⟨W4.heap.size, 0, none⟩) 1 1 [.string f.name, .int .i64 f.kind, .slice Y f.chain.length z2, .int .i64 f.scale, .int .i64 f.dims, .bool f.many, .bool f.stored] rfl ?d1 ?d2 ?d3 ?d4 ?d5 ?_)
      all_goals have hs4 := HS4.out
      case d1 => exact ⟨rfl, fun _ => ⟨_, rfl, Nat.lt_succ_self _, fun j u hu => cells_new W4 _ _ j u hu⟩⟩
      case d2 => intro u hu; simp only [List.mem_cons, List.not_mem_nil, or_false] at hu; rcases hu with rfl | rfl | rfl | rfl | rfl | rfl | rfl <;> rfl
      case d3 => unfold maxLen; omega
      case d4 => omega
      case d5 => simp; omega
      intro v' w5 ho hg hv
      have HST : Hid (LentRow lent 54 7 fcells W w5 v' l (k + 1)) := Lib.hid (by
        rw [← hzW] at ho
        refine lentRow_step (us := [.string f.name, .int .i64 f.kind, .slice Y f.chain.length z2, .int .i64 f.scale, .int .i64 f.dims, .bool f.many, .bool f.stored]) (w3 := W4.alloc (.cells #[.string f.name, .int .i64 f.kind, .slice Y f.chain.length z2, .int .i64 f.scale, .int .i64 f.dims, .bool f.many, .bool f.stored] 54)) hlt HX.out HA.out HKB.out ?_ (HB4.out.alloc HB4.out.size _) ho hg (by simpa using hv)
        rw [HFK.out]
        refine fcells_mk (At.keep (fun p hp => World.cell?_alloc_lt _ _ _ (by omega)) (fun g h => ⟨h.1, by simp; omega⟩) AL4.out))
      clear ho hg hv hown hi1 hi2 hi3 hi4 b0 b1 b2 b3 b4 b5 b6
      go_wp2_with fail
      go_roundw
      case rel => exact ⟨k + 1, by omega, by go_num, HST⟩
      case measure => simp [intOf]; omega
    · obtain rfl : k = l.length := by omega
      obtain ⟨xs, hx, ha, hB⟩ := HK.out
      have HX := Lib.hid hx; have HA := Lib.hid ha
      obtain ⟨i0, hi1, hi2, hi3, hi4⟩ := info_parts infoF
      have HZ := Lib.hid hzW; have HZR := Lib.hid hzr
      clear ha hB hzW
      go_wp2_with (at_builtin; refine wpList_append_own _ rfl (.tmp 26) (.tmp 28) 22 rfl W.heap.size 54 i0 _ 7 72 Tryz.underlying22 hi1 hi2 hi3 hi4 rfl (by decide) _ l.length xs rfl (hx.alloc _) ⟨wr.heap.size, 0, none⟩ 1 1 markF rfl rfl ?d6 ?d7 ?d8 ?d9 ?d10 ?_)
      case d6 => intro j u hu; exact cells_new wr markF _ j u hu
      case d7 => intro u hu; simp only [markF, List.mem_cons, List.not_mem_nil, or_false] at hu; rcases hu with rfl | rfl | rfl | rfl | rfl | rfl | rfl <;> rfl
      case d8 => unfold maxLen; omega
      case d9 => omega
      case d10 => simp; omega
      intro v' w4 ho hg _
      rcases ho.2 with ⟨_, h0⟩ | ⟨g, cap', cur, rfl, hB', hgg, hn, hm', hcs, ht⟩
      · omega
      have HE := Lib.hid (lentRow_end fcells_len lent_seven HX.out HA.out HKB.out (HKB.out.trans (Below.refl _ _) |> fun _ => (Below.refl _ wr).alloc (Nat.le_refl _) _) ho hn hm' hg)
      have hmm := hm'
      unfold maxLen at hmm
      have hzz := HZ.out
      have hne : ∀ b, b < W.heap.size → some b ≠ u3.ownBlock := fun b hb e => by have := (HX.out.lt b e.symm).1; omega
      have BX := Lib.hid ((BW.out.alloc _).grown hg (hne _ (by omega)))
      have BY := Lib.hid (((BB.out.below HKB.out (by omega)).alloc _).grown hg (hne _ (by omega)))
      have x0 : w4.cell? ⟨w.heap.size, 0, none⟩ = some (.slice A l.length cap) := BX.out.cell 0
      have y0 : w4.cell? ⟨w.heap.size + 1, 0, none⟩ = some (.slice none 0 0) := BY.out.cell 0
      have yf : w4.frozen? ⟨w.heap.size + 1, 0, none⟩ = false := BY.out.frozen 0
      clear hne
      clear ho hg hgg hcs ht hx hi1 hi2 hi3 hi4 hB' hm'
      go_wp2_with fail
      have y1 : (w4.setCell ⟨w.heap.size + 1, 0, none⟩ (.slice (some ⟨g, 0, none⟩) l.length cap')).cell? ⟨w.heap.size + 1, 0, none⟩ = some (.slice (some ⟨g, 0, none⟩) l.length cap') := (BY.out.set_ 0 (.slice (some ⟨g, 0, none⟩) l.length cap')).cell 0
      refine bodyPost_ret (v := .agg #[.slice (some ⟨g, 0, none⟩) l.length cap']) (by simp [results, Tryz.results9, go_sem, y1]) rfl ?_
      refine ⟨_, rfl, At.keep (fun p hp => World.cell?_setCell_other _ _ _ _ (by intro e; subst e; have := hp.1; simp at this; omega)) (fun r hr => ⟨by omega, by have := hr.2; simpa [World.setCell] using this⟩) HE.out.1, (HB.out.trans (HE.out.2.mono (by omega))).setCell (by simp) _⟩
end Go.Proofs.YtfckomjbgopmaaaGreatDoor.Sch
end
section
set_option linter.unusedVariables false
namespace Go.Proofs.YtfckomjbgopmaaaGreatDoor.Sch
open Go.RowKit Words Tree SchP Kit Owned

end Go.Proofs.YtfckomjbgopmaaaGreatDoor.Sch
end
section
set_option linter.unusedVariables false
namespace Go.Proofs.YtfckomjbgopmaaaGreatDoor.Sch
open Go.RowKit Words Tree SchP Kit Owned

theorem str_cases (a b : ByteArray) : (a = b ∧ (a.toList == b.toList) = true) ∨ (a ≠ b ∧ (a.toList == b.toList) = false) := by
  by_cases h : a = b
  · exact .inl ⟨h, by subst h; simp⟩
  · refine .inr ⟨h, ?_⟩
    have : ¬ a.toList = b.toList := fun e => by
      rw [ByteArray.toList_eq, ByteArray.toList_eq] at e
      exact h (ByteArray.ext (Array.toList_inj.1 e))
    rw [beq_eq_false_iff_ne]; exact this
theorem findF_drop {l : List FT} {s : ByteArray} {k : Nat} (h : k < l.length) : findF (l.drop k) s = if l[k].name = s then some 0 else (findF (l.drop (k + 1)) s).map (· + 1) := by
  rw [List.drop_eq_getElem_cons h, findF]
def zOf : Option Nat → Int
  | some i => i
  | none => -1
theorem findZ_eq (l : List FT) (s : ByteArray) : findZ l s = zOf (findF l s) := by
  unfold findZ zOf
  cases findF l s <;> rfl
def IntB (n : Int) (w : World) (e : Ending) (w' : World) : Prop := e = .returned (.int .i64 n) ∧ Below w.heap.size w w'

end Go.Proofs.YtfckomjbgopmaaaGreatDoor.Sch
end
section
set_option linter.unusedVariables false
namespace Go.Proofs.YtfckomjbgopmaaaGreatDoor.Sch
open Go.RowKit Words Tree SchP Kit Owned

theorem bne_str {a b : ByteArray} (h : ¬ a = b) : (a.toList != b.toList) = true ∧ (a.toList == b.toList) = false := by
  have : ¬ a.toList = b.toList := fun e => by
    rw [ByteArray.toList_eq, ByteArray.toList_eq] at e
    exact h (ByteArray.ext (Array.toList_inj.1 e))
  exact ⟨by rw [bne_iff_ne]; exact this, by rw [beq_eq_false_iff_ne]; exact this⟩
theorem three {w : World} {ad : Addr} {v0 v1 v2 : Value} (h : Cells w ad [v0, v1, v2]) :
    w.cell? ad = some v0 ∧ w.cell? ⟨ad.block, ad.off + 1, none⟩ = some v1 ∧ w.cell? ⟨ad.block, ad.off + 2, none⟩ = some v2 :=
  ⟨h.zero, h.at_ 1 _ rfl (by omega), h.at_ 2 _ rfl (by omega)⟩
theorem take_all {α : Type} {l m : List α} (h : l.take l.length = m.take l.length) (hl : l.length = m.length) : l = m := by
  rw [List.take_of_length_le (Nat.le_refl _), hl, List.take_of_length_le (Nat.le_refl _)] at h
  exact h
theorem ne_at {α : Type} {ks js : List α} {k : Nat} (h1 : k < ks.length) (h2 : k < js.length) (h : ¬ ks[k] = js[k]) : ¬ ks = js := fun e => by subst e; exact h rfl
theorem bool_cases {b : Bool} {p : Prop} (h : b = true ↔ p) : (p ∧ b = true) ∨ (¬ p ∧ b = false) := by cases b <;> simp_all
theorem ediff (x y : ET) : (¬ x.field = y.field) ∨ (x.field = y.field ∧ ¬ x.text = y.text) ∨ (x.field = y.field ∧ x.text = y.text ∧ ¬ x.nums = y.nums) ∨ x = y := by
  by_cases h1 : x.field = y.field
  · by_cases h2 : x.text = y.text
    · by_cases h3 : x.nums = y.nums
      · exact .inr (.inr (.inr (by cases x; cases y; simp_all)))
      · exact .inr (.inr (.inl ⟨h1, h2, h3⟩))
    · exact .inr (.inl ⟨h1, h2⟩)
  · exact .inl h1

set_option maxRecDepth 100000 in
set_option maxHeartbeats 4000000 in
theorem entries_any (v u : Value) (xs ys : List ET) (w : World) (hv : T.At bare w (fun g => g < w.heap.size) (entriesT xs) v) (hu : T.At bare w (fun g => g < w.heap.size) (entriesT ys) u)
    (hx : xs.length * 56 ≤ 140737488351232) (hy : ys.length * 56 ≤ 140737488351232) (ox : ∀ e ∈ xs, EOk e) (oy : ∀ e ∈ ys, EOk e) (r : Bool) (hr : r = true ↔ xs = ys) :
    Calls Tryz.prog 36 #[v, u] w (AnsB r w) := by
  obtain ⟨A, c, rfl, _, hmA, eA⟩ := at_row ecells_len hv
  obtain ⟨B, d, rfl, _, hmB, eB⟩ := at_row ecells_len hu
  have EA := Lib.hid eA; have EB := Lib.hid eB; have HR := Lib.hid hr; have OX := Lib.hid ox; have OY := Lib.hid oy
  clear eA eB hv hu hr ox oy
  by_cases hl : xs.length = ys.length
  · have HL := Lib.hid hl
    have hbne : ((xs.length : Int) != (ys.length : Int)) = false := by rw [hl]; simp
    clear hl
    go_enter Tryz.func36, Tryz.ntmps36
    go_wp2_with fail
    go_loopw [5] (fun i wr => ∃ (k : Nat), k ≤ xs.length ∧ i = .int .i64 k ∧ Hid (xs.take k = ys.take k) ∧ Hid (Below w.heap.size w wr)) (fun i _ => xs.length - (intOf i).toNat)
    case atStart => exact ⟨0, by omega, rfl, Lib.hid (by simp), Lib.hid (Below.refl _ _)⟩
    case round =>
      obtain ⟨k, hk, rfl, HE, HW⟩ := hrel
      by_cases hlt : k < xs.length
      · have hlt2 : k < ys.length := by have := HL.out; omega
        obtain ⟨ad, us, rfl, hba, au, lu, cu⟩ := EA.out k hlt
        obtain ⟨bd, us2, rfl, hbb, au2, lu2, cu2⟩ := EB.out k hlt2
        replace cu := cu.keep (w' := wr) (fun p hp => HW.out.cell (by rw [hp, block_of_add]; exact hba))
        replace cu2 := cu2.keep (w' := wr) (fun p hp => HW.out.cell (by rw [hp, block_of_add]; exact hbb))
        have hok := OX.out _ (List.getElem_mem hlt)
        have hok2 := OY.out _ (List.getElem_mem hlt2)
        have HST : Hid (xs.take (k + 1) = xs.take k ++ [xs[k]] ∧ ys.take (k + 1) = ys.take k ++ [ys[k]]) := Lib.hid ⟨take_snoc hlt, take_snoc hlt2⟩
        have HNE : Hid (¬ xs[k] = ys[k] → r = false) := Lib.hid (fun h => by
          rcases bool_cases HR.out with ⟨e, _⟩ | ⟨_, e⟩
          · exact absurd e (ne_at hlt hlt2 h)
          · exact e)
        generalize hx1 : xs[k] = x at *
        generalize hx2 : ys[k] = y at *
        clear hx1 hx2
        obtain ⟨n, t, l⟩ := x
        obtain ⟨m, s, j⟩ := y
        obtain ⟨vl, rfl, al⟩ := at_ecells au
        obtain ⟨vj, rfl, aj⟩ := at_ecells au2
        obtain ⟨X, z, rfl, _, _, hrl⟩ := at_nums al
        obtain ⟨Y, z2, rfl, _, _, hrj⟩ := at_nums aj
        obtain ⟨a0, a1, a2⟩ := three cu
        obtain ⟨b0, b1, b2⟩ := three cu2
        have HC : Hid (∀ (q : Bool) (W : World), (q = true ↔ l = j) → Below w.heap.size w W → Calls Tryz.prog 52 #[.slice X l.length z, .slice Y j.length z2] W (AnsB q W)) := Lib.hid (fun q W hq hW =>
          int64s_any X Y z z2 l j W ((hrl.below hW).more hW.size) ((hrj.below hW).more hW.size) hok.nums.1 hok2.nums.1 q hq)
        clear cu cu2 au au2 lu lu2 al aj hrl hrj hok hok2
        have HD := Lib.hid (ediff ⟨n, t, l⟩ ⟨m, s, j⟩)
        rcases HD.out with hd | ⟨hd1, hd⟩ | ⟨hd1, hd2, hd⟩ | hd
        · have HF := Lib.hid (HNE.out (fun e => hd (by injection e)))
          obtain ⟨hn1, hn2⟩ := bne_str hd
          clear hd HD HNE
          go_wp2_with fail
          go_quiet (fail)
          go_wp2_with fail
          go_ret
          rw [HF.out]
          exact ⟨rfl, HW.out.trans ⟨rfl, rfl, rfl, Nat.le_refl _, fun _ _ => rfl⟩⟩
        · obtain ⟨hn1, hn2⟩ := bne_str hd
          dsimp only at hd1
          subst hd1
          have HF := Lib.hid (HNE.out (fun e => hd (by injection e)))
          clear hd HD HNE
          go_wp2_with fail
          go_quiet (fail)
          go_wp2_with fail
          go_ret
          rw [HF.out]
          exact ⟨rfl, HW.out.trans ⟨rfl, rfl, rfl, Nat.le_refl _, fun _ _ => rfl⟩⟩
        · have HF := Lib.hid (HNE.out (fun e => hd (by injection e)))
          have HCF := Lib.hid (fun W hW => HC.out false W (by simpa using hd) hW)
          dsimp only at hd1 hd2
          subst hd1 hd2
          clear hd HD HNE HC
          go_upto_region 6 with fail
          have hBW : Below w.heap.size w ({ wr with drawn := wr.drawn + 1 } : World) := HW.out.trans ⟨rfl, rfl, rfl, Nat.le_refl _, fun _ _ => rfl⟩
          change ({ wr with drawn := wr.drawn + 1 } : World).cell? _ = _ at a0 a1 a2 b0 b1 b2
          refine wp_region_still_tail 35 (by kernel_rfl) (by kernel_rfl) ?_
          simp only [List.take_succ_cons, List.take_zero, List.drop_succ_cons, List.drop_zero]
          clear HW
          generalize ({ wr with drawn := wr.drawn + 1 } : World) = W at *
          repeat still_step
          refine wpStill_nil ?_
          change wpList _ _ _ _ _ _
          have HBW := Lib.hid hBW; clear hBW
          clear a0 a1 a2 b0 b1 b2
          go_wp2_with fail
          refine (HCF.out _ HBW.out).mono ?_
          rintro e W2 ⟨rfl, bW⟩
          have BW := Lib.hid (HBW.out.trans (bW.mono HBW.out.size))
          clear bW
          go_wp2_with fail
          go_ret
          rw [HF.out]
          exact ⟨rfl, BW.out⟩
        · have HCT := Lib.hid (fun W hW => HC.out true W (by injection hd with _ _ h3; simpa using h3) hW)
          have HQ := Lib.hid hd
          injection hd with h1 h2 h3
          subst h1 h2 h3
          clear HD HNE HC
          go_upto_region 6 with fail
          have hBW : Below w.heap.size w ({ wr with drawn := wr.drawn + 1 } : World) := HW.out.trans ⟨rfl, rfl, rfl, Nat.le_refl _, fun _ _ => rfl⟩
          change ({ wr with drawn := wr.drawn + 1 } : World).cell? _ = _ at a0 a1 a2 b0 b1 b2
          refine wp_region_still_tail 35 (by kernel_rfl) (by kernel_rfl) ?_
          simp only [List.take_succ_cons, List.take_zero, List.drop_succ_cons, List.drop_zero]
          clear HW
          generalize ({ wr with drawn := wr.drawn + 1 } : World) = W at *
          repeat still_step
          refine wpStill_nil ?_
          change wpList _ _ _ _ _ _
          have HBW := Lib.hid hBW; clear hBW
          clear a0 a1 a2 b0 b1 b2
          go_wp2_with fail
          refine (HCT.out _ HBW.out).mono ?_
          rintro e W2 ⟨rfl, bW⟩
          have BW := Lib.hid (HBW.out.trans (bW.mono HBW.out.size))
          clear bW
          go_wp2_with fail
          go_roundw
          case rel => exact ⟨k + 1, by omega, by go_num, Lib.hid (by rw [HST.out.1, HST.out.2, HE.out]), BW⟩
          case measure => simp [intOf]; omega
      · obtain rfl : k = xs.length := by omega
        have HT : Hid (r = true) := Lib.hid (HR.out.2 (take_all HE.out HL.out))
        go_wp2_with fail
        go_ret
        rw [HT.out]
        exact ⟨rfl, HW.out⟩
  · have hbne : ((xs.length : Int) != (ys.length : Int)) = true := by rw [bne_iff_ne]; omega
    have HF : Hid (r = false) := Lib.hid (by
      rcases bool_cases HR.out with ⟨e, _⟩ | ⟨_, e⟩
      · exact absurd (by rw [e]) hl
      · exact e)
    clear hl
    go_enter Tryz.func36, Tryz.ntmps36
    go_wp2_with fail
    go_ret
    rw [HF.out]
    exact ⟨rfl, Below.refl _ _⟩

theorem blk7 {w : World} {g : Nat} {t : TypeId} {v0 v1 v2 v3 v4 v5 v6 : Value} (h : Blk w g t #[v0, v1, v2, v3, v4, v5, v6]) :
    w.cell? ⟨g, 0, none⟩ = some v0 ∧ w.cell? ⟨g, 1, none⟩ = some v1 ∧ w.cell? ⟨g, 2, none⟩ = some v2 ∧ w.cell? ⟨g, 3, none⟩ = some v3 ∧ w.cell? ⟨g, 4, none⟩ = some v4 ∧ w.cell? ⟨g, 5, none⟩ = some v5 ∧ w.cell? ⟨g, 6, none⟩ = some v6 :=
  ⟨h.cell 0, h.cell 1, h.cell 2, h.cell 3, h.cell 4, h.cell 5, h.cell 6⟩
set_option maxRecDepth 100000 in
set_option maxHeartbeats 4000000 in
theorem kitSchema_same (v u : Value) (l : List FT) (w : World) (hv : T.At bare w (fun g => g < w.heap.size) (fieldsT l) v) (hu : T.At bare w (fun g => g < w.heap.size) (fieldsT l) u)
    (hx : l.length * 72 ≤ 140737488351232) (ox : ∀ f ∈ l, FOk f) :
    Calls Tryz.prog 39 #[.agg #[v], .agg #[u]] w (AnsB true w) := by
  obtain ⟨A, c, rfl, _, hmA, eA⟩ := at_row fcells_len hv
  obtain ⟨B, d, rfl, _, hmB, eB⟩ := at_row fcells_len hu
  have EA := Lib.hid eA; have EB := Lib.hid eB; have OX := Lib.hid ox
  clear eA eB hv hu ox
  go_enter Tryz.func39, Tryz.ntmps39
  have HB := Lib.hid (below2 (w := w) (.cells #[.slice A l.length c] 24) (.cells #[.slice B l.length d] 24))
  have BA := Lib.hid (blk_a w #[.slice A l.length c] #[.slice B l.length d] 24 24)
  have BB := Lib.hid (blk_b w #[.slice A l.length c] #[.slice B l.length d] 24 24)
  have hzW : ((w.alloc (Obj.cells #[.slice A l.length c] 24)).alloc (Obj.cells #[.slice B l.length d] 24)).heap.size = w.heap.size + 2 := by simp
  go_wp2_with fail
  generalize (w.alloc (Obj.cells #[.slice A l.length c] 24)).alloc (Obj.cells #[.slice B l.length d] 24) = W at *
  go_loopw [5] (fun i wr => ∃ (k : Nat), k ≤ l.length ∧ i = .int .i64 k ∧ Hid (Below W.heap.size W wr)) (fun i _ => l.length - (intOf i).toNat)
  case atStart => exact ⟨0, by omega, rfl, Lib.hid (Below.refl _ _)⟩
  case round =>
    obtain ⟨k, hk, rfl, HK⟩ := hrel
    have BA2 := Lib.hid (BA.out.below HK.out (by omega))
    have BB2 := Lib.hid (BB.out.below HK.out (by omega))
    have hcA : wr.cell? ⟨w.heap.size, 0, none⟩ = some (.slice A l.length c) := BA2.out.cell 0
    have hcB : wr.cell? ⟨w.heap.size + 1, 0, none⟩ = some (.slice B l.length d) := BB2.out.cell 0
    have hzr := HK.out.size
    have HW : Hid (Below w.heap.size w wr) := Lib.hid (HB.out.trans (HK.out.mono HB.out.size))
    by_cases hlt : k < l.length
    · obtain ⟨ad, us, rfl, hba, au, lu, cu⟩ := EA.out k hlt
      obtain ⟨bd, us2, rfl, hbb, au2, lu2, cu2⟩ := EB.out k hlt
      replace cu := cu.keep (w' := wr) (fun p hp => HW.out.cell (by rw [hp, block_of_add]; exact hba))
      replace cu2 := cu2.keep (w' := wr) (fun p hp => HW.out.cell (by rw [hp, block_of_add]; exact hbb))
      have hbd : (bd.add (k * 7)).block < wr.heap.size := by rw [block_of_add]; omega
      have hw1 : w.heap.size + 1 < wr.heap.size := by omega
      have hok := OX.out _ (List.getElem_mem hlt)
      generalize hx1 : l[k] = f at *
      clear hx1
      obtain ⟨vl, rfl, al⟩ := at_fcells au
      obtain ⟨vj, rfl, aj⟩ := at_fcells au2
      obtain ⟨X, z, rfl, _, _, hrl⟩ := at_nums al
      obtain ⟨Y, z2, rfl, _, _, hrj⟩ := at_nums aj
      obtain ⟨a0, a1, a2, a3, a4, a5, a6⟩ := seven cu
      obtain ⟨b0, b1, b2, b3, b4, b5, b6⟩ := seven cu2
      have HC : Hid (∀ (W : World), Below w.heap.size w W → Calls Tryz.prog 70 #[.slice X f.chain.length z, .slice Y f.chain.length z2] W (AnsB true W)) := Lib.hid (fun W hW =>
        ints_any X Y z z2 _ _ W ((hrl.below hW).more hW.size) ((hrj.below hW).more hW.size) hok.chain.1 hok.chain.1 true (by simp))
      clear cu cu2 au au2 lu lu2 al aj hrl hrj hok
      obtain ⟨f0, f1, f2, f3, f4, f5, f6⟩ := f
      go_wp2_with fail
      refine (HC.out _ (HW.out.trans ((below2 _ _).mono HW.out.size))).mono ?_
      rintro e W0 ⟨rfl, b0'⟩
      have HB0 := Lib.hid ((below2 _ _).trans (b0'.mono (by simp; omega)) : Below wr.heap.size wr W0)
      have BA0 := Lib.hid ((blk_a _ _ _ _ _).below b0' (by simp; omega))
      have BB0 := Lib.hid ((blk_b _ _ _ _ _).below b0' (by simp))
      clear b0' a0 a1 a2 a3 a4 a5 a6 b0 b1 b2 b3 b4 b5 b6 hcA hcB
      obtain ⟨p0, p1, p2, p3, p4, p5, p6⟩ := blk7 BA0.out
      obtain ⟨q0, q1, q2, q3, q4, q5, q6⟩ := blk7 BB0.out
      go_wp2_with fail
      go_roundw
      case rel => exact ⟨k + 1, by omega, by go_num, Lib.hid (HK.out.trans (HB0.out.mono HK.out.size))⟩
      case measure => simp [intOf]; omega
    · obtain rfl : k = l.length := by omega
      go_wp2_with fail
      go_ret
      exact ⟨rfl, HW.out⟩
end Go.Proofs.YtfckomjbgopmaaaGreatDoor.Sch
end
