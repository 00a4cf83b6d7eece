/- Contracts: a sort key's field among others: asker.sort$1, slices.ContainsFunc over it. Contract: slices.ContainsFunc over sort keys. Contracts: an aggregation's name among others: asker.agg$1, slices.ContainsFunc over it. Contract: asker.sort. -/
import Derived.Test.YtinmiekbhoemjaaGreatDoorPack14
import Derived.Deep.CutRange
section
set_option linter.unusedVariables false
namespace Go.Proofs.YtinmiekbhoemjaaGreatDoor.Qck
open Go.RowKit Words Tree SchP QckP Kit Owned Sch
set_option maxRecDepth 100000 in
theorem sort1_any (k : SortT) (s : ByteArray) (g : Nat) (w : World) (hg : w.cell? ⟨g, 0, none⟩ = some (.string s)) (hgl : g < w.heap.size) :
    Calls Tryz.prog 34 #[.agg #[.string k.field, .bool k.down, .bool k.first], .pointer (some ⟨g, 0, none⟩)] w (AnsB (decide (k.field = s)) w) := by
  have hne : g ≠ w.heap.size := by omega
  rcases str_cases k.field s with ⟨h1, h2⟩ | ⟨h1, h2⟩
  · have HD : Hid (decide (k.field = s) = true) := Lib.hid (decide_eq_true h1)
    clear h1
    go_enter Tryz.func34, Tryz.ntmps34
    go_wp2_with fail
    go_ret
    rw [HD.out]; exact ⟨rfl, (Below.refl _ w).alloc (Nat.le_refl _) _⟩
  · have HD : Hid (decide (k.field = s) = false) := Lib.hid (decide_eq_false h1)
    clear h1
    go_enter Tryz.func34, Tryz.ntmps34
    go_wp2_with fail
    go_ret
    rw [HD.out]; exact ⟨rfl, (Below.refl _ w).alloc (Nat.le_refl _) _⟩
/-- Sort keys in memory. -/
def SKeys (w : World) (B : Nat) (A : Option Addr) (l : List SortT) : Prop := ∀ (i : Nat) (hi : i < l.length), ∃ ad, A = some ad ∧ ad.block < B ∧ Cells w (ad.add (i * 3)) [.string l[i].field, .bool l[i].down, .bool l[i].first]
set_option maxRecDepth 100000 in
set_option maxHeartbeats 2000000 in
theorem sortIdx_any (A : Option Addr) (cap : Nat) (l : List SortT) (s : ByteArray) (g : Nat) (w : World) (hu : SKeys w w.heap.size A l) (hl : l.length * 24 ≤ 140737488351232) (hg : w.cell? ⟨g, 0, none⟩ = some (.string s)) (hgl : g < w.heap.size) :
    Calls Tryz.prog 52 #[.slice A l.length cap, .func (.func 34) #[] #[.pointer (some ⟨g, 0, none⟩)]] w (fun e w' => ∃ z : Int, e = .returned (.int .i64 z) ∧ (decide (0 ≤ z) = l.any fun b => decide (b.field = s)) ∧ Below w.heap.size w w') := by
  have EL := Lib.hid hu
  have HG : Hid (∀ W, Below w.heap.size w W → W.cell? ⟨g, 0, none⟩ = some (.string s)) := Lib.hid (fun W hW => (hW.cell (p := ⟨g, 0, none⟩) hgl).trans hg)
  clear hu hg
  obtain ⟨r, hr⟩ : ∃ r, (l.any fun b => decide (b.field = s)) = r := ⟨_, rfl⟩
  rw [hr]
  have HR : Hid (((l.drop 0).any fun b => decide (b.field = s)) = r) := Lib.hid hr
  clear hr
  go_enter Tryz.func52, Tryz.ntmps52
  go_wp2_with fail
  go_loopw [5, 8] (fun _ i wr => ∃ k : Nat, k ≤ l.length ∧ i = .int .i64 k ∧ Hid (((l.drop k).any fun b => decide (b.field = s)) = r) ∧ Hid (Below w.heap.size w wr)) (fun _ i _ => l.length - (RowKit.intOf i).toNat)
  case atStart => exact ⟨0, by omega, rfl, HR, Lib.hid (Below.refl _ _)⟩
  case round =>
    obtain ⟨k, hk, rfl, HE, HB⟩ := hrel
    by_cases hlt : k < l.length
    · obtain ⟨ad, rfl, hba, cu⟩ := EL.out k hlt
      replace cu := cu.keep (w' := wr) (fun p hp => HB.out.cell (by rw [hp, block_of_add]; exact hba))
      have hab : (ad.add (k * 3)).block < wr.heap.size := by rw [block_of_add]; have := HB.out.size; omega
      have HD : Hid ((decide (l[k].field = s) || ((l.drop (k + 1)).any fun b => decide (b.field = s))) = r) := Lib.hid (by rw [← HE.out, List.drop_eq_getElem_cons hlt, List.any_cons])
      generalize l[k] = f at *
      have a0 := cu.zero
      have a1 := cu.at_ 1 _ rfl (by omega)
      have a2 := cu.at_ 2 _ rfl (by omega)
      clear cu
      have HC := Lib.hid (fun (W : World) (hW : Below w.heap.size w W) => sort1_any f s g W (HG.out W hW) (Nat.lt_of_lt_of_le hgl hW.size))
      go_wp2_with fail
      refine (HC.out wr HB.out).mono ?_
      rintro e w2 ⟨rfl, b2⟩
      have HB2 := Lib.hid (HB.out.trans (b2.mono HB.out.size))
      clear a0 a1 a2 b2 hab
      generalize decide (f.field = s) = d at *
      cases d with
      | true =>
        have HN : Hid (r = true) := Lib.hid (by rw [← HD.out, Bool.true_or])
        go_wp2_with fail
        go_ret
        exact ⟨k, rfl, by rw [HN.out]; exact decide_eq_true (by omega), HB2.out⟩
      | false =>
        have HE2 : Hid (((l.drop (k + 1)).any fun b => decide (b.field = s)) = r) := Lib.hid (by rw [← HD.out, Bool.false_or])
        go_wp2_with fail
        go_roundw
        case rel => exact ⟨k + 1, by omega, by go_num, HE2, HB2⟩
        case measure => simp [RowKit.intOf]; omega
    · obtain rfl : k = l.length := by omega
      have HN : Hid (r = false) := Lib.hid (by rw [← HE.out, List.drop_length]; rfl)
      go_wp2_with fail
      go_ret
      exact ⟨-1, rfl, by rw [HN.out]; rfl, HB.out⟩
end Go.Proofs.YtinmiekbhoemjaaGreatDoor.Qck
end
section
set_option linter.unusedVariables false
namespace Go.Proofs.YtinmiekbhoemjaaGreatDoor.Qck
open Go.RowKit Words Tree SchP QckP Kit Owned Sch
set_option maxRecDepth 100000 in
set_option maxHeartbeats 2000000 in
theorem sortHas_any (A : Option Addr) (cap : Nat) (l : List SortT) (s : ByteArray) (g : Nat) (w : World) (hu : SKeys w w.heap.size A l) (hl : l.length * 24 ≤ 140737488351232) (hg : w.cell? ⟨g, 0, none⟩ = some (.string s)) (hgl : g < w.heap.size) :
    Calls Tryz.prog 33 #[.slice A l.length cap, .func (.func 34) #[] #[.pointer (some ⟨g, 0, none⟩)]] w (AnsB (l.any fun b => decide (b.field = s)) w) := by
  have HI := Lib.hid (sortIdx_any A cap l s g w hu hl hg hgl)
  clear hu hg
  go_enter Tryz.func33, Tryz.ntmps33
  go_wp2_with fail
  refine HI.out.mono ?_
  rintro e w1 ⟨z, rfl, hz, hb⟩
  have HZ := Lib.hid hz
  have HB := Lib.hid hb
  clear hz hb
  by_cases h : 0 ≤ z
  · have hd : decide (0 ≤ z) = true := decide_eq_true h
    go_wp2_with fail
    go_ret
    exact ⟨by rw [← HZ.out, hd]; rfl, HB.out⟩
  · have hd : decide (0 ≤ z) = false := decide_eq_false h
    go_wp2_with fail
    go_ret
    exact ⟨by rw [← HZ.out, hd]; rfl, HB.out⟩
end Go.Proofs.YtinmiekbhoemjaaGreatDoor.Qck
end
section
set_option linter.unusedVariables false
namespace Go.Proofs.YtinmiekbhoemjaaGreatDoor.Qck
open Go.RowKit Words Tree SchP QckP Kit Owned Sch
/-- An aggregation's cells in memory. -/
theorem at_acells {sent : Nat → List (List Value)} {w : World} {S : Nat → Prop} {n : ByteArray} {k : Int} {f : ByteArray} {s : Int} {b : List Int} {t : Int} {ks : List AggT} {vs : List Value} (h : T.AtL sent w S (acells (.mk n k f s b t ks)) vs) :
    ∃ vb vk, vs = [.string n, .int .i64 k, .string f, .int .i64 s, vb, .int .i64 t, vk] ∧ T.At sent w S (numsT .i64 b) vb ∧ T.At sent w S (rowT 7 acells ks) vk := by
  rw [acells] at h
  obtain ⟨v0, r, rfl, h0, h⟩ := AtL.cons_ h
  obtain ⟨v1, r, rfl, h1, h⟩ := AtL.cons_ h
  obtain ⟨v2, r, rfl, h2, h⟩ := AtL.cons_ h
  obtain ⟨v3, r, rfl, h3, h⟩ := AtL.cons_ h
  obtain ⟨v4, r, rfl, h4, h⟩ := AtL.cons_ h
  obtain ⟨v5, r, rfl, h5, h⟩ := AtL.cons_ h
  obtain ⟨v6, r, rfl, h6, h⟩ := AtL.cons_ h
  obtain rfl := AtL.nil_ h
  simp only [T.At] at h0 h1 h2 h3 h5
  subst h0 h1 h2 h3 h5
  rw [acellsL_eq] at h6
  exact ⟨v4, v6, rfl, h4, h6⟩
set_option maxRecDepth 100000 in
theorem agg1_any (n : ByteArray) (k : Int) (f : ByteArray) (s : Int) (b : List Int) (B K : Option Addr) (cb nk ck : Nat) (t : Int) (nm : ByteArray) (g : Nat) (w : World) (hg : w.cell? ⟨g, 0, none⟩ = some (.string nm)) (hgl : g < w.heap.size) :
    Calls Tryz.prog 65 #[.agg #[.string n, .int .i64 k, .string f, .int .i64 s, .slice B b.length cb, .int .i64 t, .slice K nk ck], .pointer (some ⟨g, 0, none⟩)] w (AnsB (decide (n = nm)) w) := by
  have hne : g ≠ w.heap.size := by omega
  rcases str_cases n nm with ⟨h1, h2⟩ | ⟨h1, h2⟩
  · have HD : Hid (decide (n = nm) = true) := Lib.hid (decide_eq_true h1)
    clear h1
    go_enter Tryz.func65, Tryz.ntmps65
    go_wp2_with fail
    go_ret
    rw [HD.out]; exact ⟨rfl, (Below.refl _ w).alloc (Nat.le_refl _) _⟩
  · have HD : Hid (decide (n = nm) = false) := Lib.hid (decide_eq_false h1)
    clear h1
    go_enter Tryz.func65, Tryz.ntmps65
    go_wp2_with fail
    go_ret
    rw [HD.out]; exact ⟨rfl, (Below.refl _ w).alloc (Nat.le_refl _) _⟩
/-- Aggregations in memory. -/
def AKeys (w : World) (B : Nat) (A : Option Addr) (l : List AggT) : Prop := ∀ (i : Nat) (hi : i < l.length), ∃ ad us, A = some ad ∧ ad.block < B ∧ T.AtL bare w (fun g => g < B) (acells l[i]) us ∧ Cells w (ad.add (i * 7)) us
theorem AKeys.take {w : World} {B : Nat} {A : Option Addr} {l : List AggT} (h : AKeys w B A l) (n : Nat) : AKeys w B A (l.take n) := by
  intro i hi
  have hi' : i < l.length := by rw [List.length_take] at hi; omega
  obtain ⟨ad, us, h1, h2, h3, h4⟩ := h i hi'
  exact ⟨ad, us, h1, h2, by rw [List.getElem_take]; exact h3, h4⟩
theorem AKeys.below {w w' : World} {A : Option Addr} {l : List AggT} (h : AKeys w w.heap.size A l) (hb : Below w.heap.size w w') : AKeys w' w'.heap.size A l := by
  intro i hi
  obtain ⟨ad, us, h1, h2, h3, h4⟩ := h i hi
  exact ⟨ad, us, h1, Nat.lt_of_lt_of_le h2 hb.size, AtL.below h3 hb (fun g hg => Nat.lt_of_lt_of_le hg hb.size), h4.keep (fun p hp => hb.cell (by rw [hp, block_of_add]; exact h2))⟩
set_option maxRecDepth 100000 in
set_option maxHeartbeats 2000000 in
theorem aggIdx_any (A : Option Addr) (cap : Nat) (l : List AggT) (s : ByteArray) (g : Nat) (w : World) (hu : AKeys w w.heap.size A l) (hl : l.length * 104 ≤ 140737488351232) (hg : w.cell? ⟨g, 0, none⟩ = some (.string s)) (hgl : g < w.heap.size) :
    Calls Tryz.prog 77 #[.slice A l.length cap, .func (.func 65) #[] #[.pointer (some ⟨g, 0, none⟩)]] w (fun e w' => ∃ z : Int, e = .returned (.int .i64 z) ∧ (decide (0 ≤ z) = l.any fun b => decide (name_ b = s)) ∧ Below w.heap.size w w') := by
  have EL := Lib.hid hu
  have HG : Hid (∀ W, Below w.heap.size w W → W.cell? ⟨g, 0, none⟩ = some (.string s)) := Lib.hid (fun W hW => (hW.cell (p := ⟨g, 0, none⟩) hgl).trans hg)
  clear hu hg
  obtain ⟨r, hr⟩ : ∃ r, (l.any fun b => decide (name_ b = s)) = r := ⟨_, rfl⟩
  rw [hr]
  have HR : Hid (((l.drop 0).any fun b => decide (name_ b = s)) = r) := Lib.hid hr
  clear hr
  go_enter Tryz.func77, Tryz.ntmps77
  go_wp2_with fail
  go_loopw [5, 8] (fun _ i wr => ∃ k : Nat, k ≤ l.length ∧ i = .int .i64 k ∧ Hid (((l.drop k).any fun b => decide (name_ b = s)) = r) ∧ Hid (Below w.heap.size w wr)) (fun _ i _ => l.length - (RowKit.intOf i).toNat)
  case atStart => exact ⟨0, by omega, rfl, HR, Lib.hid (Below.refl _ _)⟩
  case round =>
    obtain ⟨k, hk, rfl, HE, HB⟩ := hrel
    by_cases hlt : k < l.length
    · obtain ⟨ad, us, rfl, hba, au, cu⟩ := EL.out k hlt
      replace cu := cu.keep (w' := wr) (fun p hp => HB.out.cell (by rw [hp, block_of_add]; exact hba))
      have hab : (ad.add (k * 7)).block < wr.heap.size := by rw [block_of_add]; have := HB.out.size; omega
      have HD : Hid ((decide (name_ l[k] = s) || ((l.drop (k + 1)).any fun b => decide (name_ b = s))) = r) := Lib.hid (by rw [← HE.out, List.drop_eq_getElem_cons hlt, List.any_cons])
      generalize l[k] = f at *
      obtain ⟨f0, f1, f2, f3, f4, f5, f6⟩ := f
      obtain ⟨vb, vk, rfl, hvb, hvk⟩ := at_acells au
      obtain ⟨XB, cb, rfl, _⟩ := at_slice hvb
      obtain ⟨XK, ck, rfl, _⟩ := at_slice hvk
      obtain ⟨a0, a1, a2, a3, a4, a5, a6⟩ := seven cu
      clear cu hvb hvk au
      have HC := Lib.hid (fun (W : World) (hW : Below w.heap.size w W) => agg1_any f0 f1 f2 f3 f4 XB XK cb f6.length ck f5 s g W (HG.out W hW) (Nat.lt_of_lt_of_le hgl hW.size))
      replace HD : Hid ((decide (f0 = s) || ((l.drop (k + 1)).any fun b => decide (name_ b = s))) = r) := HD
      go_wp2_with fail
      refine (HC.out wr HB.out).mono ?_
      rintro e w2 ⟨rfl, b2⟩
      have HB2 := Lib.hid (HB.out.trans (b2.mono HB.out.size))
      clear a0 a1 a2 a3 a4 a5 a6 b2 hab
      generalize decide (f0 = s) = d at *
      cases d with
      | true =>
        have HN : Hid (r = true) := Lib.hid (by rw [← HD.out, Bool.true_or])
        go_wp2_with fail
        go_ret
        exact ⟨k, rfl, by rw [HN.out]; exact decide_eq_true (by omega), HB2.out⟩
      | false =>
        have HE2 : Hid (((l.drop (k + 1)).any fun b => decide (name_ b = s)) = r) := Lib.hid (by rw [← HD.out, Bool.false_or])
        go_wp2_with fail
        go_roundw
        case rel => exact ⟨k + 1, by omega, by go_num, HE2, HB2⟩
        case measure => simp [RowKit.intOf]; omega
    · obtain rfl : k = l.length := by omega
      have HN : Hid (r = false) := Lib.hid (by rw [← HE.out, List.drop_length]; rfl)
      go_wp2_with fail
      go_ret
      exact ⟨-1, rfl, by rw [HN.out]; rfl, HB.out⟩
set_option maxRecDepth 100000 in
set_option maxHeartbeats 2000000 in
theorem aggHas_any (A : Option Addr) (cap : Nat) (l : List AggT) (s : ByteArray) (g : Nat) (w : World) (hu : AKeys w w.heap.size A l) (hl : l.length * 104 ≤ 140737488351232) (hg : w.cell? ⟨g, 0, none⟩ = some (.string s)) (hgl : g < w.heap.size) :
    Calls Tryz.prog 64 #[.slice A l.length cap, .func (.func 65) #[] #[.pointer (some ⟨g, 0, none⟩)]] w (AnsB (l.any fun b => decide (name_ b = s)) w) := by
  have HI := Lib.hid (aggIdx_any A cap l s g w hu hl hg hgl)
  clear hu hg
  generalize (l.any fun b => decide (name_ b = s)) = r at *
  go_enter Tryz.func64, Tryz.ntmps64
  go_wp2_with fail
  refine HI.out.mono ?_
  rintro e w1 ⟨z, rfl, hz, hb⟩
  have HZ := Lib.hid hz
  have HB := Lib.hid hb
  clear hz hb
  by_cases h : 0 ≤ z
  · have hd : decide (0 ≤ z) = true := decide_eq_true h
    go_wp2_with fail
    go_ret
    exact ⟨by rw [← HZ.out, hd]; rfl, HB.out⟩
  · have hd : decide (0 ≤ z) = false := decide_eq_false h
    go_wp2_with fail
    go_ret
    exact ⟨by rw [← HZ.out, hd]; rfl, HB.out⟩
end Go.Proofs.YtinmiekbhoemjaaGreatDoor.Qck
end
section
set_option linter.unusedVariables false
namespace Go.Proofs.YtinmiekbhoemjaaGreatDoor.Qck
open Go.RowKit Words Tree SchP QckP Kit Owned Sch Qry
def sortA (l : List FT) (s : ByteArray) : Int := if s.size = 0 ∨ s = ⟨#[35]⟩ then 0 else if (fieldG l s).2 = 0 then (if (fieldG l s).1.kind = 1 ∨ (fieldG l s).1.kind = 5 then 183 else 0) else (fieldG l s).2
theorem sortO_eq (l : List FT) (k : SortT) (b : List SortT) : sortO l k b = orE (sortA l k.field) (if b.any fun b => decide (b.field = k.field) then 183 else 0) := by
  rw [sortO, sortA, fieldG]
  cases fieldF l k.field <;> simp
theorem firstE_step (f : Nat → Int) (k n : Nat) (h : k < n) : firstE f k (n - k) = orE (f k) (firstE f (k + 1) (n - (k + 1))) := by
  rw [show n - k = (n - (k + 1)) + 1 by omega, firstE]
theorem scells_len (k : SortT) : (scells k).length = 3 := rfl
theorem empty_cases (s : ByteArray) : s = ⟨#[]⟩ ∨ ((s.toList == (⟨#[]⟩ : ByteArray).toList) = false ∧ ¬ s.toList = [] ∧ (s.toList == []) = false ∧ ¬ s = ⟨#[]⟩ ∧ ¬ s.size = 0) := by
  by_cases h0 : s.size = 0
  · exact .inl (toList_nil h0)
  · refine .inr ⟨?_, fun e => h0 (size_nil.1 e), by rw [beq_eq_false_iff_ne]; exact fun e => h0 (size_nil.1 e), fun e => h0 (by rw [e]; rfl), h0⟩
    rcases str_cases s ⟨#[]⟩ with ⟨e, _⟩ | ⟨_, e⟩
    · exact absurd (by rw [e]; rfl) h0
    · exact e
theorem SKeys.take {w : World} {B : Nat} {A : Option Addr} {l : List SortT} (h : SKeys w B A l) (n : Nat) : SKeys w B A (l.take n) := by
  intro i hi
  have hi' : i < l.length := by rw [List.length_take] at hi; omega
  obtain ⟨ad, h1, h2, h3⟩ := h i hi'
  exact ⟨ad, h1, h2, by rw [List.getElem_take]; exact h3⟩
theorem SKeys.below {w w' : World} {A : Option Addr} {l : List SortT} (h : SKeys w w.heap.size A l) (hb : Below w.heap.size w w') : SKeys w' w'.heap.size A l := by
  intro i hi
  obtain ⟨ad, h1, h2, h4⟩ := h i hi
  exact ⟨ad, h1, Nat.lt_of_lt_of_le h2 hb.size, h4.keep (fun p hp => hb.cell (by rw [hp, block_of_add]; exact h2))⟩
theorem at_scells {sent : Nat → List (List Value)} {w : World} {S : Nat → Prop} {k : SortT} {vs : List Value} (h : T.AtL sent w S (scells k) vs) : vs = [.string k.field, .bool k.down, .bool k.first] := by
  rw [scells] at h
  obtain ⟨v0, r, rfl, h0, h⟩ := AtL.cons_ h
  obtain ⟨v1, r, rfl, h1, h⟩ := AtL.cons_ h
  obtain ⟨v2, r, rfl, h2, h⟩ := AtL.cons_ h
  obtain rfl := AtL.nil_ h
  simp only [T.At] at h0 h1 h2
  subst h0 h1 h2
  rfl
theorem skeys_of {w : World} {ks : List SortT} {v : Value} (h : T.At bare w (fun g => g < w.heap.size) (rowT 3 scells ks) v) : ∃ A cap, v = .slice A ks.length cap ∧ ks.length ≤ cap ∧ cap ≤ maxLen ∧ SKeys w w.heap.size A ks := by
  obtain ⟨A, cap, rfl, hc, hm, hel⟩ := at_row scells_len h
  refine ⟨A, cap, rfl, by simpa [bare] using hc, hm, fun i hi => ?_⟩
  obtain ⟨ad, us, e, hb, au, lu, cu⟩ := hel i hi
  obtain rfl := at_scells au
  exact ⟨ad, e, hb, cu⟩
set_option maxRecDepth 100000 in
set_option maxHeartbeats 4000000 in
theorem sort_any (ga : Nat) (l : List FT) (ks : List SortT) (u : Value) (w : World) (h : Sk w ga l) (hc : w.cell? ⟨ga, 11, none⟩ = some u) (hu : T.At bare w (fun g => g < w.heap.size) (rowT 3 scells ks) u) (hl : ks.length * 24 ≤ 140737488351232) :
    Calls Tryz.prog 14 #[.pointer (some ⟨ga, 0, none⟩)] w (Sch.IntB (sortF l ks) w) := by
  have HS := Lib.hid h
  have hga := h.1
  clear h
  obtain ⟨A, cap, rfl, hcp, hm, hel⟩ := skeys_of hu
  have EL := Lib.hid hel
  clear hu
  by_cases h4 : 4 < ks.length
  · have hd4 : decide ((4 : Int) < (ks.length : Int)) = true := decide_eq_true (by omega)
    have HR : Hid (sortF l ks = 183) := Lib.hid (by rw [sortF, if_pos h4])
    clear h4 hel
    go_enter Tryz.func14, Tryz.ntmps14
    go_wp2_with fail
    go_ret
    exact ⟨by rw [HR.out]; rfl, Below.refl _ w⟩
  have hd4 : decide ((4 : Int) < (ks.length : Int)) = false := decide_eq_false (by omega)
  obtain ⟨F, hF⟩ : ∃ F : Nat → Int, F = fun i => match ks[i]? with
    | none => 0
    | some k => sortO l k (ks.take i) := ⟨_, rfl⟩
  obtain ⟨r, hr⟩ : ∃ r, sortF l ks = r := ⟨_, rfl⟩
  have HR : Hid (firstE F 0 (ks.length - 0) = r) := Lib.hid (by rw [← hr, sortF, if_neg h4, hF]; rfl)
  have HFF := Lib.hid hF
  rw [hr]
  have HF := Lib.hid (fun (s : ByteArray) (W : World) (hW : Below w.heap.size w W) => field_any ga l s W (HS.out.below hW))
  have HC11 : Hid (∀ W, Below w.heap.size w W → W.cell? ⟨ga, 11, none⟩ = some (.slice A ks.length cap)) := Lib.hid (fun W hW => (hW.cell (p := ⟨ga, 11, none⟩) hga).trans hc)
  clear hel hr hF
  go_enter Tryz.func14, Tryz.ntmps14
  go_wp2_with fail
  go_loopw [20] (fun i wr => ∃ k : Nat, k ≤ ks.length ∧ i = .int .i64 k ∧ Hid (firstE F k (ks.length - k) = r) ∧ Hid (Below w.heap.size w wr)) (fun i _ => ks.length - (intOf i).toNat)
  case atStart => exact ⟨0, by omega, rfl, HR, Lib.hid (Below.refl _ _)⟩
  case round =>
    obtain ⟨k, hkk, rfl, HK, HW⟩ := hrel
    by_cases hlt : k < ks.length
    · obtain ⟨ad, rfl, hba, cu⟩ := EL.out k hlt
      replace cu := cu.keep (w' := wr) (fun p hp => HW.out.cell (by rw [hp, block_of_add]; exact hba))
      have hab : (ad.add (k * 3)).block < wr.heap.size := by rw [block_of_add]; have := HW.out.size; omega
      have HD := Lib.hid ((firstE_step F k ks.length hlt).symm.trans HK.out)
      have HFk : Hid (F k = orE (sortA l ks[k].field) (if (ks.take k).any (fun b => decide (b.field = ks[k].field)) then 183 else 0)) := Lib.hid (by rw [HFF.out]; simp only [List.getElem?_eq_getElem hlt]; rw [sortO_eq])
      generalize ks[k] = q at *
      obtain ⟨f, d, fi⟩ := q
      dsimp only at *
      have a0 := cu.zero
      have a1 := cu.at_ 1 _ rfl (by omega)
      have a2 := cu.at_ 2 _ rfl (by omega)
      clear cu
      have hcp2 : (k : Int) ≤ (cap : Int) := by omega
      have hk0 : (0 : Int) ≤ (k : Int) := by omega
      go_upto_region 6 with fail
      have HB6 := Lib.hid (HW.out.alloc HW.out.size (Obj.cells #[.string f, .bool d, .bool fi] 73))
      have BK := Lib.hid (Blk.new wr 73 #[.string f, .bool d, .bool fi])
      have hWz : (wr.alloc (Obj.cells #[.string f, .bool d, .bool fi] 73)).heap.size = wr.heap.size + 1 := by simp
      have hgk : w.heap.size ≤ wr.heap.size := HW.out.size
      generalize wr.alloc (Obj.cells #[.string f, .bool d, .bool fi] 73) = W at *
      generalize hgb : wr.heap.size = gk at *
      clear a0 a1 a2 hgb HW
      have c0 : W.cell? ⟨gk, 0, none⟩ = some (.string f) := BK.out.cell 0
      have HG := Lib.hid (fieldG_two l f)
      obtain ⟨bn, hbn⟩ : ∃ bn : Bool, bn = !(decide (f.size = 0) || decide (f = ⟨#[35]⟩)) := ⟨_, rfl⟩
      have HBN := Lib.hid hbn
      clear hbn
      go_cut [20, 32] from 20 to 60 (fun i c wx => i = .int .i64 k ∧ c = .bool bn ∧ wx = W)
      case first =>
        rcases empty_cases f with rfl | ⟨hne, hn2, hn3, hn4, hn5⟩
        · obtain rfl : bn = false := by rw [HBN.out]; rfl
          go_wp2_with fail
          go_meet
          exact ⟨rfl, rfl, rfl⟩
        · rcases str_cases f ⟨#[35]⟩ with ⟨h1, h2⟩ | ⟨h1, h2⟩
          · subst h1
            obtain rfl : bn = false := by rw [HBN.out]; rfl
            go_wp2_with fail
            go_meet
            exact ⟨rfl, rfl, rfl⟩
          · obtain rfl : bn = true := by rw [HBN.out, decide_eq_false hn5, decide_eq_false h1]; rfl
            have h3 : (f.toList == [(35 : UInt8)]) = false := by rwa [show (⟨#[35]⟩ : ByteArray).toList = [35] from by rw [ByteArray.toList_eq]] at h2
            clear hn5
            go_wp2_with fail
            go_meet
            exact ⟨rfl, rfl, rfl⟩
      case rest =>
      obtain ⟨rfl, rfl, rfl⟩ := hcut
      go_upto_if 32 with fail
      go_cut [5, 6, 20] from 20 to 60 (fun _ _ i wx => i = .int .i64 k ∧ Hid (Below w.heap.size w wx) ∧ Hid (Blk wx gk 73 #[.string f, .bool d, .bool fi]) ∧ Hid (sortA l f = 0))
      case first =>
        cases bn with
        | false =>
          have HZ : Hid (sortA l f = 0) := Lib.hid (by
            have := HBN.out
            rw [sortA, if_pos]
            by_cases h1 : f.size = 0
            · exact .inl h1
            · refine .inr ?_
              by_cases h2 : f = ⟨#[35]⟩
              · exact h2
              · rw [decide_eq_false h1, decide_eq_false h2] at this; cases this)
          go_wp2_with fail
          go_meet
          exact ⟨rfl, HB6, BK, HZ⟩
        | true =>
          have HZ : Hid (sortA l f = if (fieldG l f).2 = 0 then (if (fieldG l f).1.kind = 1 ∨ (fieldG l f).1.kind = 5 then 183 else 0) else (fieldG l f).2) := Lib.hid (by
            have := HBN.out
            rw [sortA, if_neg]
            rintro (h1 | h1)
            · rw [decide_eq_true h1] at this; cases this
            · rw [decide_eq_true h1] at this; simp at this)
          go_wp2_with fail
          refine (HF.out f _ HB6.out).mono ?_
          rintro e w1 ⟨vs, rfl, hb, hat⟩
          generalize fieldG l f = fe at *
          obtain ⟨⟨f0, f1, f2, f3, f4, f5, f6⟩, n⟩ := fe
          obtain ⟨vc, rfl, gc⟩ := at_fcells hat
          obtain ⟨X, z, rfl, _, _⟩ := at_slice gc
          dsimp only at *
          have HB1 := Lib.hid (HB6.out.trans (hb.mono HB6.out.size))
          have BK1 := Lib.hid (BK.out.below hb BK.out.lt)
          clear hb hat gc c0
          rcases HG.out with h1 | h1
          · subst h1
            rcases (show f1 = 1 ∨ f1 = 5 ∨ (¬ f1 = 1 ∧ ¬ f1 = 5) by omega) with rfl | rfl | ⟨g1, g5⟩
            · have HY : Hid (r = 183) := Lib.hid (by rw [← HD.out, HFk.out, HZ.out]; rfl)
              go_wp2_with fail
              go_ret
              rw [HY.out]
              exact ⟨rfl, HB1.out.alloc HB1.out.size _⟩
            · have HY : Hid (r = 183) := Lib.hid (by rw [← HD.out, HFk.out, HZ.out]; rfl)
              go_wp2_with fail
              go_ret
              rw [HY.out]
              exact ⟨rfl, HB1.out.alloc HB1.out.size _⟩
            · have k1 : (f1 == (1 : Int)) = false := by rw [beq_eq_false_iff_ne]; exact g1
              have k5 : (f1 == (5 : Int)) = false := by rw [beq_eq_false_iff_ne]; exact g5
              have HY : Hid (sortA l f = 0) := Lib.hid (by rw [HZ.out]; simp [g1, g5])
              clear g1 g5
              go_wp2_with fail
              go_meet
              exact ⟨rfl, Lib.hid (HB1.out.alloc HB1.out.size _), Lib.hid (BK1.out.alloc _), HY⟩
          · subst h1
            have HY : Hid (r = 81) := Lib.hid (by rw [← HD.out, HFk.out, HZ.out]; rfl)
            go_wp2_with fail
            go_ret
            rw [HY.out]
            exact ⟨rfl, HB1.out.alloc HB1.out.size _⟩
      case rest =>
        obtain ⟨rfl, HBc, BKc, HA0⟩ := hcut
        have hlk : (ks.take k).length = k := by rw [List.length_take]; omega
        have c11 := HC11.out wc HBc.out
        have HCF : Hid (Calls Tryz.prog 33 #[.slice (some ad) k cap, .func (.func 34) #[] #[.pointer (some ⟨gk, 0, none⟩)]] wc (AnsB ((ks.take k).any fun b => decide (b.field = f)) wc)) := Lib.hid (by
          have := sortHas_any (some ad) cap (ks.take k) f gk wc ((EL.out.below HBc.out).take k) (by rw [hlk]; omega) (BKc.out.cell 0) BKc.out.lt
          rw [hlk] at this
          exact this)
        have HD2 : Hid (orE (if ((ks.take k).any fun b => decide (b.field = f)) = true then 183 else 0) (firstE F (k + 1) (ks.length - (k + 1))) = r) := Lib.hid (by
          rw [← HD.out, HFk.out, HA0.out]; rfl)
        clear HD HFk hlk c0
        generalize ((ks.take k).any fun b => decide (b.field = f)) = bt at *
        have hmf : ∀ (fn : Fn) (first cap : Array Value) (w : World), (Instr.makeFunc fn first cap).run Tryz.prog w = .ok (.func fn first cap) w := fun _ _ _ _ => rfl
        go_wp2_with fail
        refine HCF.out.mono ?_
        rintro e w1 ⟨rfl, hb⟩
        have HB1 := Lib.hid (HBc.out.trans (hb.mono HBc.out.size))
        clear hb c11
        cases bt with
        | true =>
          have HY : Hid (r = 183) := Lib.hid (HD2.out.symm)
          go_wp2_with fail
          go_ret
          rw [HY.out]
          exact ⟨rfl, HB1.out⟩
        | false =>
          have HY : Hid (firstE F (k + 1) (ks.length - (k + 1)) = r) := Lib.hid (HD2.out)
          go_wp2_with fail
          go_roundw
          case rel => exact ⟨k + 1, by omega, by go_num, HY, HB1⟩
          case measure => simp [intOf]; omega
    · obtain rfl : k = ks.length := by omega
      have HZ : Hid (r = 0) := Lib.hid (by rw [← HK.out, Nat.sub_self, firstE])
      go_wp2_with fail
      go_ret
      rw [HZ.out]
      exact ⟨rfl, HW.out⟩
end Go.Proofs.YtinmiekbhoemjaaGreatDoor.Qck
end
