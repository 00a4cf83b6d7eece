/- Contracts: entries and a document that are lent. Contracts: a field is found by its name: the document's answer, and the program's. Contracts: a field is found by its name: the document's answer, the program's closure. Contract: the program's Find. Contracts: rows of entries compared, and kept; a document that was lent is as it was. Contracts: a filter's number: the program's find, the document's Filter. -/
import Derived.Test.YtinmiekbhoemjaaGreatDoorPack9
import Derived.Test.YtinmiekbhoemjaaGreatDoorProg
import Derived.Test.YtinmiekbhoemjaaGreatDoorAnaRunP
import Derived.Test.YtinmiekbhoemjaaGreatDoorPack1
import Derived.BigGuardPart
import Derived.Outline
section
set_option linter.unusedVariables false
namespace Go.Proofs.YtinmiekbhoemjaaGreatDoor.Sch
open Go.RowKit Words Tree SchP Kit Owned

end Go.Proofs.YtinmiekbhoemjaaGreatDoor.Sch
end
section
set_option linter.unusedVariables false
namespace Go.Proofs.YtinmiekbhoemjaaGreatDoor.Sch
open Go.RowKit Words Tree SchP Kit Owned

theorem str_cases (a b : ByteArray) : (a = b ∧ (a.toList == b.toList) = true) ∨ (a ≠ b ∧ (a.toList == b.toList) = false) := by
  by_cases h : a = b
  · exact .inl ⟨h, by subst h; simp⟩
  · refine .inr ⟨h, ?_⟩
    have : ¬ a.toList = b.toList := fun e => by
      rw [ByteArray.toList_eq, ByteArray.toList_eq] at e
      exact h (ByteArray.ext (Array.toList_inj.1 e))
    rw [beq_eq_false_iff_ne]; exact this
theorem findF_drop {l : List FT} {s : ByteArray} {k : Nat} (h : k < l.length) : findF (l.drop k) s = if l[k].name = s then some 0 else (findF (l.drop (k + 1)) s).map (· + 1) := by
  rw [List.drop_eq_getElem_cons h, findF]
def zOf : Option Nat → Int
  | some i => i
  | none => -1
theorem findZ_eq (l : List FT) (s : ByteArray) : findZ l s = zOf (findF l s) := by
  unfold findZ zOf
  cases findF l s <;> rfl
def IntB (n : Int) (w : World) (e : Ending) (w' : World) : Prop := e = .returned (.int .i64 n) ∧ Below w.heap.size w w'

set_option maxRecDepth 100000 in
set_option maxHeartbeats 2000000 in
theorem refFind_any (u : Value) (l : List FT) (s : ByteArray) (w : World) (hu : T.At bare w (fun g => g < w.heap.size) (fieldsT l) u) (hl : l.length * 72 ≤ 140737488351232) :
    Calls Tryz.prog 22 #[.agg #[u], .string s] w (IntB (findZ l s) w) := by
  obtain ⟨A, cap, rfl, hc, hm, hel⟩ := at_row fcells_len hu
  have EL := Lib.hid hel
  clear hel hu
  go_enter Tryz.func22, Tryz.ntmps22
  obtain ⟨r, hr⟩ : ∃ r, findF l s = r := ⟨_, rfl⟩
  have HZ : Hid (findZ l s = zOf r) := Lib.hid (by rw [findZ_eq, hr])
  have HR : Hid ((findF (l.drop 0) s).map (· + 0) = r) := Lib.hid (by rw [← hr]; cases h : findF l s <;> simp [h])
  clear hr
  go_wp2_with fail
  have HB := Lib.hid ((Below.refl _ w).alloc (Nat.le_refl _) (Obj.cells #[.slice A l.length cap] 24))
  have c0 : (w.alloc (Obj.cells #[.slice A l.length cap] 24)).cell? ⟨w.heap.size, 0, none⟩ = some (.slice A l.length cap) := (Blk.new w _ _).cell 0
  generalize w.alloc (Obj.cells #[.slice A l.length cap] 24) = W at *
  go_loop [5] (fun i => ∃ k : Nat, k ≤ l.length ∧ i = .int .i64 k ∧ Hid ((findF (l.drop k) s).map (· + k) = r)) (fun i => l.length - (RowKit.intOf i).toNat)
  case atStart => exact ⟨0, by omega, rfl, HR⟩
  case round =>
    obtain ⟨k, hk, rfl, HE⟩ := hrel
    by_cases hlt : k < l.length
    · obtain ⟨ad, us, rfl, hba, au, lu, cu⟩ := EL.out k hlt
      replace cu := cu.keep (w' := W) (fun p hp => HB.out.cell (by rw [hp, block_of_add]; exact hba))
      have HD := Lib.hid (findF_drop (s := s) hlt)
      generalize l[k] = f at *
      obtain ⟨vc, rfl, gc⟩ := at_fcells au
      have a0 := cu.zero
      clear cu au lu gc
      rcases str_cases f.name s with ⟨h1, h2⟩ | ⟨h1, h2⟩
      · have HN : Hid (findZ l s = k) := Lib.hid (by rw [HZ.out, ← HE.out, HD.out, if_pos h1]; simp [zOf])
        clear h1
        go_wp2_with fail
        go_ret
        rw [HN.out]; exact ⟨rfl, HB.out⟩
      · have HE2 : Hid ((findF (l.drop (k + 1)) s).map (· + (k + 1)) = r) := Lib.hid (by rw [← HE.out, HD.out, if_neg h1, Option.map_map]; congr 1; funext x; simp; omega)
        clear h1
        go_wp2_with fail
        go_round
        case rel => exact ⟨k + 1, by omega, by go_num, HE2⟩
        case measure => simp [RowKit.intOf]; omega
    · obtain rfl : k = l.length := by omega
      have HN : Hid (findZ l s = -1) := Lib.hid (by rw [HZ.out, ← HE.out, List.drop_length]; rfl)
      go_wp2_with fail
      go_ret
      rw [HN.out]; exact ⟨rfl, HB.out⟩
end Go.Proofs.YtinmiekbhoemjaaGreatDoor.Sch
end
section
set_option linter.unusedVariables false
namespace Go.Proofs.YtinmiekbhoemjaaGreatDoor.Sch
open Go.RowKit Words Tree SchP Kit Owned

set_option maxRecDepth 100000 in
set_option maxHeartbeats 2000000 in
theorem find1_any (f : FT) (X : Option Addr) (n z : Nat) (s : ByteArray) (g : Nat) (w : World) (hg : w.cell? ⟨g, 0, none⟩ = some (.string s)) (hgl : g < w.heap.size) :
    Calls Tryz.prog 47 #[.agg #[.string f.name, .int .i64 f.kind, .slice X n z, .int .i64 f.scale, .int .i64 f.dims, .bool f.many, .bool f.stored], .pointer (some ⟨g, 0, none⟩)] w (AnsB (decide (f.name = s)) w) := by
  have hne : g ≠ w.heap.size := by omega
  rcases str_cases f.name s with ⟨h1, h2⟩ | ⟨h1, h2⟩
  · have HD : Hid (decide (f.name = s) = true) := Lib.hid (decide_eq_true h1)
    clear h1
    go_enter Tryz.func47, Tryz.ntmps47
    go_wp2_with fail
    go_ret
    rw [HD.out]; exact ⟨rfl, (Below.refl _ w).alloc (Nat.le_refl _) _⟩
  · have HD : Hid (decide (f.name = s) = false) := Lib.hid (decide_eq_false h1)
    clear h1
    go_enter Tryz.func47, Tryz.ntmps47
    go_wp2_with fail
    go_ret
    rw [HD.out]; exact ⟨rfl, (Below.refl _ w).alloc (Nat.le_refl _) _⟩

set_option maxRecDepth 100000 in
set_option maxHeartbeats 2000000 in
theorem indexFunc_any (A : Option Addr) (cap : Nat) (l : List FT) (s : ByteArray) (g : Nat) (w : World) (hu : T.At bare w (fun g => g < w.heap.size) (fieldsT l) (.slice A l.length cap)) (hl : l.length * 72 ≤ 140737488351232) (hg : w.cell? ⟨g, 0, none⟩ = some (.string s)) (hgl : g < w.heap.size) :
    Calls Tryz.prog 46 #[.slice A l.length cap, .func (.func 47) #[] #[.pointer (some ⟨g, 0, none⟩)]] w (IntB (findZ l s) w) := by
  obtain ⟨_, _, he, hc, hm, hel⟩ := at_row fcells_len hu
  injection he with e1 _ e3
  subst e1 e3
  have EL := Lib.hid hel
  have HG : Hid (∀ W, Below w.heap.size w W → W.cell? ⟨g, 0, none⟩ = some (.string s)) := Lib.hid (fun W hW => (hW.cell (p := ⟨g, 0, none⟩) hgl).trans hg)
  clear hel hu hg
  obtain ⟨r, hr⟩ : ∃ r, findF l s = r := ⟨_, rfl⟩
  have HZ : Hid (findZ l s = zOf r) := Lib.hid (by rw [findZ_eq, hr])
  have HR : Hid ((findF (l.drop 0) s).map (· + 0) = r) := Lib.hid (by rw [← hr]; cases h : findF l s <;> simp [h])
  clear hr
  go_enter Tryz.func46, Tryz.ntmps46
  go_wp2_with fail
  go_loopw [5, 8] (fun _ i wr => ∃ k : Nat, k ≤ l.length ∧ i = .int .i64 k ∧ Hid ((findF (l.drop k) s).map (· + k) = r) ∧ Hid (Below w.heap.size w wr)) (fun _ i _ => l.length - (RowKit.intOf i).toNat)
  case atStart => exact ⟨0, by omega, rfl, HR, Lib.hid (Below.refl _ _)⟩
  case round =>
    obtain ⟨k, hk, rfl, HE, HB⟩ := hrel
    by_cases hlt : k < l.length
    · obtain ⟨ad, us, rfl, hba, au, lu, cu⟩ := EL.out k hlt
      replace cu := cu.keep (w' := wr) (fun p hp => HB.out.cell (by rw [hp, block_of_add]; exact hba))
      have HD := Lib.hid (findF_drop (s := s) hlt)
      generalize l[k] = f at *
      obtain ⟨vc, rfl, gc⟩ := at_fcells au
      obtain ⟨X, z, rfl, _, _⟩ := at_slice gc
      obtain ⟨a0, a1, a2, a3, a4, a5, a6⟩ := seven cu
      clear cu au lu gc
      have HC := Lib.hid (fun (W : World) (hW : Below w.heap.size w W) => find1_any f X f.chain.length z s g W (HG.out W hW) (Nat.lt_of_lt_of_le hgl hW.size))
      go_wp2_with fail
      refine (HC.out wr HB.out).mono ?_
      rintro e w2 ⟨rfl, b2⟩
      have HB2 := Lib.hid (HB.out.trans (b2.mono HB.out.size))
      clear a0 a1 a2 a3 a4 a5 a6 b2
      by_cases h1 : f.name = s
      · have HN : Hid (findZ l s = k) := Lib.hid (by rw [HZ.out, ← HE.out, HD.out, if_pos h1]; simp [zOf])
        have hd : decide (f.name = s) = true := decide_eq_true h1
        rw [hd]
        clear h1 hd
        go_wp2_with fail
        go_ret
        rw [HN.out]; exact ⟨rfl, HB2.out⟩
      · have HE2 : Hid ((findF (l.drop (k + 1)) s).map (· + (k + 1)) = r) := Lib.hid (by rw [← HE.out, HD.out, if_neg h1, Option.map_map]; congr 1; funext x; simp; omega)
        have hd : decide (f.name = s) = false := decide_eq_false h1
        rw [hd]
        clear h1 hd
        go_wp2_with fail
        go_roundw
        case rel => exact ⟨k + 1, by omega, by go_num, HE2, HB2⟩
        case measure => simp [RowKit.intOf]; omega
    · obtain rfl : k = l.length := by omega
      have HN : Hid (findZ l s = -1) := Lib.hid (by rw [HZ.out, ← HE.out, List.drop_length]; rfl)
      go_wp2_with fail
      go_ret
      rw [HN.out]; exact ⟨rfl, HB.out⟩
end Go.Proofs.YtinmiekbhoemjaaGreatDoor.Sch
end
section
set_option linter.unusedVariables false
namespace Go.Proofs.YtinmiekbhoemjaaGreatDoor.Sch
open Go.RowKit Words Tree SchP Kit Owned

def FindRet (z : Int) (w : World) (e : Ending) (w' : World) : Prop := e = .returned (.tuple #[.int .i64 (max 0 z), .bool (decide (0 ≤ z))]) ∧ Below w.heap.size w w'
set_option maxRecDepth 100000 in
set_option maxHeartbeats 2000000 in
theorem find_any (u : Value) (l : List FT) (s : ByteArray) (w : World) (hu : T.At bare w (fun g => g < w.heap.size) (fieldsT l) u) (hl : l.length * 72 ≤ 140737488351232) :
    Calls Tryz.prog 29 #[.agg #[u], .string s] w (FindRet (findZ l s) w) := by
  obtain ⟨A, cap, rfl, _, _⟩ := at_slice hu
  have HC := Lib.hid (fun (g : Nat) (W : World) (hW : Below w.heap.size w W) (hg : W.cell? ⟨g, 0, none⟩ = some (.string s)) (hgl : g < W.heap.size) => indexFunc_any A cap l s g W (At.below hu hW (fun g hg => Nat.lt_of_lt_of_le hg hW.size)) hl hg hgl)
  clear hu
  go_enter Tryz.func29, Tryz.ntmps29
  obtain ⟨z, hz⟩ : ∃ z, findZ l s = z := ⟨_, rfl⟩
  rw [hz] at HC ⊢
  have hzz : -1 ≤ z ∧ z ≤ 140737488351232 := by
    rw [← hz, findZ_eq]
    cases h : findF l s with
    | none => simp [zOf]
    | some i => obtain ⟨h1, _⟩ := findF_some h; simp only [zOf]; omega
  clear hz
  go_wp2_with fail
  refine (HC.out _ _ (below2 _ _) ((blk_b w #[.slice A l.length cap] #[.string s] 24 9).cell 0) (by simp)).mono ?_
  rintro e w1 ⟨rfl, hb⟩
  have HB := Lib.hid ((below2 _ _).trans (hb.mono (by simp; omega)) : Below w.heap.size w w1)
  clear hb
  rcases (show z = -1 ∨ z = 0 ∨ 0 < z by omega) with rfl | rfl | h0
  · go_wp2_with fail
    go_ret2
    exact ⟨rfl, HB.out⟩
  · go_wp2_with fail
    go_ret2
    exact ⟨rfl, HB.out⟩
  · have hd : decide ((0 : Int) ≤ z) = true := decide_eq_true (by omega)
    have hm : max (0 : Int) z = z := by omega
    have hd2 : decide ((0 : Int) < z) = true := decide_eq_true h0
    have hd3 : decide (z < 0) = false := by rw [decide_eq_false_iff_not]; omega
    have HQ := Lib.hid (And.intro hm hd)
    clear hm hd
    have hd : decide ((0 : Int) ≤ z) = true := HQ.out.2
    go_wp2_with fail
    go_ret2
    exact ⟨by rw [HQ.out.1, HQ.out.2]; rfl, HB.out⟩
end Go.Proofs.YtinmiekbhoemjaaGreatDoor.Sch
end
section
set_option linter.unusedVariables false
namespace Go.Proofs.YtinmiekbhoemjaaGreatDoor.Sch
open Go.RowKit Words Tree SchP Kit Owned

theorem bne_int {a b : Int} (h : ¬ a = b) : (a != b) = true ∧ (a == b) = false := ⟨by rw [bne_iff_ne]; exact h, by rw [beq_eq_false_iff_ne]; exact h⟩
theorem bne_str {a b : ByteArray} (h : ¬ a = b) : (a.toList != b.toList) = true ∧ (a.toList == b.toList) = false := by
  have : ¬ a.toList = b.toList := fun e => by
    rw [ByteArray.toList_eq, ByteArray.toList_eq] at e
    exact h (ByteArray.ext (Array.toList_inj.1 e))
  exact ⟨by rw [bne_iff_ne]; exact this, by rw [beq_eq_false_iff_ne]; exact this⟩
theorem three {w : World} {ad : Addr} {v0 v1 v2 : Value} (h : Cells w ad [v0, v1, v2]) :
    w.cell? ad = some v0 ∧ w.cell? ⟨ad.block, ad.off + 1, none⟩ = some v1 ∧ w.cell? ⟨ad.block, ad.off + 2, none⟩ = some v2 :=
  ⟨h.zero, h.at_ 1 _ rfl (by omega), h.at_ 2 _ rfl (by omega)⟩
theorem take_all {α : Type} {l m : List α} (h : l.take l.length = m.take l.length) (hl : l.length = m.length) : l = m := by
  rw [List.take_of_length_le (Nat.le_refl _), hl, List.take_of_length_le (Nat.le_refl _)] at h
  exact h
theorem bool_cases {b : Bool} {p : Prop} (h : b = true ↔ p) : (p ∧ b = true) ∨ (¬ p ∧ b = false) := by cases b <;> simp_all
theorem blk7 {w : World} {g : Nat} {t : TypeId} {v0 v1 v2 v3 v4 v5 v6 : Value} (h : Blk w g t #[v0, v1, v2, v3, v4, v5, v6]) :
    w.cell? ⟨g, 0, none⟩ = some v0 ∧ w.cell? ⟨g, 1, none⟩ = some v1 ∧ w.cell? ⟨g, 2, none⟩ = some v2 ∧ w.cell? ⟨g, 3, none⟩ = some v3 ∧ w.cell? ⟨g, 4, none⟩ = some v4 ∧ w.cell? ⟨g, 5, none⟩ = some v5 ∧ w.cell? ⟨g, 6, none⟩ = some v6 :=
  ⟨h.cell 0, h.cell 1, h.cell 2, h.cell 3, h.cell 4, h.cell 5, h.cell 6⟩
set_option maxRecDepth 100000 in
set_option maxHeartbeats 4000000 in
theorem kitSchema_same (v u : Value) (l : List FT) (w : World) (hv : T.At bare w (fun g => g < w.heap.size) (fieldsT l) v) (hu : T.At bare w (fun g => g < w.heap.size) (fieldsT l) u)
    (hx : l.length * 72 ≤ 140737488351232) (ox : ∀ f ∈ l, FOk f) :
    Calls Tryz.prog 27 #[.agg #[v], .agg #[u]] w (AnsB true w) := by
  obtain ⟨A, c, rfl, _, hmA, eA⟩ := at_row fcells_len hv
  obtain ⟨B, d, rfl, _, hmB, eB⟩ := at_row fcells_len hu
  have EA := Lib.hid eA; have EB := Lib.hid eB; have OX := Lib.hid ox
  clear eA eB hv hu ox
  go_enter Tryz.func27, Tryz.ntmps27
  have HB := Lib.hid (below2 (w := w) (.cells #[.slice A l.length c] 24) (.cells #[.slice B l.length d] 24))
  have BA := Lib.hid (blk_a w #[.slice A l.length c] #[.slice B l.length d] 24 24)
  have BB := Lib.hid (blk_b w #[.slice A l.length c] #[.slice B l.length d] 24 24)
  have hzW : ((w.alloc (Obj.cells #[.slice A l.length c] 24)).alloc (Obj.cells #[.slice B l.length d] 24)).heap.size = w.heap.size + 2 := by simp
  go_wp2_with fail
  generalize (w.alloc (Obj.cells #[.slice A l.length c] 24)).alloc (Obj.cells #[.slice B l.length d] 24) = W at *
  go_loopw [5] (fun i wr => ∃ (k : Nat), k ≤ l.length ∧ i = .int .i64 k ∧ Hid (Below W.heap.size W wr)) (fun i _ => l.length - (intOf i).toNat)
  case atStart => exact ⟨0, by omega, rfl, Lib.hid (Below.refl _ _)⟩
  case round =>
    obtain ⟨k, hk, rfl, HK⟩ := hrel
    have BA2 := Lib.hid (BA.out.below HK.out (by omega))
    have BB2 := Lib.hid (BB.out.below HK.out (by omega))
    have hcA : wr.cell? ⟨w.heap.size, 0, none⟩ = some (.slice A l.length c) := BA2.out.cell 0
    have hcB : wr.cell? ⟨w.heap.size + 1, 0, none⟩ = some (.slice B l.length d) := BB2.out.cell 0
    have hzr := HK.out.size
    have HW : Hid (Below w.heap.size w wr) := Lib.hid (HB.out.trans (HK.out.mono HB.out.size))
    by_cases hlt : k < l.length
    · obtain ⟨ad, us, rfl, hba, au, lu, cu⟩ := EA.out k hlt
      obtain ⟨bd, us2, rfl, hbb, au2, lu2, cu2⟩ := EB.out k hlt
      replace cu := cu.keep (w' := wr) (fun p hp => HW.out.cell (by rw [hp, block_of_add]; exact hba))
      replace cu2 := cu2.keep (w' := wr) (fun p hp => HW.out.cell (by rw [hp, block_of_add]; exact hbb))
      have hbd : (bd.add (k * 7)).block < wr.heap.size := by rw [block_of_add]; omega
      have hw1 : w.heap.size + 1 < wr.heap.size := by omega
      have hok := OX.out _ (List.getElem_mem hlt)
      generalize hx1 : l[k] = f at *
      clear hx1
      obtain ⟨vl, rfl, al⟩ := at_fcells au
      obtain ⟨vj, rfl, aj⟩ := at_fcells au2
      obtain ⟨X, z, rfl, _, _, hrl⟩ := at_nums al
      obtain ⟨Y, z2, rfl, _, _, hrj⟩ := at_nums aj
      obtain ⟨a0, a1, a2, a3, a4, a5, a6⟩ := seven cu
      obtain ⟨b0, b1, b2, b3, b4, b5, b6⟩ := seven cu2
      have HC : Hid (∀ (W : World), Below w.heap.size w W → Calls Tryz.prog 45 #[.slice X f.chain.length z, .slice Y f.chain.length z2] W (AnsB true W)) := Lib.hid (fun W hW =>
        ints_any X Y z z2 _ _ W ((hrl.below hW).more hW.size) ((hrj.below hW).more hW.size) hok.chain.1 hok.chain.1 true (by simp))
      clear cu cu2 au au2 lu lu2 al aj hrl hrj hok
      obtain ⟨f0, f1, f2, f3, f4, f5, f6⟩ := f
      go_wp2_with fail
      refine (HC.out _ (HW.out.trans ((below2 _ _).mono HW.out.size))).mono ?_
      rintro e W0 ⟨rfl, b0'⟩
      have HB0 := Lib.hid ((below2 _ _).trans (b0'.mono (by simp; omega)) : Below wr.heap.size wr W0)
      have BA0 := Lib.hid ((blk_a _ _ _ _ _).below b0' (by simp; omega))
      have BB0 := Lib.hid ((blk_b _ _ _ _ _).below b0' (by simp))
      clear b0' a0 a1 a2 a3 a4 a5 a6 b0 b1 b2 b3 b4 b5 b6 hcA hcB
      obtain ⟨p0, p1, p2, p3, p4, p5, p6⟩ := blk7 BA0.out
      obtain ⟨q0, q1, q2, q3, q4, q5, q6⟩ := blk7 BB0.out
      go_wp2_with fail
      go_roundw
      case rel => exact ⟨k + 1, by omega, by go_num, Lib.hid (HK.out.trans (HB0.out.mono HK.out.size))⟩
      case measure => simp [intOf]; omega
    · obtain rfl : k = l.length := by omega
      go_wp2_with fail
      go_ret
      exact ⟨rfl, HW.out⟩
end Go.Proofs.YtinmiekbhoemjaaGreatDoor.Sch
end
section
set_option linter.unusedVariables false
namespace Go.Proofs.YtinmiekbhoemjaaGreatDoor.Ana
open Go.RowKit Go.Lib AnaP Words Kit

def PureB (b : Bool) (w : World) (e : Ending) (w' : World) : Prop := e = .returned (.bool b) ∧ w = w'

set_option maxRecDepth 100000 in
theorem filter_any (n : Int) (w : World) : Calls Tryz.prog 55 #[.int .i64 n] w (PureB (filterB n) w) := by
  obtain ⟨b, hb⟩ : ∃ b, filterB n = b := ⟨_, rfl⟩
  rw [hb]
  have HR := Lib.hid hb; clear hb
  go_enter Tryz.func55, Tryz.ntmps55
  go_wp2
  all_goals go_ret
  all_goals (refine ⟨ret_bool ?_, rfl⟩; rw [← HR.out]; unfold filterB; simp_all; try omega)

set_option maxRecDepth 100000 in
theorem eql_nilF (w : World) : (binOp .eql 99 .nilFunc .nilFunc).run Tryz.prog w = .ok (.bool true) w := by rfl
set_option maxRecDepth 100000 in
theorem eql_fnF (F : Nat) (cap : Array Value) (w : World) : (binOp .eql 99 (.func (.func F) #[] cap) .nilFunc).run Tryz.prog w = .ok (.bool false) w := by rfl
theorem grams_any (n : Int) (w : World) : Calls Tryz.prog 71 #[.int .i64 n] w fun e w' => e = .returned (.func (.func 86) #[] #[.pointer (some ⟨w.heap.size, 0, none⟩)]) ∧ w' = w.alloc (.cells #[.int .i64 n] 3) := by
  have hmf : ∀ (fn : Fn) (first cap : Array Value) (w : World), (Instr.makeFunc fn first cap).run Tryz.prog w = .ok (.func fn first cap) w := fun _ _ _ _ => rfl
  go_enter Tryz.func71, Tryz.ntmps71
  go_wp2_with fail
  go_ret
  exact ⟨rfl, rfl⟩
theorem find_none (n : Int) (w : World) (h : filterB n = false) : Calls Tryz.prog 58 #[.int .i64 n] w fun e w' => e = .returned .nilFunc ∧ w = w' := by
  have h0 : ¬ (10 ≤ n ∧ n ≤ 15) := by unfold filterB at h; simpa using h
  have h1 : (n == 10) = false := by rw [beq_eq_false_iff_ne]; omega
  have h2 : (n == 11) = false := by rw [beq_eq_false_iff_ne]; omega
  have h3 : (n == 12) = false := by rw [beq_eq_false_iff_ne]; omega
  have h4 : (n == 13) = false := by rw [beq_eq_false_iff_ne]; omega
  have h5 : (n == 14) = false := by rw [beq_eq_false_iff_ne]; omega
  have h6 : (n == 15) = false := by rw [beq_eq_false_iff_ne]; omega
  clear h h0
  go_enter Tryz.func58, Tryz.ntmps58
  go_wp2_with fail
  go_ret
  exact ⟨rfl, rfl⟩

theorem find_10 (w : World) : Calls Tryz.prog 58 #[.int .i64 10] w fun e w' => e = .returned (.func (.func 69) #[] #[]) ∧ w = w' := by
  go_enter Tryz.func58, Tryz.ntmps58
  go_wp2_with fail
  go_ret
  exact ⟨rfl, rfl⟩
theorem find_11 (w : World) : Calls Tryz.prog 58 #[.int .i64 11] w fun e w' => e = .returned (.func (.func 70) #[] #[]) ∧ w = w' := by
  go_enter Tryz.func58, Tryz.ntmps58
  go_wp2_with fail
  go_ret
  exact ⟨rfl, rfl⟩
theorem find_12 (w : World) : Calls Tryz.prog 58 #[.int .i64 12] w fun e w' => e = .returned (.func (.func 86) #[] #[.pointer (some ⟨w.heap.size, 0, none⟩)]) ∧ w' = w.alloc (.cells #[.int .i64 2] 3) := by
  go_enter Tryz.func58, Tryz.ntmps58
  go_wp2_with fail
  refine (grams_any _ _).mono ?_
  rintro e w' ⟨rfl, rfl⟩
  go_wp2_with fail
  go_ret
  exact ⟨rfl, rfl⟩
theorem find_13 (w : World) : Calls Tryz.prog 58 #[.int .i64 13] w fun e w' => e = .returned (.func (.func 86) #[] #[.pointer (some ⟨w.heap.size, 0, none⟩)]) ∧ w' = w.alloc (.cells #[.int .i64 3] 3) := by
  go_enter Tryz.func58, Tryz.ntmps58
  go_wp2_with fail
  refine (grams_any _ _).mono ?_
  rintro e w' ⟨rfl, rfl⟩
  go_wp2_with fail
  go_ret
  exact ⟨rfl, rfl⟩
theorem find_14 (w : World) : Calls Tryz.prog 58 #[.int .i64 14] w fun e w' => e = .returned (.func (.func 72) #[] #[]) ∧ w = w' := by
  go_enter Tryz.func58, Tryz.ntmps58
  go_wp2_with fail
  go_ret
  exact ⟨rfl, rfl⟩
theorem find_15 (w : World) : Calls Tryz.prog 58 #[.int .i64 15] w fun e w' => e = .returned (.func (.func 73) #[] #[]) ∧ w = w' := by
  go_enter Tryz.func58, Tryz.ntmps58
  go_wp2_with fail
  go_ret
  exact ⟨rfl, rfl⟩

end Go.Proofs.YtinmiekbhoemjaaGreatDoor.Ana
end
