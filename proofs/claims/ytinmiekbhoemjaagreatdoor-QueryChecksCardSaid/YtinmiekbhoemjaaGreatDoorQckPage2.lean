/- Contract: asker.page. Contracts: whether a key is right; page$1. -/
import Derived.Test.YtinmiekbhoemjaaGreatDoorPack15
import Derived.StillTailTactics
import Derived.Laws.StructEq
import Derived.Deep.CutRange
import Derived.BigQuiet
import Derived.Deep.RegionHeld3
section
set_option linter.unusedVariables false
namespace Go.Proofs.YtinmiekbhoemjaaGreatDoor.Qck
open Go.RowKit Go.Lib Words Tree SchP QckP Kit Owned Sch
def keyV (k : KeyT) : Value := .agg #[.int .i64 k.kind, .int .i64 k.num, .string k.text]
theorem text_empty (tx : ByteArray) : tx = ⟨#[]⟩ ∨ (tx.toList.isEmpty = false ∧ ¬ tx.size = 0) := by
  by_cases h : tx.size = 0
  · left; apply ByteArray.ext; exact Array.eq_empty_of_size_eq_zero h
  · right
    refine ⟨?_, h⟩
    cases hl : tx.toList.isEmpty with
    | false => rfl
    | true =>
      rw [List.isEmpty_iff] at hl
      have hl2 := congrArg List.length hl
      rw [ByteArray.toList_eq] at hl2
      have hl3 : tx.data.toList.length = tx.size := by simp
      exact (h (by rw [← hl3, hl2]; rfl)).elim
set_option maxHeartbeats 1000000 in
set_option maxRecDepth 100000 in
theorem right_any (k : KeyT) (w : World) : Calls Tryz.prog 36 #[keyV k] w (AnsB (rightT k) w) := by
  obtain ⟨kd, nm, tx⟩ := k
  unfold keyV
  dsimp only
  obtain ⟨r, hr⟩ : ∃ r, rightT ⟨kd, nm, tx⟩ = r := ⟨_, rfl⟩
  rw [hr]
  have HR := Lib.hid hr
  clear hr
  have hte : tx.size = 0 ∨ (tx.toList.isEmpty = false ∧ ¬ tx.size = 0) := by
    by_cases h : tx.size = 0
    · exact .inl h
    · right
      refine ⟨?_, h⟩
      cases hl : tx.toList.isEmpty with
      | false => rfl
      | true =>
        rw [List.isEmpty_iff] at hl
        have hl2 := congrArg List.length hl
        rw [ByteArray.toList_eq] at hl2
        have hl3 : tx.data.toList.length = tx.size := by simp
        exact (h (by rw [← hl3, hl2]; rfl)).elim
  by_cases h0 : kd = 0
  · subst h0
    by_cases h1 : nm = 0
    · subst h1
      rcases hte with h2 | ⟨h2, h3⟩
      · obtain rfl : tx = ⟨#[]⟩ := by apply ByteArray.ext; exact Array.eq_empty_of_size_eq_zero h2
        clear h2
        go_enter Tryz.func36, Tryz.ntmps36
        go_wp2_with fail
        go_ret
        exact ⟨Kit.ret_bool (by rw [← HR.out]; first | decide | (simp [rightT]; done) | (simp [rightT]; rfl)), (Below.refl _ _).alloc (Nat.le_refl _) _⟩
      · have H3 := Lib.hid h3
        clear h3
        go_enter Tryz.func36, Tryz.ntmps36
        go_wp2_with fail
        go_ret
        exact ⟨Kit.ret_bool (by rw [← HR.out]; first | decide | (simp [rightT, H3.out]; done)), (Below.refl _ _).alloc (Nat.le_refl _) _⟩
    · have n1 : (nm == 0) = false := by rw [beq_eq_false_iff_ne]; exact h1
      have H1 := Lib.hid h1
      clear h1 hte
      go_enter Tryz.func36, Tryz.ntmps36
      go_wp2_with fail
      go_ret
      exact ⟨Kit.ret_bool (by rw [← HR.out]; first | decide | (simp [rightT, H1.out]; done)), (Below.refl _ _).alloc (Nat.le_refl _) _⟩
  by_cases h1 : kd = 1
  · subst h1
    clear h0
    rcases hte with h2 | ⟨h2, h3⟩
    · obtain rfl : tx = ⟨#[]⟩ := by apply ByteArray.ext; exact Array.eq_empty_of_size_eq_zero h2
      clear h2
      go_enter Tryz.func36, Tryz.ntmps36
      go_wp2_with fail
      go_ret
      exact ⟨Kit.ret_bool (by rw [← HR.out]; first | decide | (simp [rightT]; done) | (simp [rightT]; rfl)), (Below.refl _ _).alloc (Nat.le_refl _) _⟩
    · have H3 := Lib.hid h3
      clear h3
      go_enter Tryz.func36, Tryz.ntmps36
      go_wp2_with fail
      go_ret
      exact ⟨Kit.ret_bool (by rw [← HR.out]; first | decide | (simp [rightT, H3.out]; done)), (Below.refl _ _).alloc (Nat.le_refl _) _⟩
  by_cases h2 : kd = 2
  · subst h2
    clear h0 h1 hte
    by_cases h1 : nm = 0
    · subst h1
      go_enter Tryz.func36, Tryz.ntmps36
      go_wp2_with fail
      go_ret
      exact ⟨Kit.ret_bool (by rw [← HR.out]; first | decide | (simp [rightT]; done) | (simp [rightT]; rfl)), (Below.refl _ _).alloc (Nat.le_refl _) _⟩
    · have n1 : (nm == 0) = false := by rw [beq_eq_false_iff_ne]; exact h1
      have H1 := Lib.hid h1
      clear h1
      go_enter Tryz.func36, Tryz.ntmps36
      go_wp2_with fail
      go_ret
      exact ⟨Kit.ret_bool (by rw [← HR.out]; first | decide | (simp [rightT, H1.out]; done)), (Below.refl _ _).alloc (Nat.le_refl _) _⟩
  · have k0 : (kd == 0) = false := by rw [beq_eq_false_iff_ne]; exact h0
    have k1 : (kd == 1) = false := by rw [beq_eq_false_iff_ne]; exact h1
    have k2 : (kd == 2) = false := by rw [beq_eq_false_iff_ne]; exact h2
    have H0 := Lib.hid h0
    have H1 := Lib.hid h1
    have H2 := Lib.hid h2
    clear h0 h1 h2 hte
    go_enter Tryz.func36, Tryz.ntmps36
    go_wp2_with fail
    go_ret
    exact ⟨Kit.ret_bool (by rw [← HR.out]; first | decide | (simp [rightT, H0.out, H1.out, H2.out]; done)), (Below.refl _ _).alloc (Nat.le_refl _) _⟩
set_option maxRecDepth 100000 in
set_option maxHeartbeats 1000000 in
theorem refRight_any (k : KeyT) (w : World) : Calls Tryz.prog 23 #[keyV k] w (AnsB (rightT k) w) := by
  obtain ⟨kd, nm, tx⟩ := k
  unfold keyV
  dsimp only
  obtain ⟨r, hr⟩ : ∃ r, rightT ⟨kd, nm, tx⟩ = r := ⟨_, rfl⟩
  rw [hr]
  have HR := Lib.hid hr
  clear hr
  have hk : (kd = 0) ∨ (kd = 1) ∨ (kd = 2) ∨ ((kd == 0) = false ∧ (kd == 1) = false ∧ (kd == 2) = false) := by
    by_cases h0 : kd = 0
    · exact .inl h0
    · by_cases h1 : kd = 1
      · exact .inr (.inl h1)
      · by_cases h2 : kd = 2
        · exact .inr (.inr (.inl h2))
        · exact .inr (.inr (.inr ⟨by rw [beq_eq_false_iff_ne]; exact h0, by rw [beq_eq_false_iff_ne]; exact h1, by rw [beq_eq_false_iff_ne]; exact h2⟩))
  have hn : nm = 0 ∨ (nm == 0) = false := by
    by_cases h : nm = 0
    · exact .inl h
    · exact .inr (by rw [beq_eq_false_iff_ne]; exact h)
  have hno : ∀ a b c : Int, (a == b) = false → ¬ a = b := fun a b c h => by rw [beq_eq_false_iff_ne] at h; exact h
  have hte := text_empty tx
  rcases hk with rfl | rfl | rfl | ⟨k0, k1, k2⟩
  · rcases hn with rfl | n0
    · rcases hte with rfl | ⟨t0, t1⟩
      · go_enter Tryz.func23, Tryz.ntmps23
        go_wp2_with fail
        go_ret
        exact ⟨Kit.ret_bool (by rw [← HR.out]; decide), (Below.refl _ _).alloc (Nat.le_refl _) _⟩
      · have H := Lib.hid t1; clear t1 hno
        go_enter Tryz.func23, Tryz.ntmps23
        go_wp2_with fail
        go_ret
        exact ⟨Kit.ret_bool (by rw [← HR.out]; simp [rightT, H.out]), (Below.refl _ _).alloc (Nat.le_refl _) _⟩
    · have H := Lib.hid (hno _ _ 0 n0); clear hte hno
      go_enter Tryz.func23, Tryz.ntmps23
      go_wp2_with fail
      go_ret
      exact ⟨Kit.ret_bool (by rw [← HR.out]; simp [rightT, H.out]), (Below.refl _ _).alloc (Nat.le_refl _) _⟩
  · clear hn hno
    rcases hte with rfl | ⟨t0, t1⟩
    · go_enter Tryz.func23, Tryz.ntmps23
      go_wp2_with fail
      go_ret
      exact ⟨Kit.ret_bool (by rw [← HR.out]; simp [rightT]; rfl), (Below.refl _ _).alloc (Nat.le_refl _) _⟩
    · have H := Lib.hid t1; clear t1
      go_enter Tryz.func23, Tryz.ntmps23
      go_wp2_with fail
      go_ret
      exact ⟨Kit.ret_bool (by rw [← HR.out]; simp [rightT, H.out]), (Below.refl _ _).alloc (Nat.le_refl _) _⟩
  · clear hte
    rcases hn with rfl | n0
    · clear hno
      go_enter Tryz.func23, Tryz.ntmps23
      go_wp2_with fail
      go_ret
      exact ⟨Kit.ret_bool (by rw [← HR.out]; simp [rightT]), (Below.refl _ _).alloc (Nat.le_refl _) _⟩
    · have H := Lib.hid (hno _ _ 0 n0); clear hno
      go_enter Tryz.func23, Tryz.ntmps23
      go_wp2_with fail
      go_ret
      exact ⟨Kit.ret_bool (by rw [← HR.out]; simp [rightT, H.out]), (Below.refl _ _).alloc (Nat.le_refl _) _⟩
  · have H0 := Lib.hid (hno _ _ 0 k0); have H1 := Lib.hid (hno _ _ 0 k1); have H2 := Lib.hid (hno _ _ 0 k2)
    clear hte hn hno
    go_enter Tryz.func23, Tryz.ntmps23
    go_wp2_with fail
    go_ret
    exact ⟨Kit.ret_bool (by rw [← HR.out]; simp [rightT, H0.out, H1.out, H2.out]), (Below.refl _ _).alloc (Nat.le_refl _) _⟩
end Go.Proofs.YtinmiekbhoemjaaGreatDoor.Qck
end
section
set_option linter.unusedVariables false
namespace Go.Proofs.YtinmiekbhoemjaaGreatDoor.Qck
open Go.RowKit Words Tree SchP QckP Kit Owned Sch
set_option maxRecDepth 100000 in
theorem page1_any (k : KeyT) (w : World) :
    Calls Tryz.prog 35 #[keyV k] w (AnsB (!rightT k) w) := by
  have HC := Lib.hid (fun W => right_any k W)
  obtain ⟨k1, k2, k3⟩ := k
  unfold keyV at *
  dsimp only at *
  generalize rightT ⟨k1, k2, k3⟩ = r at *
  go_enter Tryz.func35, Tryz.ntmps35
  go_wp2_with fail
  refine (HC.out _).mono ?_
  rintro e w2 ⟨rfl, hb⟩
  have HB := Lib.hid (((Below.refl _ w).alloc (Nat.le_refl _) _).trans (hb.mono (by simp)))
  clear hb
  go_wp2_with fail
  go_ret
  exact ⟨rfl, HB.out⟩
/-- Keys in memory. -/
def CKeys (w : World) (B : Nat) (A : Option Addr) (l : List KeyT) : Prop := ∀ (i : Nat) (hi : i < l.length), ∃ ad, A = some ad ∧ ad.block < B ∧ Cells w (ad.add (i * 3)) [.int .i64 l[i].kind, .int .i64 l[i].num, .string l[i].text]
set_option maxRecDepth 100000 in
set_option maxHeartbeats 2000000 in
theorem pageIdx_any (A : Option Addr) (cap : Nat) (l : List KeyT) (w : World) (hu : CKeys w w.heap.size A l) (hl : l.length * 32 ≤ 140737488351232) :
    Calls Tryz.prog 53 #[.slice A l.length cap, .func (.func 35) #[] #[]] w (fun e w' => ∃ z : Int, e = .returned (.int .i64 z) ∧ (decide (0 ≤ z) = l.any fun b => !rightT b) ∧ Below w.heap.size w w') := by
  have EL := Lib.hid hu
  clear hu
  obtain ⟨r, hr⟩ : ∃ r, (l.any fun b => !rightT b) = r := ⟨_, rfl⟩
  rw [hr]
  have HR : Hid (((l.drop 0).any fun b => !rightT b) = r) := Lib.hid hr
  clear hr
  go_enter Tryz.func53, Tryz.ntmps53
  go_wp2_with fail
  go_loopw [5, 8] (fun _ i wr => ∃ k : Nat, k ≤ l.length ∧ i = .int .i64 k ∧ Hid (((l.drop k).any fun b => !rightT b) = r) ∧ Hid (Below w.heap.size w wr)) (fun _ i _ => l.length - (RowKit.intOf i).toNat)
  case atStart => exact ⟨0, by omega, rfl, HR, Lib.hid (Below.refl _ _)⟩
  case round =>
    obtain ⟨k, hk, rfl, HE, HB⟩ := hrel
    by_cases hlt : k < l.length
    · obtain ⟨ad, rfl, hba, cu⟩ := EL.out k hlt
      replace cu := cu.keep (w' := wr) (fun p hp => HB.out.cell (by rw [hp, block_of_add]; exact hba))
      have hab : (ad.add (k * 3)).block < wr.heap.size := by rw [block_of_add]; have := HB.out.size; omega
      have HD : Hid (((!rightT l[k]) || ((l.drop (k + 1)).any fun b => !rightT b)) = r) := Lib.hid (by rw [← HE.out, List.drop_eq_getElem_cons hlt, List.any_cons])
      have HC := Lib.hid (fun (W : World) => page1_any l[k] W)
      generalize l[k] = f at *
      obtain ⟨k1, k2, k3⟩ := f
      unfold keyV at *
      dsimp only at *
      have a0 := cu.zero
      have a1 := cu.at_ 1 _ rfl (by omega)
      have a2 := cu.at_ 2 _ rfl (by omega)
      clear cu
      generalize (!rightT ⟨k1, k2, k3⟩) = d at *
      go_wp2_with fail
      refine (HC.out wr).mono ?_
      rintro e w2 ⟨rfl, b2⟩
      have HB2 := Lib.hid (HB.out.trans (b2.mono HB.out.size))
      clear a0 a1 a2 b2 hab
      cases d with
      | true =>
        have HN : Hid (r = true) := Lib.hid (by rw [← HD.out, Bool.true_or])
        go_wp2_with fail
        go_ret
        exact ⟨k, rfl, by rw [HN.out]; exact decide_eq_true (by omega), HB2.out⟩
      | false =>
        have HE2 : Hid (((l.drop (k + 1)).any fun b => !rightT b) = r) := Lib.hid (by rw [← HD.out, Bool.false_or])
        go_wp2_with fail
        go_roundw
        case rel => exact ⟨k + 1, by omega, by go_num, HE2, HB2⟩
        case measure => simp [RowKit.intOf]; omega
    · obtain rfl : k = l.length := by omega
      have HN : Hid (r = false) := Lib.hid (by rw [← HE.out, List.drop_length]; rfl)
      go_wp2_with fail
      go_ret
      exact ⟨-1, rfl, by rw [HN.out]; rfl, HB.out⟩
set_option maxRecDepth 100000 in
set_option maxHeartbeats 2000000 in
theorem pageHas_any (A : Option Addr) (cap : Nat) (l : List KeyT) (w : World) (hu : CKeys w w.heap.size A l) (hl : l.length * 32 ≤ 140737488351232) :
    Calls Tryz.prog 37 #[.slice A l.length cap, .func (.func 35) #[] #[]] w (AnsB (l.any fun b => !rightT b) w) := by
  have HI := Lib.hid (pageIdx_any A cap l w hu hl)
  clear hu
  generalize (l.any fun b => !rightT b) = r at *
  go_enter Tryz.func37, Tryz.ntmps37
  go_wp2_with fail
  refine HI.out.mono ?_
  rintro e w1 ⟨z, rfl, hz, hb⟩
  have HZ := Lib.hid hz
  have HB := Lib.hid hb
  clear hz hb
  by_cases h : 0 ≤ z
  · have hd : decide (0 ≤ z) = true := decide_eq_true h
    go_wp2_with fail
    go_ret
    exact ⟨by rw [← HZ.out, hd]; rfl, HB.out⟩
  · have hd : decide (0 ≤ z) = false := decide_eq_false h
    go_wp2_with fail
    go_ret
    exact ⟨by rw [← HZ.out, hd]; rfl, HB.out⟩
end Go.Proofs.YtinmiekbhoemjaaGreatDoor.Qck
end
section
set_option linter.unusedVariables false
namespace Go.Proofs.YtinmiekbhoemjaaGreatDoor.Qck
open Go.RowKit Words Tree SchP QckP Kit Owned Sch Qry
def pageL (n : Nat) : List (List KeyT × Int) → Int
  | [] => 0
  | c :: l => if c.1.length = max 1 n then (if c.1.any (fun b => !rightT b) then 185 else pageL n l) else 185
theorem any_not (l : List KeyT) : l.any (fun b => !rightT b) = !l.all rightT := by
  induction l with
  | nil => rfl
  | cons a l ih => rw [List.any_cons, List.all_cons, ih]; cases rightT a <;> rfl
theorem pageF_ok (size : Int) (n : Nat) (after : List (List KeyT × Int)) (h1 : ¬ size < 0) (h2 : ¬ 1000 < size) (h3 : ¬ 1 < after.length) : pageF size n after = pageL n after := by
  unfold pageF
  rw [if_neg (by omega)]
  match after with
  | [] => rfl
  | [c] =>
    simp only [pageL, any_not]
    by_cases h : c.1.length = max 1 n
    · cases hr : c.1.all rightT <;> simp [h]
    · simp [h]
  | _ :: _ :: _ => exact absurd (show 1 < _ by simp) h3
theorem pageL_drop (n : Nat) (l : List (List KeyT × Int)) (k : Nat) (h : k < l.length) : pageL n (l.drop k) = if l[k].1.length = max 1 n then (if l[k].1.any (fun b => !rightT b) then 185 else pageL n (l.drop (k + 1))) else 185 := by
  rw [List.drop_eq_getElem_cons h, pageL]
theorem cucells_len (c : List KeyT × Int) : (cucells c).length = 2 := rfl
theorem kcells_len (k : KeyT) : (kcells k).length = 3 := rfl
theorem at_kcells {sent : Nat → List (List Value)} {w : World} {S : Nat → Prop} {k : KeyT} {vs : List Value} (h : T.AtL sent w S (kcells k) vs) : vs = [.int .i64 k.kind, .int .i64 k.num, .string k.text] := by
  rw [kcells] at h
  obtain ⟨v0, r, rfl, h0, h⟩ := AtL.cons_ h
  obtain ⟨v1, r, rfl, h1, h⟩ := AtL.cons_ h
  obtain ⟨v2, r, rfl, h2, h⟩ := AtL.cons_ h
  obtain rfl := AtL.nil_ h
  simp only [T.At] at h0 h1 h2
  subst h0 h1 h2
  rfl
theorem at_cucells {sent : Nat → List (List Value)} {w : World} {S : Nat → Prop} {c : List KeyT × Int} {vs : List Value} (h : T.AtL sent w S (cucells c) vs) : ∃ v, vs = [v, .int .u64 c.2] ∧ T.At sent w S (rowT 3 kcells c.1) v := by
  rw [cucells] at h
  obtain ⟨v0, r, rfl, h0, h⟩ := AtL.cons_ h
  obtain ⟨v1, r, rfl, h1, h⟩ := AtL.cons_ h
  obtain rfl := AtL.nil_ h
  simp only [T.At] at h1
  subst h1
  exact ⟨v0, rfl, h0⟩
theorem ckeys_of {w : World} {ks : List KeyT} {v : Value} (h : T.At bare w (fun g => g < w.heap.size) (rowT 3 kcells ks) v) : ∃ A cap, v = .slice A ks.length cap ∧ CKeys w w.heap.size A ks := by
  obtain ⟨A, cap, rfl, hc, hm, hel⟩ := at_row kcells_len h
  refine ⟨A, cap, rfl, fun i hi => ?_⟩
  obtain ⟨ad, us, e, hb, au, lu, cu⟩ := hel i hi
  obtain rfl := at_kcells au
  exact ⟨ad, e, hb, cu⟩
theorem CKeys.below {w w' : World} {A : Option Addr} {l : List KeyT} (h : CKeys w w.heap.size A l) (hb : Below w.heap.size w w') : CKeys w' w'.heap.size A l := by
  intro i hi
  obtain ⟨ad, h1, h2, h4⟩ := h i hi
  exact ⟨ad, h1, Nat.lt_of_lt_of_le h2 hb.size, h4.keep (fun p hp => hb.cell (by rw [hp, block_of_add]; exact h2))⟩
set_option maxRecDepth 100000 in
set_option maxHeartbeats 4000000 in
theorem page_any (ga : Nat) (size : Int) (U : Option Addr) (nS cS : Nat) (after : List (List KeyT × Int)) (v : Value) (w : World) (hga : ga < w.heap.size) (h11 : w.cell? ⟨ga, 11, none⟩ = some (.slice U nS cS)) (h12 : w.cell? ⟨ga, 12, none⟩ = some v) (h13 : w.cell? ⟨ga, 13, none⟩ = some (.int .i64 size))
    (hv : T.At bare w (fun g => g < w.heap.size) (rowT 2 cucells after) v) (hok : after.length * 32 ≤ 140737488351232 ∧ ∀ c ∈ after, COk c) (hn : nS ≤ 140737488351232) :
    Calls Tryz.prog 16 #[.pointer (some ⟨ga, 0, none⟩)] w (Sch.IntB (pageF size nS after) w) := by
  obtain ⟨A, cap, rfl, hc, hm, hel⟩ := at_row cucells_len hv
  have EL := Lib.hid hel
  have HOK := Lib.hid hok.2
  have hal := hok.1
  obtain ⟨r, hr⟩ : ∃ r, pageF size nS after = r := ⟨_, rfl⟩
  have HR := Lib.hid hr
  rw [hr]
  clear hr hok hel hv
  have HBW := Lib.hid (Below.refl w.heap.size w)
  by_cases h1 : size < 0
  · have d1 : decide (size < (0 : Int)) = true := decide_eq_true h1
    have HZ : Hid (r = 185) := Lib.hid (by rw [← HR.out]; unfold pageF; rw [if_pos (.inl h1)])
    go_enter Tryz.func16, Tryz.ntmps16
    go_wp2_with fail
    go_ret
    rw [HZ.out]
    exact ⟨rfl, HBW.out⟩
  have d1 : decide (size < (0 : Int)) = false := decide_eq_false h1
  by_cases h2 : 1000 < size
  · have d2 : decide ((1000 : Int) < size) = true := decide_eq_true h2
    have HZ : Hid (r = 185) := Lib.hid (by rw [← HR.out]; unfold pageF; rw [if_pos (.inr (.inl h2))])
    go_enter Tryz.func16, Tryz.ntmps16
    go_wp2_with fail
    go_ret
    rw [HZ.out]
    exact ⟨rfl, HBW.out⟩
  have d2 : decide ((1000 : Int) < size) = false := decide_eq_false h2
  by_cases h3 : 1 < after.length
  · have d3 : decide ((1 : Int) < (after.length : Int)) = true := decide_eq_true (by omega)
    have HZ : Hid (r = 185) := Lib.hid (by rw [← HR.out]; unfold pageF; rw [if_pos (.inr (.inr h3))])
    clear h3
    go_enter Tryz.func16, Tryz.ntmps16
    go_wp2_with fail
    go_ret
    rw [HZ.out]
    exact ⟨rfl, HBW.out⟩
  have d3 : decide ((1 : Int) < (after.length : Int)) = false := decide_eq_false (by omega)
  have H0 : Hid (pageL nS (after.drop 0) = r) := Lib.hid (by rw [← HR.out, pageF_ok size nS after h1 h2 h3, List.drop_zero])
  have H11 : Hid (∀ W, Below w.heap.size w W → W.cell? ⟨ga, 11, none⟩ = some (.slice U nS cS)) := Lib.hid (fun W hW => (hW.cell (p := ⟨ga, 11, none⟩) hga).trans h11)
  clear HR
  go_enter Tryz.func16, Tryz.ntmps16
  go_wp2_with fail
  go_loopw [35] (fun i wr => ∃ k : Nat, k ≤ after.length ∧ i = .int .i64 k ∧ Hid (pageL nS (after.drop k) = r) ∧ Hid (Below w.heap.size w wr)) (fun i _ => after.length - (intOf i).toNat)
  case atStart => exact ⟨0, by omega, rfl, H0, HBW⟩
  case round =>
    obtain ⟨k, hkk, rfl, HK, HW⟩ := hrel
    by_cases hlt : k < after.length
    · obtain ⟨ad, us, rfl, hba, au, lu, cu⟩ := EL.out k hlt
      replace cu := cu.keep (w' := wr) (fun p hp => HW.out.cell (by rw [hp, block_of_add]; exact hba))
      have hab : (ad.add (k * 2)).block < wr.heap.size := by rw [block_of_add]; have := HW.out.size; omega
      have HD := Lib.hid ((pageL_drop nS after k hlt).symm.trans HK.out)
      have HCO := Lib.hid (HOK.out _ (List.getElem_mem hlt))
      generalize after[k] = c at *
      obtain ⟨v0, rfl, hv0⟩ := at_cucells au
      obtain ⟨KX, cK, rfl, hkx⟩ := ckeys_of hv0
      have HKX := Lib.hid hkx
      obtain ⟨ckl, seq⟩ := c
      dsimp only at *
      have a0 := cu.zero
      have a1 := cu.at_ 1 _ rfl (by omega)
      clear cu au hv0 hkx lu
      have c11 := H11.out wr HW.out
      go_upto_region 7 with fail
      have HB7 := Lib.hid (HW.out.alloc HW.out.size (Obj.cells #[.slice KX ckl.length cK, .int .u64 seq] 61))
      have BC := Lib.hid (Blk.new wr 61 #[.slice KX ckl.length cK, .int .u64 seq])
      have hcl : ckl.length * 32 ≤ 140737488351232 := HCO.out.1
      generalize wr.alloc (Obj.cells #[.slice KX ckl.length cK, .int .u64 seq] 61) = W7 at *
      have hgc : w.heap.size ≤ wr.heap.size := HW.out.size
      generalize wr.heap.size = gc at *
      have hd7 : Below W7.heap.size W7 W7.drew := (Below.refl _ W7).drew
      by_cases hlen : ckl.length = max 1 nS
      · have hle : ((ckl.length : Int) != if (1 : Int) < (nS : Int) then (nS : Int) else 1) = false := by rw [bne_eq_false_iff_eq]; split <;> omega
        have HD2 : Hid ((if ckl.any (fun b => !rightT b) then 185 else pageL nS (after.drop (k + 1))) = r) := Lib.hid (by rw [← HD.out, if_pos hlen])
        clear HD hlen
        refine wp_region_held_drew (S := fun V => Below W7.heap.size W7 V) (by kernel_rfl) hd7 (fun hS0 => ?_)
        refine' wpAnyH_take (i := 0) (v := _) (by simp only [List.getElem?_toArray, List.getElem?_cons_zero]; rfl) (by kernel_rfl) (by kernel_rfl) (by kernel_rfl) (by exact fun _ _ _ h => h) (Or.inl ⟨by rfl, ?hy0⟩) hS0 ?rest0
        case hy0 => intro V hSw; clear hSw; go_simp; try with_reducible rfl
        try simp only [Act.put, List.setIfInBounds_toArray, List.set_cons_zero, List.set_cons_succ]
        refine' wpAnyH_take (i := 1) (v := _) (by simp only [List.getElem?_toArray, List.getElem?_cons_succ, List.getElem?_cons_zero]; rfl) (by kernel_rfl) (by kernel_rfl) (by kernel_rfl) (by exact fun _ _ _ h => h) (Or.inl ⟨by rfl, ?hy1⟩) hS0 ?rest1
        case hy1 => intro V hSw; have fq : V.cell? ⟨gc, 0, none⟩ = some (.slice KX ckl.length cK) := (BC.out.below hSw BC.out.lt).cell 0; clear hSw; go_simp; try with_reducible rfl
        try simp only [Act.put, List.setIfInBounds_toArray, List.set_cons_zero, List.set_cons_succ]
        refine' wpAnyH_take (i := 2) (v := _) (by simp only [List.getElem?_toArray, List.getElem?_cons_succ, List.getElem?_cons_zero]; rfl) (by kernel_rfl) (by kernel_rfl) (by kernel_rfl) (by exact fun _ _ _ h => h) (Or.inl ⟨by rfl, ?hy2⟩) hS0 ?rest2
        case hy2 => intro V hSw; clear hSw; go_simp; try with_reducible rfl
        try simp only [Act.put, List.setIfInBounds_toArray, List.set_cons_zero, List.set_cons_succ]
        refine' wpAnyH_take (i := 3) (v := _) (by simp only [List.getElem?_toArray, List.getElem?_cons_succ, List.getElem?_cons_zero]; rfl) (by kernel_rfl) (by kernel_rfl) (by kernel_rfl) (by exact fun _ _ _ h => h) (Or.inl ⟨by rfl, ?hy3⟩) hS0 ?rest3
        case hy3 => intro V hSw; clear hSw; go_simp; try with_reducible rfl
        try simp only [Act.put, List.setIfInBounds_toArray, List.set_cons_zero, List.set_cons_succ]
        refine' wpAnyH_take (i := 4) (v := _) (by simp only [List.getElem?_toArray, List.getElem?_cons_succ, List.getElem?_cons_zero]; rfl) (by kernel_rfl) (by kernel_rfl) (by kernel_rfl) (by exact fun _ _ _ h => h) (Or.inl ⟨by rfl, ?hy4⟩) hS0 ?rest4
        case hy4 => intro V hSw; clear hSw; go_simp; try with_reducible rfl
        try simp only [Act.put, List.setIfInBounds_toArray, List.set_cons_zero, List.set_cons_succ]
        refine' wpAnyH_take (i := 5) (v := _) (by simp only [List.getElem?_toArray, List.getElem?_cons_succ, List.getElem?_cons_zero]; rfl) (by kernel_rfl) (by kernel_rfl) (by kernel_rfl) (by exact fun _ _ _ h => h) (Or.inl ⟨by rfl, ?hy5⟩) hS0 ?rest5
        case hy5 => intro V hSw; clear hSw; go_simp; try with_reducible rfl
        try simp only [Act.put, List.setIfInBounds_toArray, List.set_cons_zero, List.set_cons_succ]
        refine' wpAnyH_take (i := 6) (v := _) (by simp only [List.getElem?_toArray, List.getElem?_cons_succ, List.getElem?_cons_zero]; rfl) (by kernel_rfl) (by kernel_rfl) (by kernel_rfl) (by exact fun _ _ _ h => h) (Or.inl ⟨by rfl, ?hy6⟩) hS0 ?rest6
        case hy6 => intro V hSw; clear hSw; go_simp; try with_reducible rfl
        try simp only [Act.put, List.setIfInBounds_toArray, List.set_cons_zero, List.set_cons_succ]
        refine' wpAnyH_take (i := 7) (v := _) (by simp only [List.getElem?_toArray, List.getElem?_cons_succ, List.getElem?_cons_zero]; rfl) (by kernel_rfl) (by kernel_rfl) (by kernel_rfl) (by exact fun _ _ _ h => h) (Or.inl ⟨by rfl, ?hy7⟩) hS0 ?rest7
        case hy7 => intro V hSw; have fq := H11.out V (HB7.out.trans (hSw.mono HB7.out.size)); clear hSw; go_simp; try with_reducible rfl
        try simp only [Act.put, List.setIfInBounds_toArray, List.set_cons_zero, List.set_cons_succ]
        refine' wpAnyH_take (i := 8) (v := _) (by simp only [List.getElem?_toArray, List.getElem?_cons_succ, List.getElem?_cons_zero]; rfl) (by kernel_rfl) (by kernel_rfl) (by kernel_rfl) (by exact fun _ _ _ h => h) (Or.inl ⟨by rfl, ?hy8⟩) hS0 ?rest8
        case hy8 => intro V hSw; clear hSw; go_simp; try with_reducible rfl
        try simp only [Act.put, List.setIfInBounds_toArray, List.set_cons_zero, List.set_cons_succ]
        refine' wpAnyH_take (i := 9) (v := _) (by simp only [List.getElem?_toArray, List.getElem?_cons_succ, List.getElem?_cons_zero]; rfl) (by kernel_rfl) (by kernel_rfl) (by kernel_rfl) (by exact fun _ _ _ h => h) (Or.inl ⟨by rfl, ?hy9⟩) hS0 ?rest9
        case hy9 => intro V hSw; clear hSw; go_simp; try with_reducible rfl
        try simp only [Act.put, List.setIfInBounds_toArray, List.set_cons_zero, List.set_cons_succ]
        generalize (if (1 : Int) < (nS : Int) then (nS : Int) else 1) = M at *
        refine' wpAnyH_take (i := 10) (v := _) (by simp only [List.getElem?_toArray, List.getElem?_cons_succ, List.getElem?_cons_zero]; rfl) (by kernel_rfl) (by kernel_rfl) (by kernel_rfl) (by exact fun _ _ _ h => h) (Or.inl ⟨by rfl, ?hy10⟩) hS0 ?rest10
        case hy10 => intro V hSw; clear hSw; go_simp; try with_reducible rfl
        try simp only [Act.put, List.setIfInBounds_toArray, List.set_cons_zero, List.set_cons_succ]
        refine' wpAnyH_take (i := 11) (v := _) (by simp only [List.getElem?_toArray, List.getElem?_cons_succ, List.getElem?_cons_zero]; rfl) (by kernel_rfl) (by kernel_rfl) (by kernel_rfl) (by exact fun _ _ _ h => h) (Or.inl ⟨by rfl, ?hy11⟩) hS0 ?rest11
        case hy11 => intro V hSw; clear hSw; go_simp; try with_reducible rfl
        try simp only [Act.put, List.setIfInBounds_toArray, List.set_cons_zero, List.set_cons_succ]
        refine' wpAnyH_take (i := 12) (v := _) (by simp only [List.getElem?_toArray, List.getElem?_cons_succ, List.getElem?_cons_zero]; rfl) (by kernel_rfl) (by kernel_rfl) (by kernel_rfl) (by exact fun _ _ _ h => h) (Or.inl ⟨by rfl, ?hy12⟩) hS0 ?rest12
        case hy12 => intro V hSw; clear hSw; go_simp; try with_reducible rfl
        try simp only [Act.put, List.setIfInBounds_toArray, List.set_cons_zero, List.set_cons_succ]
        refine' wpAnyH_take (i := 13) (v := _) (by simp only [List.getElem?_toArray, List.getElem?_cons_succ, List.getElem?_cons_zero]; rfl) (by kernel_rfl) (by kernel_rfl) (by kernel_rfl) (by exact fun _ _ _ h => h) (Or.inl ⟨by rfl, ?hy13⟩) hS0 ?rest13
        case hy13 => intro V hSw; have fq : V.cell? ⟨gc, 0, none⟩ = some (.slice KX ckl.length cK) := (BC.out.below hSw BC.out.lt).cell 0; clear hSw; go_simp; try with_reducible rfl
        try simp only [Act.put, List.setIfInBounds_toArray, List.set_cons_zero, List.set_cons_succ]
        refine' wpAnyH_take (i := 14) (v := _) (by simp only [List.getElem?_toArray, List.getElem?_cons_succ, List.getElem?_cons_zero]; rfl) (by kernel_rfl) (by kernel_rfl) (by kernel_rfl) (by exact fun _ _ _ h => h) (Or.inl ⟨by rfl, ?hy14⟩) hS0 ?rest14
        case hy14 => intro V hSw; clear hSw; go_simp; try with_reducible rfl
        try simp only [Act.put, List.setIfInBounds_toArray, List.set_cons_zero, List.set_cons_succ]
        refine wpAnyH_ready (rs := [15]) (by kernel_rfl) (by simp) ?_
        refine' AllReadyH.cons (by simp only [List.getElem?_toArray, List.getElem?_cons_succ, List.getElem?_cons_zero]; rfl) (fun K hK => ?_) AllReadyH.nil
        go_simp
        refine (pageHas_any KX cK ckl _ (HKX.out.below (HB7.out.trans (hS0.mono HB7.out.size))) hcl).mono ?_
        rintro e V1 ⟨rfl, q⟩
        have B1 := Lib.hid (Below.trans hS0 (q.mono (hS0).size))
        generalize (ckl.any fun b => !rightT b) = bd at *
        clear q
        go_simp
        refine hK.out _ _ B1.out (fun hS1 => ?_)
        try simp only [Act.put, List.setIfInBounds_toArray, List.set_cons_zero, List.set_cons_succ]
        refine' wpAnyH_take (i := 16) (v := _) (by simp only [List.getElem?_toArray, List.getElem?_cons_succ, List.getElem?_cons_zero]; rfl) (by kernel_rfl) (by kernel_rfl) (by kernel_rfl) (by exact fun _ _ _ h => h) (Or.inl ⟨by rfl, ?hy16⟩) hS1 ?rest16
        case hy16 => intro V hSw; clear hSw; go_simp; try with_reducible rfl
        try simp only [Act.put, List.setIfInBounds_toArray, List.set_cons_zero, List.set_cons_succ]
        refine wpAnyH_done (by kernel_rfl) ?_ _
        have HB9 := Lib.hid (HB7.out.trans (B1.out.mono HB7.out.size))
        clear hS0 hS1 c11
        cases bd with
        | true =>
          have HZ : Hid (r = 185) := Lib.hid (HD2.out.symm)
          go_wp2_with fail
          go_ret
          rw [HZ.out]
          exact ⟨rfl, HB9.out⟩
        | false =>
          have HZ : Hid (pageL nS (after.drop (k + 1)) = r) := Lib.hid (HD2.out)
          go_wp2_with fail
          go_roundw
          case rel => exact ⟨k + 1, by omega, by go_num, HZ, HB9⟩
          case measure => simp [intOf]; omega
      · have hle : ((ckl.length : Int) != if (1 : Int) < (nS : Int) then (nS : Int) else 1) = true := by rw [bne_iff_ne]; split <;> omega
        have HZ : Hid (r = 185) := Lib.hid (by rw [← HD.out, if_neg hlen])
        clear hlen HD
        refine wp_region_held_drew (S := fun V => Below W7.heap.size W7 V) (by kernel_rfl) hd7 (fun hSn0 => ?_)
        refine' wpAnyH_take (i := 0) (v := _) (by simp only [List.getElem?_toArray, List.getElem?_cons_zero]; rfl) (by kernel_rfl) (by kernel_rfl) (by kernel_rfl) (by exact fun _ _ _ h => h) (Or.inl ⟨by rfl, ?hyn0⟩) hSn0 ?restn0
        case hyn0 => intro V hSw; clear hSw; go_simp; try with_reducible rfl
        try simp only [Act.put, List.setIfInBounds_toArray, List.set_cons_zero, List.set_cons_succ]
        refine' wpAnyH_take (i := 1) (v := _) (by simp only [List.getElem?_toArray, List.getElem?_cons_succ, List.getElem?_cons_zero]; rfl) (by kernel_rfl) (by kernel_rfl) (by kernel_rfl) (by exact fun _ _ _ h => h) (Or.inl ⟨by rfl, ?hyn1⟩) hSn0 ?restn1
        case hyn1 => intro V hSw; have fq : V.cell? ⟨gc, 0, none⟩ = some (.slice KX ckl.length cK) := (BC.out.below hSw BC.out.lt).cell 0; clear hSw; go_simp; try with_reducible rfl
        try simp only [Act.put, List.setIfInBounds_toArray, List.set_cons_zero, List.set_cons_succ]
        refine' wpAnyH_take (i := 2) (v := _) (by simp only [List.getElem?_toArray, List.getElem?_cons_succ, List.getElem?_cons_zero]; rfl) (by kernel_rfl) (by kernel_rfl) (by kernel_rfl) (by exact fun _ _ _ h => h) (Or.inl ⟨by rfl, ?hyn2⟩) hSn0 ?restn2
        case hyn2 => intro V hSw; clear hSw; go_simp; try with_reducible rfl
        try simp only [Act.put, List.setIfInBounds_toArray, List.set_cons_zero, List.set_cons_succ]
        refine' wpAnyH_take (i := 3) (v := _) (by simp only [List.getElem?_toArray, List.getElem?_cons_succ, List.getElem?_cons_zero]; rfl) (by kernel_rfl) (by kernel_rfl) (by kernel_rfl) (by exact fun _ _ _ h => h) (Or.inl ⟨by rfl, ?hyn3⟩) hSn0 ?restn3
        case hyn3 => intro V hSw; clear hSw; go_simp; try with_reducible rfl
        try simp only [Act.put, List.setIfInBounds_toArray, List.set_cons_zero, List.set_cons_succ]
        refine' wpAnyH_take (i := 4) (v := _) (by simp only [List.getElem?_toArray, List.getElem?_cons_succ, List.getElem?_cons_zero]; rfl) (by kernel_rfl) (by kernel_rfl) (by kernel_rfl) (by exact fun _ _ _ h => h) (Or.inl ⟨by rfl, ?hyn4⟩) hSn0 ?restn4
        case hyn4 => intro V hSw; clear hSw; go_simp; try with_reducible rfl
        try simp only [Act.put, List.setIfInBounds_toArray, List.set_cons_zero, List.set_cons_succ]
        refine' wpAnyH_take (i := 5) (v := _) (by simp only [List.getElem?_toArray, List.getElem?_cons_succ, List.getElem?_cons_zero]; rfl) (by kernel_rfl) (by kernel_rfl) (by kernel_rfl) (by exact fun _ _ _ h => h) (Or.inl ⟨by rfl, ?hyn5⟩) hSn0 ?restn5
        case hyn5 => intro V hSw; clear hSw; go_simp; try with_reducible rfl
        try simp only [Act.put, List.setIfInBounds_toArray, List.set_cons_zero, List.set_cons_succ]
        refine' wpAnyH_take (i := 6) (v := _) (by simp only [List.getElem?_toArray, List.getElem?_cons_succ, List.getElem?_cons_zero]; rfl) (by kernel_rfl) (by kernel_rfl) (by kernel_rfl) (by exact fun _ _ _ h => h) (Or.inl ⟨by rfl, ?hyn6⟩) hSn0 ?restn6
        case hyn6 => intro V hSw; clear hSw; go_simp; try with_reducible rfl
        try simp only [Act.put, List.setIfInBounds_toArray, List.set_cons_zero, List.set_cons_succ]
        refine' wpAnyH_take (i := 7) (v := _) (by simp only [List.getElem?_toArray, List.getElem?_cons_succ, List.getElem?_cons_zero]; rfl) (by kernel_rfl) (by kernel_rfl) (by kernel_rfl) (by exact fun _ _ _ h => h) (Or.inl ⟨by rfl, ?hyn7⟩) hSn0 ?restn7
        case hyn7 => intro V hSw; have fq := H11.out V (HB7.out.trans (hSw.mono HB7.out.size)); clear hSw; go_simp; try with_reducible rfl
        try simp only [Act.put, List.setIfInBounds_toArray, List.set_cons_zero, List.set_cons_succ]
        refine' wpAnyH_take (i := 8) (v := _) (by simp only [List.getElem?_toArray, List.getElem?_cons_succ, List.getElem?_cons_zero]; rfl) (by kernel_rfl) (by kernel_rfl) (by kernel_rfl) (by exact fun _ _ _ h => h) (Or.inl ⟨by rfl, ?hyn8⟩) hSn0 ?restn8
        case hyn8 => intro V hSw; clear hSw; go_simp; try with_reducible rfl
        try simp only [Act.put, List.setIfInBounds_toArray, List.set_cons_zero, List.set_cons_succ]
        refine' wpAnyH_take (i := 9) (v := _) (by simp only [List.getElem?_toArray, List.getElem?_cons_succ, List.getElem?_cons_zero]; rfl) (by kernel_rfl) (by kernel_rfl) (by kernel_rfl) (by exact fun _ _ _ h => h) (Or.inl ⟨by rfl, ?hyn9⟩) hSn0 ?restn9
        case hyn9 => intro V hSw; clear hSw; go_simp; try with_reducible rfl
        try simp only [Act.put, List.setIfInBounds_toArray, List.set_cons_zero, List.set_cons_succ]
        generalize (if (1 : Int) < (nS : Int) then (nS : Int) else 1) = M at *
        refine' wpAnyH_take (i := 10) (v := _) (by simp only [List.getElem?_toArray, List.getElem?_cons_succ, List.getElem?_cons_zero]; rfl) (by kernel_rfl) (by kernel_rfl) (by kernel_rfl) (by exact fun _ _ _ h => h) (Or.inl ⟨by rfl, ?hyn10⟩) hSn0 ?restn10
        case hyn10 => intro V hSw; clear hSw; go_simp; try with_reducible rfl
        try simp only [Act.put, List.setIfInBounds_toArray, List.set_cons_zero, List.set_cons_succ]
        refine' wpAnyH_take (i := 11) (v := _) (by simp only [List.getElem?_toArray, List.getElem?_cons_succ, List.getElem?_cons_zero]; rfl) (by kernel_rfl) (by kernel_rfl) (by kernel_rfl) (by exact fun _ _ _ h => h) (Or.inl ⟨by rfl, ?hyn11⟩) hSn0 ?restn11
        case hyn11 => intro V hSw; clear hSw; go_simp; try with_reducible rfl
        try simp only [Act.put, List.setIfInBounds_toArray, List.set_cons_zero, List.set_cons_succ]
        refine' wpAnyH_take (i := 12) (v := undef) (by simp only [List.getElem?_toArray, List.getElem?_cons_succ, List.getElem?_cons_zero]; rfl) (by kernel_rfl) (by kernel_rfl) (by kernel_rfl) (by exact fun _ _ _ h => h) (Or.inr ⟨by rfl, rfl⟩) hSn0 ?restn12
        try simp only [Act.put, List.setIfInBounds_toArray, List.set_cons_zero, List.set_cons_succ]
        refine' wpAnyH_take (i := 13) (v := undef) (by simp only [List.getElem?_toArray, List.getElem?_cons_succ, List.getElem?_cons_zero]; rfl) (by kernel_rfl) (by kernel_rfl) (by kernel_rfl) (by exact fun _ _ _ h => h) (Or.inr ⟨by rfl, rfl⟩) hSn0 ?restn13
        try simp only [Act.put, List.setIfInBounds_toArray, List.set_cons_zero, List.set_cons_succ]
        refine' wpAnyH_take (i := 14) (v := undef) (by simp only [List.getElem?_toArray, List.getElem?_cons_succ, List.getElem?_cons_zero]; rfl) (by kernel_rfl) (by kernel_rfl) (by kernel_rfl) (by exact fun _ _ _ h => h) (Or.inr ⟨by rfl, rfl⟩) hSn0 ?restn14
        try simp only [Act.put, List.setIfInBounds_toArray, List.set_cons_zero, List.set_cons_succ]
        refine' wpAnyH_take (i := 15) (v := undef) (by simp only [List.getElem?_toArray, List.getElem?_cons_succ, List.getElem?_cons_zero]; rfl) (by kernel_rfl) (by kernel_rfl) (by kernel_rfl) (by exact fun _ _ _ h => h) (Or.inr ⟨by rfl, rfl⟩) hSn0 ?restn15
        try simp only [Act.put, List.setIfInBounds_toArray, List.set_cons_zero, List.set_cons_succ]
        refine' wpAnyH_take (i := 16) (v := _) (by simp only [List.getElem?_toArray, List.getElem?_cons_succ, List.getElem?_cons_zero]; rfl) (by kernel_rfl) (by kernel_rfl) (by kernel_rfl) (by exact fun _ _ _ h => h) (Or.inl ⟨by rfl, ?hyn16⟩) hSn0 ?restn16
        case hyn16 => intro V hSw; clear hSw; go_simp; try with_reducible rfl
        try simp only [Act.put, List.setIfInBounds_toArray, List.set_cons_zero, List.set_cons_succ]
        refine wpAnyH_done (by kernel_rfl) ?_ _
        have HB9 := Lib.hid (HB7.out.trans (hSn0.mono HB7.out.size))
        go_wp2_with fail
        go_ret
        rw [HZ.out]
        exact ⟨rfl, HB9.out⟩
    · obtain rfl : k = after.length := by omega
      have HZ : Hid (r = 0) := Lib.hid (by rw [← HK.out, List.drop_length, pageL])
      go_wp2_with fail
      go_ret
      rw [HZ.out]
      exact ⟨rfl, HW.out⟩
end Go.Proofs.YtinmiekbhoemjaaGreatDoor.Qck
end
