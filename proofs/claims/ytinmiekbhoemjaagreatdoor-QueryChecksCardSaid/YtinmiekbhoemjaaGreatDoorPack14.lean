/- Contract: query.own at any part. Contract: query.numeric. Contract: asker.collapse. Contract: asker.fields. -/
import Derived.Test.YtinmiekbhoemjaaGreatDoorQryOwnK2
import Derived.Test.YtinmiekbhoemjaaGreatDoorPack12
section
set_option linter.unusedVariables false
namespace Go.Proofs.YtinmiekbhoemjaaGreatDoor.Qry
open Go.RowKit Words Tree QryP Kit Sch SchP

theorem emp_is : (⟨#[]⟩ : ByteArray) = ByteArray.empty := rfl
section
variable {k oc : Int} {f t u : ByteArray} {lo hi : List Int} {b op under : Int} {ks : List QT}
theorem own_flat : ownB (.mk k oc f t u lo hi b op ks) under = ((occB under oc && decide (1 ≤ k ∧ k ≤ 10)) && (if 3 ≤ k ∧ k ≤ 7 ∨ k = 10 then nameB f else decide (f.size = 0))
    && (decide (3 ≤ k ∧ k ≤ 6) || decide (t.size = 0)) && (decide (k = 6) || decide (u.size = 0))
    && (if k = 7 then decide (1 ≤ lo.length ∧ lo.length ≤ 4 ∧ hi.length = lo.length) else if k = 10 then decide (lo.length = 1 ∧ hi.length = 0) else decide (lo.length = 0 ∧ hi.length = 0))
    && (if k = 9 then decide (0 ≤ b ∧ b ≤ 1048576) else decide (b = 0))
    && (if k = 10 then decide (1 ≤ op ∧ op ≤ 3) else decide (op = 0))
    && (if k = 9 ∨ k = 10 then decide (ks.length = 1) else decide (k = 8) || decide (ks.length = 0))) := rfl
theorem own_off (h : occB under oc = false) : ownB (.mk k oc f t u lo hi b op ks) under = false := by rw [own_flat, h]; simp
theorem own_out (h : k < 1 ∨ 10 < k) : ownB (.mk k oc f t u lo hi b op ks) under = false := by rw [own_flat, decide_eq_false (by omega)]; simp
theorem own_is12 (h : occB under oc = true) (hk : k = 1 ∨ k = 2) : ownB (.mk k oc f t u lo hi b op ks) under = emptyB f t u lo.length hi.length b op ks.length := by
  rw [own_flat, h, Bool.eq_iff_iff]; rcases hk with rfl | rfl <;> simp [emptyB] <;> intros <;> constructor <;> intro h <;> simp_all
theorem own_is345 (h : occB under oc = true) (hk : k = 3 ∨ k = 4 ∨ k = 5) : ownB (.mk k oc f t u lo hi b op ks) under = (nameB f && emptyB ⟨#[]⟩ ⟨#[]⟩ u lo.length hi.length b op ks.length) := by
  rw [own_flat, h, Bool.eq_iff_iff]; rcases hk with rfl | rfl | rfl <;> simp [emptyB, emp_is] <;> intros <;> constructor <;> intro h <;> simp_all
theorem own_is6 (h : occB under oc = true) (hk : k = 6) : ownB (.mk k oc f t u lo hi b op ks) under = (nameB f && emptyB ⟨#[]⟩ ⟨#[]⟩ ⟨#[]⟩ lo.length hi.length b op ks.length) := by
  rw [own_flat, h, Bool.eq_iff_iff]; subst hk; simp [emptyB, emp_is] <;> intros <;> constructor <;> intro h <;> simp_all
theorem own_is7 (h : occB under oc = true) (hk : k = 7) : ownB (.mk k oc f t u lo hi b op ks) under = (decide (1 ≤ lo.length ∧ lo.length ≤ 4 ∧ hi.length = lo.length) && nameB f && emptyB ⟨#[]⟩ t u 0 0 b op ks.length) := by
  rw [own_flat, h, Bool.eq_iff_iff]; subst hk; simp [emptyB, emp_is] <;> intros <;> constructor <;> intro h <;> simp_all
theorem own_is8 (h : occB under oc = true) (hk : k = 8) : ownB (.mk k oc f t u lo hi b op ks) under = emptyB f t u lo.length hi.length b op 0 := by
  rw [own_flat, h, Bool.eq_iff_iff]; subst hk; simp [emptyB] <;> intros <;> constructor <;> intro h <;> simp_all
theorem own_is9 (h : occB under oc = true) (hk : k = 9) : ownB (.mk k oc f t u lo hi b op ks) under = (decide (0 ≤ b ∧ b ≤ 1048576 ∧ ks.length = 1) && emptyB f t u lo.length hi.length 0 op 0) := by
  rw [own_flat, h, Bool.eq_iff_iff]; subst hk; simp [emptyB] <;> intros <;> constructor <;> intro h <;> simp_all
theorem own_is10 (h : occB under oc = true) (hk : k = 10) : ownB (.mk k oc f t u lo hi b op ks) under = (decide (1 ≤ op ∧ op ≤ 3 ∧ lo.length = 1 ∧ ks.length = 1) && nameB f && emptyB ⟨#[]⟩ t u 0 hi.length b 0 0) := by
  rw [own_flat, h, Bool.eq_iff_iff]; subst hk; simp [emptyB, emp_is] <;> intros <;> constructor <;> intro h <;> simp_all
end
/-- query.own at any part. -/
theorem own_any (k oc : Int) (f t u : ByteArray) (lo hi : List Int) (b op : Int) (ks : List QT) (L H K : Option Addr) (cl ch ck : Nat) (under : Int) (w : World) (hf : f.size ≤ 140737488351232) :
    Calls Tryz.prog 50 #[.agg #[.int .i64 k, .int .i64 oc, .string f, .string t, .string u, .slice L lo.length cl, .slice H hi.length ch, .int .i64 b, .int .i64 op, .slice K ks.length ck], .int .i64 under] w (AnsB (ownB (.mk k oc f t u lo hi b op ks) under) w) := by
  have ho := occ_cases under oc
  by_cases h : occB under oc = true
  · have h' := h
    rw [h] at ho
    have key : (occB under oc = true ∧ under = 8 ∧ 1 ≤ oc ∧ oc ≤ 4) ∨ (occB under oc = true ∧ ¬ under = 8 ∧ oc = 0) := by
      rcases ho with h1 | h1 | ⟨h1, _⟩ | ⟨h1, _⟩ | ⟨h1, _⟩
      · exact .inl ⟨h, h1.2⟩
      · exact .inr ⟨h, h1.2⟩
      all_goals cases h1
    have hk : (k < 1 ∨ 10 < k) ∨ (k = 1 ∨ k = 2) ∨ (k = 3 ∨ k = 4 ∨ k = 5) ∨ k = 6 ∨ k = 7 ∨ k = 8 ∨ k = 9 ∨ k = 10 := by omega
    rcases hk with hk | hk | hk | hk | hk | hk | hk | hk
    · rw [own_out hk]
      rcases key with g | g
      · exact own_no_0 k oc f t u L H K _ cl _ ch _ ck b op under w g hk
      · exact own_no_1 k oc f t u L H K _ cl _ ch _ ck b op under w g hk
    · rw [own_is12 h hk]; exact own_12 k oc f t u L H K _ cl _ ch _ ck b op under w h hk
    · rw [own_is345 h hk]
      rcases key with g | g
      · exact own_345_0 k oc f t u L H K _ cl _ ch _ ck b op under w g hk hf
      · exact own_345_1 k oc f t u L H K _ cl _ ch _ ck b op under w g hk hf
    · rw [own_is6 h hk]
      rcases key with g | g
      · exact own_6_0 k oc f t u L H K _ cl _ ch _ ck b op under w g hk hf
      · exact own_6_1 k oc f t u L H K _ cl _ ch _ ck b op under w g hk hf
    · rw [own_is7 h hk]
      rcases key with g | g
      · exact own_7_0 k oc f t u L H K _ cl _ ch _ ck b op under w g hk hf
      · exact own_7_1 k oc f t u L H K _ cl _ ch _ ck b op under w g hk hf
    · rw [own_is8 h hk]
      rcases key with g | g
      · exact own_8_0 k oc f t u L H K _ cl _ ch _ ck b op under w g hk
      · exact own_8_1 k oc f t u L H K _ cl _ ch _ ck b op under w g hk
    · rw [own_is9 h hk]
      rcases key with g | g
      · exact own_9_0 k oc f t u L H K _ cl _ ch _ ck b op under w g hk
      · exact own_9_1 k oc f t u L H K _ cl _ ch _ ck b op under w g hk
    · rw [own_is10 h hk]
      rcases key with g | g
      · exact own_10_0 k oc f t u L H K _ cl _ ch _ ck b op under w g hk hf
      · exact own_10_1 k oc f t u L H K _ cl _ ch _ ck b op under w g hk hf
  · have h0 : occB under oc = false := by simpa using h
    rw [own_off h0]
    exact own_occ k oc f t u L H K _ cl _ ch _ ck b op under w h0
end Go.Proofs.YtinmiekbhoemjaaGreatDoor.Qry
end
section
set_option linter.unusedVariables false
namespace Go.Proofs.YtinmiekbhoemjaaGreatDoor.Qck
open Go.RowKit Words Tree SchP QckP Kit Owned Sch Qry
set_option maxRecDepth 100000 in
theorem numeric_any (a : ByteArray) (k : Int) (X : Option Addr) (n z : Nat) (s d : Int) (m st : Bool) (w : World) :
    Calls Tryz.prog 62 #[.agg #[.string a, .int .i64 k, .slice X n z, .int .i64 s, .int .i64 d, .bool m, .bool st]] w (AnsB (decide (k = 3) || decide (k = 4)) w) := by
  have hb := (Below.refl w.heap.size w).alloc (Nat.le_refl _) (Obj.cells #[.string a, .int .i64 k, .slice X n z, .int .i64 s, .int .i64 d, .bool m, .bool st] 46)
  have HB := Lib.hid hb
  clear hb
  rcases (show k = 3 ∨ k = 4 ∨ (¬ k = 3 ∧ ¬ k = 4) by omega) with rfl | rfl | ⟨h3, h4⟩
  all_goals
    go_enter Tryz.func62, Tryz.ntmps62
    go_wp2_with fail
    go_ret
    exact ⟨by simp [*], HB.out⟩
end Go.Proofs.YtinmiekbhoemjaaGreatDoor.Qck
end
section
set_option linter.unusedVariables false
namespace Go.Proofs.YtinmiekbhoemjaaGreatDoor.Qck
open Go.RowKit Words Tree SchP QckP Kit Owned Sch Qry
theorem toList_nil {s : ByteArray} (h : s.size = 0) : s = ⟨#[]⟩ := by
  obtain ⟨d⟩ := s
  have : d = #[] := Array.eq_empty_of_size_eq_zero h
  rw [this]
set_option maxRecDepth 100000 in
set_option maxHeartbeats 4000000 in
theorem collapse_any (ga : Nat) (l : List FT) (s : ByteArray) (w : World) (h : Sk w ga l) (hc : w.cell? ⟨ga, 14, none⟩ = some (.string s)) :
    Calls Tryz.prog 15 #[.pointer (some ⟨ga, 0, none⟩)] w (Sch.IntB (collF l s) w) := by
  have HS := Lib.hid h
  have hga := h.1
  clear h
  have HB := Lib.hid (Below.refl w.heap.size w)
  by_cases h0 : s.size = 0
  · have hs := toList_nil h0
    subst hs
    clear h0
    go_enter Tryz.func15, Tryz.ntmps15
    go_wp2_with fail
    go_ret
    exact ⟨by rw [collF, if_pos (by rfl)]; rfl, HB.out⟩
  have hne : (s.toList == (⟨#[]⟩ : ByteArray).toList) = false := by
    rcases str_cases s ⟨#[]⟩ with ⟨e, _⟩ | ⟨_, e⟩
    · exact absurd (by rw [e]; rfl) h0
    · exact e
  have hn2 : ¬ s.toList = [] := fun e => h0 (size_nil.1 e)
  have hn3 : (s.toList == []) = false := by rw [beq_eq_false_iff_ne]; exact hn2
  have hn4 : ¬ s = ⟨#[]⟩ := fun e => h0 (by rw [e]; rfl)
  have HF := Lib.hid (field_any ga l s w HS.out)
  have HC : Hid (collF l s = if (fieldG l s).2 = 0 then (if (fieldG l s).1.kind = 2 then 0 else 82) else (fieldG l s).2) := Lib.hid (by
    rw [collF, if_neg h0, fieldG]
    cases fieldF l s <;> rfl)
  have HG : Hid ((fieldG l s).2 = 0 ∨ (fieldG l s).2 = 81) := Lib.hid (by
    rw [fieldG]
    cases fieldF l s <;> simp)
  clear h0
  go_enter Tryz.func15, Tryz.ntmps15
  go_wp2_with fail
  refine HF.out.mono ?_
  rintro e w1 ⟨vs, rfl, hb, hat⟩
  generalize collF l s = r at *
  generalize fieldG l s = fe at *
  obtain ⟨⟨f0, f1, f2, f3, f4, f5, f6⟩, n⟩ := fe
  obtain ⟨vc, rfl, gc⟩ := at_fcells hat
  obtain ⟨X, z, rfl, _, _⟩ := at_slice gc
  dsimp only at *
  have HB1 := Lib.hid hb
  clear hb hat gc HF hc hne hn2 hn3 hn4
  rcases HG.out with h1 | h1
  · subst h1
    by_cases h2 : f1 = 2
    · subst h2
      go_wp2_with fail
      go_ret
      exact ⟨by rw [HC.out]; rfl, HB1.out.alloc HB1.out.size _⟩
    · have h3 : (f1 != (2 : Int)) = true := by rw [bne_iff_ne]; exact h2
      go_wp2_with fail
      go_ret
      exact ⟨by rw [HC.out]; simp [h2], HB1.out.alloc HB1.out.size _⟩
  · subst h1
    go_wp2_with fail
    go_ret
    exact ⟨by rw [HC.out]; rfl, HB1.out.alloc HB1.out.size _⟩
end Go.Proofs.YtinmiekbhoemjaaGreatDoor.Qck
end
section
set_option linter.unusedVariables false
namespace Go.Proofs.YtinmiekbhoemjaaGreatDoor.Qck
open Go.RowKit Words Tree SchP QckP Kit Owned Sch Qry
theorem strcells_len (s : ByteArray) : (strcells s).length = 1 := rfl
theorem fieldsF_drop (l : List FT) (ss : List ByteArray) (k : Nat) (h : k < ss.length) : fieldsF l (ss.drop k) = if (fieldG l ss[k]).2 = 0 then (if (fieldG l ss[k]).1.stored then fieldsF l (ss.drop (k + 1)) else 82) else (fieldG l ss[k]).2 := by
  rw [List.drop_eq_getElem_cons h, fieldsF, fieldG]
  cases hf : fieldF l ss[k] with
  | none => rfl
  | some f => cases hs : f.stored <;> simp [orE, hs]
theorem fieldG_two (l : List FT) (s : ByteArray) : (fieldG l s).2 = 0 ∨ (fieldG l s).2 = 81 := by
  rw [fieldG]
  cases fieldF l s <;> simp
set_option maxRecDepth 100000 in
set_option maxHeartbeats 4000000 in
theorem fields_any (ga : Nat) (l : List FT) (ss : List ByteArray) (u : Value) (w : World) (h : Sk w ga l) (hc : w.cell? ⟨ga, 16, none⟩ = some u) (hu : T.At bare w (fun g => g < w.heap.size) (rowT 1 strcells ss) u) (hl : ss.length * 16 ≤ 140737488351232) :
    Calls Tryz.prog 18 #[.pointer (some ⟨ga, 0, none⟩)] w (Sch.IntB (fieldsF l ss) w) := by
  have HS := Lib.hid h
  have hga := h.1
  clear h
  obtain ⟨A, cap, rfl, _, hm, hel⟩ := at_row strcells_len hu
  have EL := Lib.hid hel
  have HF := Lib.hid (fun (s : ByteArray) (W : World) (hW : Below w.heap.size w W) => field_any ga l s W (HS.out.below hW))
  obtain ⟨r, hr⟩ : ∃ r, fieldsF l ss = r := ⟨_, rfl⟩
  have HR : Hid (fieldsF l (ss.drop 0) = r) := Lib.hid (by rw [List.drop_zero]; exact hr)
  rw [hr]
  clear hel hu hr
  go_enter Tryz.func18, Tryz.ntmps18
  go_wp2_with fail
  go_loopw [13] (fun i wr => ∃ k : Nat, k ≤ ss.length ∧ i = .int .i64 k ∧ Hid (fieldsF l (ss.drop k) = r) ∧ Hid (Below w.heap.size w wr)) (fun i _ => ss.length - (intOf i).toNat)
  case atStart => exact ⟨0, by omega, rfl, HR, Lib.hid (Below.refl _ _)⟩
  case round =>
    obtain ⟨k, hkk, rfl, HK, HW⟩ := hrel
    by_cases hlt : k < ss.length
    · obtain ⟨ad, us, rfl, hba, au, lu, cu⟩ := EL.out k hlt
      replace cu := cu.keep (w' := wr) (fun p hp => HW.out.cell (by rw [hp, block_of_add]; exact hba))
      have hab : (ad.add (k * 1)).block < wr.heap.size := by rw [block_of_add]; have := HW.out.size; omega
      have HD := Lib.hid ((fieldsF_drop l ss k hlt).symm.trans HK.out)
      have HG := Lib.hid (fieldG_two l ss[k])
      have HFK := Lib.hid (HF.out ss[k] wr HW.out)
      generalize ss[k] = s at *
      rw [strcells] at au
      obtain ⟨v0, r0, rfl, h0, h1⟩ := AtL.cons_ au
      obtain rfl := AtL.nil_ h1
      simp only [T.At] at h0
      subst h0
      rw [Nat.mul_one] at cu hab
      have c0 := cu.zero
      clear cu au h1 lu
      go_wp2_with fail
      refine HFK.out.mono ?_
      rintro e w1 ⟨vs, rfl, hb, hat⟩
      generalize fieldG l s = fe at *
      obtain ⟨⟨f0, f1, f2, f3, f4, f5, f6⟩, n⟩ := fe
      obtain ⟨vc, rfl, gc⟩ := at_fcells hat
      obtain ⟨X, z, rfl, _, _⟩ := at_slice gc
      dsimp only at *
      have HB1 := Lib.hid (HW.out.trans (hb.mono HW.out.size))
      clear hb hat gc HFK c0 hab
      rcases HG.out with h1 | h1
      · subst h1
        cases f6 with
        | true =>
          have HD2 : Hid (fieldsF l (ss.drop (k + 1)) = r) := Lib.hid (by have := HD.out; simpa using this)
          go_wp2_with fail
          go_roundw
          case rel => exact ⟨k + 1, by omega, by go_num, HD2, Lib.hid (HB1.out.alloc HB1.out.size _)⟩
          case measure => simp [intOf]; omega
        | false =>
          have HD2 : Hid (r = 82) := Lib.hid (by have := HD.out; simpa using this.symm)
          go_wp2_with fail
          go_ret
          rw [HD2.out]
          exact ⟨rfl, HB1.out.alloc HB1.out.size _⟩
      · subst h1
        have HD2 : Hid (r = 81) := Lib.hid (by have := HD.out; simpa using this.symm)
        go_wp2_with fail
        go_ret
        rw [HD2.out]
        exact ⟨rfl, HB1.out.alloc HB1.out.size _⟩
    · obtain rfl : k = ss.length := by omega
      have HZ : Hid (r = 0) := Lib.hid (by rw [← HK.out, List.drop_length, fieldsF])
      go_wp2_with fail
      go_ret
      rw [HZ.out]
      exact ⟨rfl, HW.out⟩
end Go.Proofs.YtinmiekbhoemjaaGreatDoor.Qck
end
