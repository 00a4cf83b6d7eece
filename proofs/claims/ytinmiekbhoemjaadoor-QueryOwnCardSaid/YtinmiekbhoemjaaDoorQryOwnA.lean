/- Contract: query.own at any part. -/
import Derived.Test.YtinmiekbhoemjaaDoorQryOwnK2
set_option linter.unusedVariables false
namespace Go.Proofs.YtinmiekbhoemjaaDoor.Qry
open Go.RowKit Words Tree QryP Kit Sch SchP

theorem emp_is : (⟨#[]⟩ : ByteArray) = ByteArray.empty := rfl
section
variable {k oc : Int} {f t u : ByteArray} {lo hi : List Int} {b op under : Int} {ks : List QT}
theorem own_flat : ownB (.mk k oc f t u lo hi b op ks) under = ((occB under oc && decide (1 ≤ k ∧ k ≤ 10)) && (if 3 ≤ k ∧ k ≤ 7 ∨ k = 10 then nameB f else decide (f.size = 0))
    && (decide (3 ≤ k ∧ k ≤ 6) || decide (t.size = 0)) && (decide (k = 6) || decide (u.size = 0))
    && (if k = 7 then decide (1 ≤ lo.length ∧ lo.length ≤ 4 ∧ hi.length = lo.length) else if k = 10 then decide (lo.length = 1 ∧ hi.length = 0) else decide (lo.length = 0 ∧ hi.length = 0))
    && (if k = 9 then decide (0 ≤ b ∧ b ≤ 1048576) else decide (b = 0))
    && (if k = 10 then decide (1 ≤ op ∧ op ≤ 3) else decide (op = 0))
    && (if k = 9 ∨ k = 10 then decide (ks.length = 1) else decide (k = 8) || decide (ks.length = 0))) := rfl
theorem own_off (h : occB under oc = false) : ownB (.mk k oc f t u lo hi b op ks) under = false := by rw [own_flat, h]; simp
theorem own_out (h : k < 1 ∨ 10 < k) : ownB (.mk k oc f t u lo hi b op ks) under = false := by rw [own_flat, decide_eq_false (by omega)]; simp
theorem own_is12 (h : occB under oc = true) (hk : k = 1 ∨ k = 2) : ownB (.mk k oc f t u lo hi b op ks) under = emptyB f t u lo.length hi.length b op ks.length := by
  rw [own_flat, h, Bool.eq_iff_iff]; rcases hk with rfl | rfl <;> simp [emptyB] <;> intros <;> constructor <;> intro h <;> simp_all
theorem own_is345 (h : occB under oc = true) (hk : k = 3 ∨ k = 4 ∨ k = 5) : ownB (.mk k oc f t u lo hi b op ks) under = (nameB f && emptyB ⟨#[]⟩ ⟨#[]⟩ u lo.length hi.length b op ks.length) := by
  rw [own_flat, h, Bool.eq_iff_iff]; rcases hk with rfl | rfl | rfl <;> simp [emptyB, emp_is] <;> intros <;> constructor <;> intro h <;> simp_all
theorem own_is6 (h : occB under oc = true) (hk : k = 6) : ownB (.mk k oc f t u lo hi b op ks) under = (nameB f && emptyB ⟨#[]⟩ ⟨#[]⟩ ⟨#[]⟩ lo.length hi.length b op ks.length) := by
  rw [own_flat, h, Bool.eq_iff_iff]; subst hk; simp [emptyB, emp_is] <;> intros <;> constructor <;> intro h <;> simp_all
theorem own_is7 (h : occB under oc = true) (hk : k = 7) : ownB (.mk k oc f t u lo hi b op ks) under = (decide (1 ≤ lo.length ∧ lo.length ≤ 4 ∧ hi.length = lo.length) && nameB f && emptyB ⟨#[]⟩ t u 0 0 b op ks.length) := by
  rw [own_flat, h, Bool.eq_iff_iff]; subst hk; simp [emptyB, emp_is] <;> intros <;> constructor <;> intro h <;> simp_all
theorem own_is8 (h : occB under oc = true) (hk : k = 8) : ownB (.mk k oc f t u lo hi b op ks) under = emptyB f t u lo.length hi.length b op 0 := by
  rw [own_flat, h, Bool.eq_iff_iff]; subst hk; simp [emptyB] <;> intros <;> constructor <;> intro h <;> simp_all
theorem own_is9 (h : occB under oc = true) (hk : k = 9) : ownB (.mk k oc f t u lo hi b op ks) under = (decide (0 ≤ b ∧ b ≤ 1048576 ∧ ks.length = 1) && emptyB f t u lo.length hi.length 0 op 0) := by
  rw [own_flat, h, Bool.eq_iff_iff]; subst hk; simp [emptyB] <;> intros <;> constructor <;> intro h <;> simp_all
theorem own_is10 (h : occB under oc = true) (hk : k = 10) : ownB (.mk k oc f t u lo hi b op ks) under = (decide (1 ≤ op ∧ op ≤ 3 ∧ lo.length = 1 ∧ ks.length = 1) && nameB f && emptyB ⟨#[]⟩ t u 0 hi.length b 0 0) := by
  rw [own_flat, h, Bool.eq_iff_iff]; subst hk; simp [emptyB, emp_is] <;> intros <;> constructor <;> intro h <;> simp_all
end
/-- query.own at any part. -/
theorem own_any (k oc : Int) (f t u : ByteArray) (lo hi : List Int) (b op : Int) (ks : List QT) (L H K : Option Addr) (cl ch ck : Nat) (under : Int) (w : World) (hf : f.size ≤ 140737488351232) :
    Calls Tryd.prog 22 #[.agg #[.int .i64 k, .int .i64 oc, .string f, .string t, .string u, .slice L lo.length cl, .slice H hi.length ch, .int .i64 b, .int .i64 op, .slice K ks.length ck], .int .i64 under] w (AnsB (ownB (.mk k oc f t u lo hi b op ks) under) w) := by
  have ho := occ_cases under oc
  by_cases h : occB under oc = true
  · have h' := h
    rw [h] at ho
    have key : (occB under oc = true ∧ under = 8 ∧ 1 ≤ oc ∧ oc ≤ 4) ∨ (occB under oc = true ∧ ¬ under = 8 ∧ oc = 0) := by
      rcases ho with h1 | h1 | ⟨h1, _⟩ | ⟨h1, _⟩ | ⟨h1, _⟩
      · exact .inl ⟨h, h1.2⟩
      · exact .inr ⟨h, h1.2⟩
      all_goals cases h1
    have hk : (k < 1 ∨ 10 < k) ∨ (k = 1 ∨ k = 2) ∨ (k = 3 ∨ k = 4 ∨ k = 5) ∨ k = 6 ∨ k = 7 ∨ k = 8 ∨ k = 9 ∨ k = 10 := by omega
    rcases hk with hk | hk | hk | hk | hk | hk | hk | hk
    · rw [own_out hk]
      rcases key with g | g
      · exact own_no_0 k oc f t u L H K _ cl _ ch _ ck b op under w g hk
      · exact own_no_1 k oc f t u L H K _ cl _ ch _ ck b op under w g hk
    · rw [own_is12 h hk]; exact own_12 k oc f t u L H K _ cl _ ch _ ck b op under w h hk
    · rw [own_is345 h hk]
      rcases key with g | g
      · exact own_345_0 k oc f t u L H K _ cl _ ch _ ck b op under w g hk hf
      · exact own_345_1 k oc f t u L H K _ cl _ ch _ ck b op under w g hk hf
    · rw [own_is6 h hk]
      rcases key with g | g
      · exact own_6_0 k oc f t u L H K _ cl _ ch _ ck b op under w g hk hf
      · exact own_6_1 k oc f t u L H K _ cl _ ch _ ck b op under w g hk hf
    · rw [own_is7 h hk]
      rcases key with g | g
      · exact own_7_0 k oc f t u L H K _ cl _ ch _ ck b op under w g hk hf
      · exact own_7_1 k oc f t u L H K _ cl _ ch _ ck b op under w g hk hf
    · rw [own_is8 h hk]
      rcases key with g | g
      · exact own_8_0 k oc f t u L H K _ cl _ ch _ ck b op under w g hk
      · exact own_8_1 k oc f t u L H K _ cl _ ch _ ck b op under w g hk
    · rw [own_is9 h hk]
      rcases key with g | g
      · exact own_9_0 k oc f t u L H K _ cl _ ch _ ck b op under w g hk
      · exact own_9_1 k oc f t u L H K _ cl _ ch _ ck b op under w g hk
    · rw [own_is10 h hk]
      rcases key with g | g
      · exact own_10_0 k oc f t u L H K _ cl _ ch _ ck b op under w g hk hf
      · exact own_10_1 k oc f t u L H K _ cl _ ch _ ck b op under w g hk hf
  · have h0 : occB under oc = false := by simpa using h
    rw [own_off h0]
    exact own_occ k oc f t u L H K _ cl _ ch _ ck b op under w h0
end Go.Proofs.YtinmiekbhoemjaaDoor.Qry
