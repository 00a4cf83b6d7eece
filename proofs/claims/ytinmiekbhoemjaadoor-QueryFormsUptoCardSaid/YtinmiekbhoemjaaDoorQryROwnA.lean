/- Contract: the document's Own at any part. Written by gen_rown.py. -/
import Derived.Test.YtinmiekbhoemjaaDoorQryROwn
import Derived.Test.YtinmiekbhoemjaaDoorQryROwn2
set_option linter.unusedVariables false
namespace Go.Proofs.YtinmiekbhoemjaaDoor.Qry
open Go.RowKit Words Tree QryP Kit Sch SchP
theorem rown_any (k oc : Int) (f t u : ByteArray) (lo hi : List Int) (b op : Int) (ks : List QT) (L H K : Option Addr) (cl ch ck : Nat) (under : Int) (w : World) (hf : f.size ≤ 140737488351232) :
    Calls Tryd.prog 39 #[.agg #[.int .i64 k, .int .i64 oc, .string f, .string t, .string u, .slice L lo.length cl, .slice H hi.length ch, .int .i64 b, .int .i64 op, .slice K ks.length ck], .int .i64 under] w (AnsB (ownB (.mk k oc f t u lo hi b op ks) under) w) := by
  have ho := occ_cases under oc
  by_cases h : occB under oc = true
  · rw [h] at ho
    have key : (occB under oc = true ∧ under = 8 ∧ 1 ≤ oc ∧ oc ≤ 4) ∨ (occB under oc = true ∧ ¬ under = 8 ∧ oc = 0) := by
      rcases ho with h1 | h1 | ⟨h1, _⟩ | ⟨h1, _⟩ | ⟨h1, _⟩
      · exact .inl ⟨h, h1.2⟩
      · exact .inr ⟨h, h1.2⟩
      all_goals cases h1
    have hk : k < 1 ∨ 10 < k ∨ k = 1 ∨ k = 2 ∨ k = 3 ∨ k = 4 ∨ k = 5 ∨ k = 6 ∨ k = 7 ∨ k = 8 ∨ k = 9 ∨ k = 10 := by omega
    rcases hk with hk | hk | rfl | rfl | rfl | rfl | rfl | rfl | rfl | rfl | rfl | rfl
    · rw [own_out (.inl hk)]
      rcases key with g | g
      · exact rown_no_0 k oc f t u lo hi ks L H K cl ch ck b op under w g hk
      · exact rown_no_2 k oc f t u lo hi ks L H K cl ch ck b op under w g hk
    · rw [own_out (.inr hk)]
      rcases key with g | g
      · exact rown_no_1 k oc f t u lo hi ks L H K cl ch ck b op under w g hk
      · exact rown_no_3 k oc f t u lo hi ks L H K cl ch ck b op under w g hk
    · rcases key with g | g
      · exact rown_1_0 oc f t u lo hi ks L H K cl ch ck b op under w g hf
      · exact rown_1_1 oc f t u lo hi ks L H K cl ch ck b op under w g hf
    · rcases key with g | g
      · exact rown_2_0 oc f t u lo hi ks L H K cl ch ck b op under w g hf
      · exact rown_2_1 oc f t u lo hi ks L H K cl ch ck b op under w g hf
    · rcases key with g | g
      · exact rown_3_0 oc f t u lo hi ks L H K cl ch ck b op under w g hf
      · exact rown_3_1 oc f t u lo hi ks L H K cl ch ck b op under w g hf
    · rcases key with g | g
      · exact rown_4_0 oc f t u lo hi ks L H K cl ch ck b op under w g hf
      · exact rown_4_1 oc f t u lo hi ks L H K cl ch ck b op under w g hf
    · rcases key with g | g
      · exact rown_5_0 oc f t u lo hi ks L H K cl ch ck b op under w g hf
      · exact rown_5_1 oc f t u lo hi ks L H K cl ch ck b op under w g hf
    · rcases key with g | g
      · exact rown_6_0 oc f t u lo hi ks L H K cl ch ck b op under w g hf
      · exact rown_6_1 oc f t u lo hi ks L H K cl ch ck b op under w g hf
    · rcases key with g | g
      · exact rown_7_0 oc f t u lo hi ks L H K cl ch ck b op under w g hf
      · exact rown_7_1 oc f t u lo hi ks L H K cl ch ck b op under w g hf
    · rcases key with g | g
      · exact rown_8_0 oc f t u lo hi ks L H K cl ch ck b op under w g hf
      · exact rown_8_1 oc f t u lo hi ks L H K cl ch ck b op under w g hf
    · rcases key with g | g
      · exact rown_9_0 oc f t u lo hi ks L H K cl ch ck b op under w g hf
      · exact rown_9_1 oc f t u lo hi ks L H K cl ch ck b op under w g hf
    · rcases key with g | g
      · exact rown_10_0 oc f t u lo hi ks L H K cl ch ck b op under w g hf
      · exact rown_10_1 oc f t u lo hi ks L H K cl ch ck b op under w g hf
  · have h0 : occB under oc = false := by simpa using h
    rw [own_off h0]
    exact rown_occ k oc f t u lo hi ks L H K cl ch ck b op under w h0
end Go.Proofs.YtinmiekbhoemjaaDoor.Qry
