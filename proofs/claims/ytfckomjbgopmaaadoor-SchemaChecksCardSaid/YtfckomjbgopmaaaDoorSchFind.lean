/- Contracts: a field is found by its name: the document's answer, and the program's. -/
import Derived.Test.YtfckomjbgopmaaaDoorSchLentD
set_option linter.unusedVariables false
namespace Go.Proofs.YtfckomjbgopmaaaDoor.Sch
open Go.RowKit Words Tree SchP Kit Owned

theorem str_cases (a b : ByteArray) : (a = b ∧ (a.toList == b.toList) = true) ∨ (a ≠ b ∧ (a.toList == b.toList) = false) := by
  by_cases h : a = b
  · exact .inl ⟨h, by subst h; simp⟩
  · refine .inr ⟨h, ?_⟩
    have : ¬ a.toList = b.toList := fun e => by
      rw [ByteArray.toList_eq, ByteArray.toList_eq] at e
      exact h (ByteArray.ext (Array.toList_inj.1 e))
    rw [beq_eq_false_iff_ne]; exact this
theorem findF_drop {l : List FT} {s : ByteArray} {k : Nat} (h : k < l.length) : findF (l.drop k) s = if l[k].name = s then some 0 else (findF (l.drop (k + 1)) s).map (· + 1) := by
  rw [List.drop_eq_getElem_cons h, findF]
def zOf : Option Nat → Int
  | some i => i
  | none => -1
theorem findZ_eq (l : List FT) (s : ByteArray) : findZ l s = zOf (findF l s) := by
  unfold findZ zOf
  cases findF l s <;> rfl
def IntB (n : Int) (w : World) (e : Ending) (w' : World) : Prop := e = .returned (.int .i64 n) ∧ Below w.heap.size w w'

set_option maxRecDepth 100000 in
set_option maxHeartbeats 2000000 in
theorem refFind_any (u : Value) (l : List FT) (s : ByteArray) (w : World) (hu : T.At bare w (fun g => g < w.heap.size) (fieldsT l) u) (hl : l.length * 72 ≤ 140737488351232) :
    Calls Tryd.prog 7 #[.agg #[u], .string s] w (IntB (findZ l s) w) := by
  obtain ⟨A, cap, rfl, hc, hm, hel⟩ := at_row fcells_len hu
  have EL := Lib.hid hel
  clear hel hu
  go_enter Tryd.func7, Tryd.ntmps7
  obtain ⟨r, hr⟩ : ∃ r, findF l s = r := ⟨_, rfl⟩
  have HZ : Hid (findZ l s = zOf r) := Lib.hid (by rw [findZ_eq, hr])
  have HR : Hid ((findF (l.drop 0) s).map (· + 0) = r) := Lib.hid (by rw [← hr]; cases h : findF l s <;> simp [h])
  clear hr
  go_wp2_with fail
  have HB := Lib.hid ((Below.refl _ w).alloc (Nat.le_refl _) (Obj.cells #[.slice A l.length cap] 24))
  have c0 : (w.alloc (Obj.cells #[.slice A l.length cap] 24)).cell? ⟨w.heap.size, 0, none⟩ = some (.slice A l.length cap) := (Blk.new w _ _).cell 0
  generalize w.alloc (Obj.cells #[.slice A l.length cap] 24) = W at *
  go_loop [5] (fun i => ∃ k : Nat, k ≤ l.length ∧ i = .int .i64 k ∧ Hid ((findF (l.drop k) s).map (· + k) = r)) (fun i => l.length - (RowKit.intOf i).toNat)
  case atStart => exact ⟨0, by omega, rfl, HR⟩
  case round =>
    obtain ⟨k, hk, rfl, HE⟩ := hrel
    by_cases hlt : k < l.length
    · obtain ⟨ad, us, rfl, hba, au, lu, cu⟩ := EL.out k hlt
      replace cu := cu.keep (w' := W) (fun p hp => HB.out.cell (by rw [hp, block_of_add]; exact hba))
      have HD := Lib.hid (findF_drop (s := s) hlt)
      generalize l[k] = f at *
      obtain ⟨vc, rfl, gc⟩ := at_fcells au
      have a0 := cu.zero
      clear cu au lu gc
      rcases str_cases f.name s with ⟨h1, h2⟩ | ⟨h1, h2⟩
      · have HN : Hid (findZ l s = k) := Lib.hid (by rw [HZ.out, ← HE.out, HD.out, if_pos h1]; simp [zOf])
        clear h1
        go_wp2_with fail
        go_ret
        rw [HN.out]; exact ⟨rfl, HB.out⟩
      · have HE2 : Hid ((findF (l.drop (k + 1)) s).map (· + (k + 1)) = r) := Lib.hid (by rw [← HE.out, HD.out, if_neg h1, Option.map_map]; congr 1; funext x; simp; omega)
        clear h1
        go_wp2_with fail
        go_round
        case rel => exact ⟨k + 1, by omega, by go_num, HE2⟩
        case measure => simp [RowKit.intOf]; omega
    · obtain rfl : k = l.length := by omega
      have HN : Hid (findZ l s = -1) := Lib.hid (by rw [HZ.out, ← HE.out, List.drop_length]; rfl)
      go_wp2_with fail
      go_ret
      rw [HN.out]; exact ⟨rfl, HB.out⟩
end Go.Proofs.YtfckomjbgopmaaaDoor.Sch
