/- Contract: the program's Find. -/
import Derived.Test.YtfckomjbgopmaaaDoorSchFind1
set_option linter.unusedVariables false
namespace Go.Proofs.YtfckomjbgopmaaaDoor.Sch
open Go.RowKit Words Tree SchP Kit Owned

def FindRet (z : Int) (w : World) (e : Ending) (w' : World) : Prop := e = .returned (.tuple #[.int .i64 (max 0 z), .bool (decide (0 ≤ z))]) ∧ Below w.heap.size w w'
set_option maxRecDepth 100000 in
set_option maxHeartbeats 2000000 in
theorem find_any (u : Value) (l : List FT) (s : ByteArray) (w : World) (hu : T.At bare w (fun g => g < w.heap.size) (fieldsT l) u) (hl : l.length * 72 ≤ 140737488351232) :
    Calls Tryd.prog 6 #[.agg #[u], .string s] w (FindRet (findZ l s) w) := by
  obtain ⟨A, cap, rfl, _, _⟩ := at_slice hu
  have HC := Lib.hid (fun (g : Nat) (W : World) (hW : Below w.heap.size w W) (hg : W.cell? ⟨g, 0, none⟩ = some (.string s)) (hgl : g < W.heap.size) => indexFunc_any A cap l s g W (At.below hu hW (fun g hg => Nat.lt_of_lt_of_le hg hW.size)) hl hg hgl)
  clear hu
  go_enter Tryd.func6, Tryd.ntmps6
  obtain ⟨z, hz⟩ : ∃ z, findZ l s = z := ⟨_, rfl⟩
  rw [hz] at HC ⊢
  have hzz : -1 ≤ z ∧ z ≤ 140737488351232 := by
    rw [← hz, findZ_eq]
    cases h : findF l s with
    | none => simp [zOf]
    | some i => obtain ⟨h1, _⟩ := findF_some h; simp only [zOf]; omega
  clear hz
  go_wp2_with fail
  refine (HC.out _ _ (below2 _ _) ((blk_b w #[.slice A l.length cap] #[.string s] 24 9).cell 0) (by simp)).mono ?_
  rintro e w1 ⟨rfl, hb⟩
  have HB := Lib.hid ((below2 _ _).trans (hb.mono (by simp; omega)) : Below w.heap.size w w1)
  clear hb
  rcases (show z = -1 ∨ z = 0 ∨ 0 < z by omega) with rfl | rfl | h0
  · go_wp2_with fail
    go_ret2
    exact ⟨rfl, HB.out⟩
  · go_wp2_with fail
    go_ret2
    exact ⟨rfl, HB.out⟩
  · have hd : decide ((0 : Int) ≤ z) = true := decide_eq_true (by omega)
    have hm : max (0 : Int) z = z := by omega
    have hd2 : decide ((0 : Int) < z) = true := decide_eq_true h0
    have hd3 : decide (z < 0) = false := by rw [decide_eq_false_iff_not]; omega
    have HQ := Lib.hid (And.intro hm hd)
    clear hm hd
    have hd : decide ((0 : Int) ≤ z) = true := HQ.out.2
    go_wp2_with fail
    go_ret2
    exact ⟨by rw [HQ.out.1, HQ.out.2]; rfl, HB.out⟩
end Go.Proofs.YtfckomjbgopmaaaDoor.Sch
