/- Contract: slices.Clone over numbers. -/
import Derived.Test.YtfckomjbgopmaaaDoorSchKept
import Derived.Test.YtfckomjbgopmaaaDoorRowG
set_option linter.unusedVariables false
namespace Go.Proofs.YtfckomjbgopmaaaDoor.Sch
open Go.RowKit Words Tree SchP Kit Owned

theorem eql_nilS (n c : Nat) (w : World) : (binOp .eql 51 (.slice none n c) (.slice none 0 0)).run Tryd.prog w = .ok (.bool true) w := by rfl
theorem eql_someS (ad : Addr) (n c : Nat) (w : World) : (binOp .eql 51 (.slice (some ad) n c) (.slice none 0 0)).run Tryd.prog w = .ok (.bool false) w := by rfl
set_option maxRecDepth 100000 in
theorem clone_any (v : Value) (l : List Int) (w : World) (hv : T.At bare w (fun g => g < w.heap.size) (numsT .i64 l) v) (hl : l.length * 8 ≤ 140737488351232) :
    Calls Tryd.prog 25 #[v] w (FreshT (numsT .i64 l) w) := by
  obtain ⟨A, cap, rfl, hc, hm, hr⟩ := at_nums hv
  clear hv
  obtain ⟨i0, hi, hz0, hz1, hz2⟩ := info_parts infoI64
  cases A with
  | none =>
    have h0 : l = [] := by
      rcases Nat.eq_zero_or_pos l.length with h | h
      · exact List.eq_nil_of_length_eq_zero h
      · obtain ⟨ad, e, _⟩ := hr.2 h; cases e
    subst h0
    clear hr
    have hq := eql_nilS
    go_enter Tryd.func25, Tryd.ntmps25
    go_wp2_with fail
    go_ret
    exact ⟨_, rfl, nums_cells (B := w.heap.size) (e := 2) (World.ownsRow_nil _ _ _ _), Below.refl _ _⟩
  | some ad =>
    have hq := eql_someS
    go_enter Tryd.func25, Tryd.ntmps25
    go_wp2_with (at_builtin; refine wpList_append_any _ rfl (.tmp 5) (.tmp 6) 51 rfl w.heap.size 2 i0 (.int .i64 0) 1 8 Tryd.underlying51 hi hz0 hz1 hz2 rfl (by decide) _ 0 [] rfl (own_empty w _ _ _ (Nat.le_refl _)) w.heap.size (some ad) l.length cap (l.map (Value.int .i64)) rfl (hr.alloc (Nat.le_refl _) _) ?c2 ?c3 ?c4 ?c5 ?_)
    case c2 => intro u hu; obtain ⟨z, _, rfl⟩ := List.mem_map.1 hu; rfl
    case c3 => unfold maxLen; omega
    case c4 => omega
    case c5 => simp
    intro v1 w1 ho1 hg1 _
    have hb1 : Below w.heap.size w w1 := ((Below.refl _ w).alloc (Nat.le_refl _) _).grown hg1 (by simp) (fun r e => by simp [Value.ownBlock] at e; omega)
    replace ho1 : w1.ownsRow w.heap.size 2 1 v1 l.length (l.map (Value.int .i64)) := by simpa using ho1
    have HB1 := Lib.hid hb1
    have HO1 := Lib.hid ho1
    clear hg1 hb1 ho1
    go_wp2_with fail
    go_ret
    exact ⟨_, rfl, nums_cells HO1.out, HB1.out⟩
end Go.Proofs.YtfckomjbgopmaaaDoor.Sch
