/- Contracts: a field is found by its name: the document's answer, the program's closure. -/
import Derived.Test.YtfckomjbgopmaaaDoorSchFind
set_option linter.unusedVariables false
namespace Go.Proofs.YtfckomjbgopmaaaDoor.Sch
open Go.RowKit Words Tree SchP Kit Owned

set_option maxRecDepth 100000 in
set_option maxHeartbeats 2000000 in
theorem find1_any (f : FT) (X : Option Addr) (n z : Nat) (s : ByteArray) (g : Nat) (w : World) (hg : w.cell? ⟨g, 0, none⟩ = some (.string s)) (hgl : g < w.heap.size) :
    Calls Tryd.prog 20 #[.agg #[.string f.name, .int .i64 f.kind, .slice X n z, .int .i64 f.scale, .int .i64 f.dims, .bool f.many, .bool f.stored], .pointer (some ⟨g, 0, none⟩)] w (AnsB (decide (f.name = s)) w) := by
  have hne : g ≠ w.heap.size := by omega
  rcases str_cases f.name s with ⟨h1, h2⟩ | ⟨h1, h2⟩
  · have HD : Hid (decide (f.name = s) = true) := Lib.hid (decide_eq_true h1)
    clear h1
    go_enter Tryd.func20, Tryd.ntmps20
    go_wp2_with fail
    go_ret
    rw [HD.out]; exact ⟨rfl, (Below.refl _ w).alloc (Nat.le_refl _) _⟩
  · have HD : Hid (decide (f.name = s) = false) := Lib.hid (decide_eq_false h1)
    clear h1
    go_enter Tryd.func20, Tryd.ntmps20
    go_wp2_with fail
    go_ret
    rw [HD.out]; exact ⟨rfl, (Below.refl _ w).alloc (Nat.le_refl _) _⟩

set_option maxRecDepth 100000 in
set_option maxHeartbeats 2000000 in
theorem indexFunc_any (A : Option Addr) (cap : Nat) (l : List FT) (s : ByteArray) (g : Nat) (w : World) (hu : T.At bare w (fun g => g < w.heap.size) (fieldsT l) (.slice A l.length cap)) (hl : l.length * 72 ≤ 140737488351232) (hg : w.cell? ⟨g, 0, none⟩ = some (.string s)) (hgl : g < w.heap.size) :
    Calls Tryd.prog 19 #[.slice A l.length cap, .func (.func 20) #[] #[.pointer (some ⟨g, 0, none⟩)]] w (IntB (findZ l s) w) := by
  obtain ⟨_, _, he, hc, hm, hel⟩ := at_row fcells_len hu
  injection he with e1 _ e3
  subst e1 e3
  have EL := Lib.hid hel
  have HG : Hid (∀ W, Below w.heap.size w W → W.cell? ⟨g, 0, none⟩ = some (.string s)) := Lib.hid (fun W hW => (hW.cell (p := ⟨g, 0, none⟩) hgl).trans hg)
  clear hel hu hg
  obtain ⟨r, hr⟩ : ∃ r, findF l s = r := ⟨_, rfl⟩
  have HZ : Hid (findZ l s = zOf r) := Lib.hid (by rw [findZ_eq, hr])
  have HR : Hid ((findF (l.drop 0) s).map (· + 0) = r) := Lib.hid (by rw [← hr]; cases h : findF l s <;> simp [h])
  clear hr
  go_enter Tryd.func19, Tryd.ntmps19
  go_wp2_with fail
  go_loopw [5, 8] (fun _ i wr => ∃ k : Nat, k ≤ l.length ∧ i = .int .i64 k ∧ Hid ((findF (l.drop k) s).map (· + k) = r) ∧ Hid (Below w.heap.size w wr)) (fun _ i _ => l.length - (RowKit.intOf i).toNat)
  case atStart => exact ⟨0, by omega, rfl, HR, Lib.hid (Below.refl _ _)⟩
  case round =>
    obtain ⟨k, hk, rfl, HE, HB⟩ := hrel
    by_cases hlt : k < l.length
    · obtain ⟨ad, us, rfl, hba, au, lu, cu⟩ := EL.out k hlt
      replace cu := cu.keep (w' := wr) (fun p hp => HB.out.cell (by rw [hp, block_of_add]; exact hba))
      have HD := Lib.hid (findF_drop (s := s) hlt)
      generalize l[k] = f at *
      obtain ⟨vc, rfl, gc⟩ := at_fcells au
      obtain ⟨X, z, rfl, _, _⟩ := at_slice gc
      obtain ⟨a0, a1, a2, a3, a4, a5, a6⟩ := seven cu
      clear cu au lu gc
      have HC := Lib.hid (fun (W : World) (hW : Below w.heap.size w W) => find1_any f X f.chain.length z s g W (HG.out W hW) (Nat.lt_of_lt_of_le hgl hW.size))
      go_wp2_with fail
      refine (HC.out wr HB.out).mono ?_
      rintro e w2 ⟨rfl, b2⟩
      have HB2 := Lib.hid (HB.out.trans (b2.mono HB.out.size))
      clear a0 a1 a2 a3 a4 a5 a6 b2
      by_cases h1 : f.name = s
      · have HN : Hid (findZ l s = k) := Lib.hid (by rw [HZ.out, ← HE.out, HD.out, if_pos h1]; simp [zOf])
        have hd : decide (f.name = s) = true := decide_eq_true h1
        rw [hd]
        clear h1 hd
        go_wp2_with fail
        go_ret
        rw [HN.out]; exact ⟨rfl, HB2.out⟩
      · have HE2 : Hid ((findF (l.drop (k + 1)) s).map (· + (k + 1)) = r) := Lib.hid (by rw [← HE.out, HD.out, if_neg h1, Option.map_map]; congr 1; funext x; simp; omega)
        have hd : decide (f.name = s) = false := decide_eq_false h1
        rw [hd]
        clear h1 hd
        go_wp2_with fail
        go_roundw
        case rel => exact ⟨k + 1, by omega, by go_num, HE2, HB2⟩
        case measure => simp [RowKit.intOf]; omega
    · obtain rfl : k = l.length := by omega
      have HN : Hid (findZ l s = -1) := Lib.hid (by rw [HZ.out, ← HE.out, List.drop_length]; rfl)
      go_wp2_with fail
      go_ret
      rw [HN.out]; exact ⟨rfl, HB.out⟩
end Go.Proofs.YtfckomjbgopmaaaDoor.Sch
