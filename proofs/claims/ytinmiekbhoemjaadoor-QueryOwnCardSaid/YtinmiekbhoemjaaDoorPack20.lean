/- How long a query's text is, and how deep a query, by how much it holds. Contracts: query.word, query.operation. Written by gen_words.py. -/
import Derived.Test.YtinmiekbhoemjaaDoorPack17
import Derived.Test.YtinmiekbhoemjaaDoorPack6
import Derived.Lib.ItoaLen
import Derived.Deep.Light
import Derived.WalkLawsBesides
import Derived.WalkSpells
section
set_option linter.unusedVariables false
namespace Go.Proofs.YtinmiekbhoemjaaDoor.Qry
open Go.RowKit Words Tree QryP Kit

theorem bulk_ints (k : IntKind) : ∀ l : List Int, T.bulkL (l.map fun z => T.lit (.int k z)) = l.length
  | [] => by simp [T.bulkL]
  | z :: l => by rw [List.map_cons, T.bulkL, bulk_ints k l, T.bulk, List.length_cons]; omega; intro s h; cases h
theorem bulk_cells (k o : Int) (f t u : ByteArray) (lo hi : List Int) (b p : Int) (ks : List QT) : T.bulkL (cells (.mk k o f t u lo hi b p ks)) = f.size + t.size + u.size + lo.length + hi.length + T.bulkL (cellsL ks) + 10 := by
  rw [cells]
  simp only [T.bulkL, intsT, T.bulk, bulk_ints]
  omega
theorem quote_len (s : ByteArray) : (quoteF s).length ≤ 4 * s.size + 2 := by
  have h : ∀ l : List UInt8, (l.flatMap quoteC).length ≤ 4 * l.length := by
    intro l
    induction l with
    | nil => simp
    | cons c l ih =>
      have : (quoteC c).length ≤ 4 := by unfold quoteC; split; simp; split <;> simp
      rw [List.flatMap_cons, List.length_append, List.length_cons]; omega
  have := h s.data.toList
  have h2 : s.data.toList.length = s.size := by simp
  unfold quoteF
  simp only [List.length_cons, List.length_append, List.length_nil]
  omega
theorem join_sum (sep : List UInt8) (hs : sep.length ≤ 2) : ∀ l : List (List UInt8), (joinF sep l).length ≤ (l.map fun x => x.length + 2).sum
  | [] => by simp [joinF]
  | [a] => by simp [joinF]
  | a :: b :: l => by
    have := join_sum sep hs (b :: l)
    rw [joinF, List.map_cons, List.sum_cons, List.length_append, List.length_append]; omega
theorem nums_len {l : List Int} (h : ∀ z ∈ l, I64 z) : (numsF numT l).length ≤ 23 * l.length := by
  unfold numsF
  refine Nat.le_trans (join_sum [32] (by decide) _) ?_
  induction l with
  | nil => simp
  | cons z l ih =>
    have h1 := Lib.itoa_length_le z (h z (by simp)).1 (h z (by simp)).2
    have h2 := ih fun y hy => h y (List.mem_cons_of_mem _ hy)
    simp only [List.map_cons, List.sum_cons, List.length_cons]
    show (Lib.itoa z).length + 2 + _ ≤ _
    omega
theorem word_len (k : Int) : (wordF k).length ≤ 6 := by unfold wordF; split <;> decide
theorem op_len (k : Int) : (opF k).length ≤ 3 := by unfold opF; split <;> decide
theorem mark_len (k : Int) : (markF k).length ≤ 1 := by unfold markF; split <;> decide
theorem pieces_sum {k o : Int} {f t u : ByteArray} {lo hi : List Int} {b p : Int} {ks : List QT} (hlo : ∀ z ∈ lo, I64 z) (hhi : ∀ z ∈ hi, I64 z) (hb : I64 b) :
    ((piecesF numT (.mk k o f t u lo hi b p ks)).map fun x => x.length + 2).sum ≤ f.size + 4 * t.size + 4 * u.size + 23 * lo.length + 23 * hi.length + 40 := by
  have h1 := quote_len t
  have h2 := quote_len u
  have h3 := nums_len hlo
  have h4 := nums_len hhi
  have h5 := Lib.itoa_length_le b hb.1 hb.2
  have h6 := op_len p
  have hf : f.data.toList.length = f.size := by simp
  unfold piecesF
  split
  · simp only [List.map_cons, List.map_nil, List.sum_cons, List.sum_nil, QryP.fd, QryP.tx]; omega
  · split
    · simp only [List.map_cons, List.map_nil, List.sum_cons, List.sum_nil, QryP.fd, QryP.tx, QryP.up]; omega
    · split
      · simp only [List.map_cons, List.map_nil, List.sum_cons, List.sum_nil, QryP.fd, QryP.lo, QryP.hi]; omega
      · split
        · simp only [List.map_cons, List.map_nil, List.sum_cons, List.sum_nil, QryP.bo]
          show (Lib.itoa b).length + 2 + 0 ≤ _
          omega
        · split
          · simp only [List.map_cons, List.map_nil, List.sum_cons, List.sum_nil, QryP.fd, QryP.lo, QryP.op]; omega
          · simp
mutual
theorem write_len : ∀ {q : QT}, Ok q → (writeF numT q).length + 3 ≤ 23 * T.bulkL (cells q)
  | .mk k o f t u lo hi b p ks, h => by
    cases h with
    | mk _ _ _ _ _ h1 h2 h3 _ _ h4 =>
      rw [bulk_cells]
      have hw := word_len k
      have hl := writeL_lenB h4
      rw [writeF]
      split
      · omega
      · have hp := pieces_sum (k := k) (o := o) (f := f) (t := t) (u := u) (p := p) (ks := ks) h1.2 h2.2 h3
        have hj := join_sum [44, 32] (by decide) (piecesF numT (.mk k o f t u lo hi b p ks) ++ writeL numT ks)
        rw [List.map_append, List.sum_append] at hj
        simp only [List.length_append, List.length_cons, List.length_nil]
        omega
theorem writeL_lenB : ∀ {ks : List QT}, (∀ q ∈ ks, Ok q) → ((writeL numT ks).map fun x => x.length + 2).sum ≤ 23 * T.bulkL (cellsL ks)
  | [], h => by simp [writeL]
  | q :: ks, h => by
    have h1 := write_len (h q (by simp))
    have h2 := writeL_lenB (ks := ks) fun x hx => h x (List.mem_cons_of_mem _ hx)
    have h3 := mark_len (QryP.oc q)
    rw [writeL, cellsL, bulkL_append, List.map_cons, List.sum_cons, List.length_append]
    omega
end
mutual
theorem depth_bulk : ∀ q : QT, depthF q ≤ T.bulkL (cells q)
  | .mk k o f t u lo hi b p ks => by
    have := depthL_bulk ks
    rw [bulk_cells, depthF]; omega
theorem depthL_bulk : ∀ ks : List QT, depthL ks ≤ T.bulkL (cellsL ks)
  | [] => by simp [depthL]
  | q :: ks => by
    have h1 := depth_bulk q
    have h2 := depthL_bulk ks
    rw [depthL, cellsL, bulkL_append]; omega
end
end Go.Proofs.YtinmiekbhoemjaaDoor.Qry
end
section
set_option linter.unusedVariables false
namespace Go.Proofs.YtinmiekbhoemjaaDoor.Qry
open Go.RowKit Words Tree QryP Kit

/-- A text is answered, nothing else. -/
def StrQ (s : ByteArray) (w : World) (e : Ending) (w' : World) : Prop := e = .returned (.string s) ∧ w = w'
set_option maxRecDepth 100000 in
set_option maxHeartbeats 4000000 in
theorem word_any (k : Int) (w : World) (hk : 1 ≤ k ∧ k ≤ 10) : Calls Tryd.prog 41 #[.int .i64 k] w (StrQ (str (wordF k)) w) := by
  have : k = 1 ∨ k = 2 ∨ k = 3 ∨ k = 4 ∨ k = 5 ∨ k = 6 ∨ k = 7 ∨ k = 8 ∨ k = 9 ∨ k = 10 := by omega
  rcases this with rfl | rfl | rfl | rfl | rfl | rfl | rfl | rfl | rfl | rfl
  · clear hk
    have hi : ∀ w, (Instr.index 86 (.agg #[.string ⟨#[]⟩, .string ⟨#[97, 108, 108]⟩, .string ⟨#[110, 111, 110, 101]⟩, .string ⟨#[116, 101, 114, 109]⟩, .string ⟨#[112, 104, 114, 97, 115, 101]⟩, .string ⟨#[112, 114, 101, 102, 105, 120]⟩, .string ⟨#[116, 101, 114, 109, 115]⟩, .string ⟨#[114, 97, 110, 103, 101]⟩, .string ⟨#[98, 111, 111, 108]⟩, .string ⟨#[98, 111, 111, 115, 116]⟩, .string ⟨#[119, 101, 105, 103, 104]⟩]) (.int .i64 1)).run Tryd.prog w = .ok (.string ⟨#[97, 108, 108]⟩) w := fun _ => by kernel_rfl
    go_enter Tryd.func41, Tryd.ntmps41
    go_wp2_with fail
    go_ret
    exact ⟨rfl, rfl⟩
  · clear hk
    have hi : ∀ w, (Instr.index 86 (.agg #[.string ⟨#[]⟩, .string ⟨#[97, 108, 108]⟩, .string ⟨#[110, 111, 110, 101]⟩, .string ⟨#[116, 101, 114, 109]⟩, .string ⟨#[112, 104, 114, 97, 115, 101]⟩, .string ⟨#[112, 114, 101, 102, 105, 120]⟩, .string ⟨#[116, 101, 114, 109, 115]⟩, .string ⟨#[114, 97, 110, 103, 101]⟩, .string ⟨#[98, 111, 111, 108]⟩, .string ⟨#[98, 111, 111, 115, 116]⟩, .string ⟨#[119, 101, 105, 103, 104]⟩]) (.int .i64 2)).run Tryd.prog w = .ok (.string ⟨#[110, 111, 110, 101]⟩) w := fun _ => by kernel_rfl
    go_enter Tryd.func41, Tryd.ntmps41
    go_wp2_with fail
    go_ret
    exact ⟨rfl, rfl⟩
  · clear hk
    have hi : ∀ w, (Instr.index 86 (.agg #[.string ⟨#[]⟩, .string ⟨#[97, 108, 108]⟩, .string ⟨#[110, 111, 110, 101]⟩, .string ⟨#[116, 101, 114, 109]⟩, .string ⟨#[112, 104, 114, 97, 115, 101]⟩, .string ⟨#[112, 114, 101, 102, 105, 120]⟩, .string ⟨#[116, 101, 114, 109, 115]⟩, .string ⟨#[114, 97, 110, 103, 101]⟩, .string ⟨#[98, 111, 111, 108]⟩, .string ⟨#[98, 111, 111, 115, 116]⟩, .string ⟨#[119, 101, 105, 103, 104]⟩]) (.int .i64 3)).run Tryd.prog w = .ok (.string ⟨#[116, 101, 114, 109]⟩) w := fun _ => by kernel_rfl
    go_enter Tryd.func41, Tryd.ntmps41
    go_wp2_with fail
    go_ret
    exact ⟨rfl, rfl⟩
  · clear hk
    have hi : ∀ w, (Instr.index 86 (.agg #[.string ⟨#[]⟩, .string ⟨#[97, 108, 108]⟩, .string ⟨#[110, 111, 110, 101]⟩, .string ⟨#[116, 101, 114, 109]⟩, .string ⟨#[112, 104, 114, 97, 115, 101]⟩, .string ⟨#[112, 114, 101, 102, 105, 120]⟩, .string ⟨#[116, 101, 114, 109, 115]⟩, .string ⟨#[114, 97, 110, 103, 101]⟩, .string ⟨#[98, 111, 111, 108]⟩, .string ⟨#[98, 111, 111, 115, 116]⟩, .string ⟨#[119, 101, 105, 103, 104]⟩]) (.int .i64 4)).run Tryd.prog w = .ok (.string ⟨#[112, 104, 114, 97, 115, 101]⟩) w := fun _ => by kernel_rfl
    go_enter Tryd.func41, Tryd.ntmps41
    go_wp2_with fail
    go_ret
    exact ⟨rfl, rfl⟩
  · clear hk
    have hi : ∀ w, (Instr.index 86 (.agg #[.string ⟨#[]⟩, .string ⟨#[97, 108, 108]⟩, .string ⟨#[110, 111, 110, 101]⟩, .string ⟨#[116, 101, 114, 109]⟩, .string ⟨#[112, 104, 114, 97, 115, 101]⟩, .string ⟨#[112, 114, 101, 102, 105, 120]⟩, .string ⟨#[116, 101, 114, 109, 115]⟩, .string ⟨#[114, 97, 110, 103, 101]⟩, .string ⟨#[98, 111, 111, 108]⟩, .string ⟨#[98, 111, 111, 115, 116]⟩, .string ⟨#[119, 101, 105, 103, 104]⟩]) (.int .i64 5)).run Tryd.prog w = .ok (.string ⟨#[112, 114, 101, 102, 105, 120]⟩) w := fun _ => by kernel_rfl
    go_enter Tryd.func41, Tryd.ntmps41
    go_wp2_with fail
    go_ret
    exact ⟨rfl, rfl⟩
  · clear hk
    have hi : ∀ w, (Instr.index 86 (.agg #[.string ⟨#[]⟩, .string ⟨#[97, 108, 108]⟩, .string ⟨#[110, 111, 110, 101]⟩, .string ⟨#[116, 101, 114, 109]⟩, .string ⟨#[112, 104, 114, 97, 115, 101]⟩, .string ⟨#[112, 114, 101, 102, 105, 120]⟩, .string ⟨#[116, 101, 114, 109, 115]⟩, .string ⟨#[114, 97, 110, 103, 101]⟩, .string ⟨#[98, 111, 111, 108]⟩, .string ⟨#[98, 111, 111, 115, 116]⟩, .string ⟨#[119, 101, 105, 103, 104]⟩]) (.int .i64 6)).run Tryd.prog w = .ok (.string ⟨#[116, 101, 114, 109, 115]⟩) w := fun _ => by kernel_rfl
    go_enter Tryd.func41, Tryd.ntmps41
    go_wp2_with fail
    go_ret
    exact ⟨rfl, rfl⟩
  · clear hk
    have hi : ∀ w, (Instr.index 86 (.agg #[.string ⟨#[]⟩, .string ⟨#[97, 108, 108]⟩, .string ⟨#[110, 111, 110, 101]⟩, .string ⟨#[116, 101, 114, 109]⟩, .string ⟨#[112, 104, 114, 97, 115, 101]⟩, .string ⟨#[112, 114, 101, 102, 105, 120]⟩, .string ⟨#[116, 101, 114, 109, 115]⟩, .string ⟨#[114, 97, 110, 103, 101]⟩, .string ⟨#[98, 111, 111, 108]⟩, .string ⟨#[98, 111, 111, 115, 116]⟩, .string ⟨#[119, 101, 105, 103, 104]⟩]) (.int .i64 7)).run Tryd.prog w = .ok (.string ⟨#[114, 97, 110, 103, 101]⟩) w := fun _ => by kernel_rfl
    go_enter Tryd.func41, Tryd.ntmps41
    go_wp2_with fail
    go_ret
    exact ⟨rfl, rfl⟩
  · clear hk
    have hi : ∀ w, (Instr.index 86 (.agg #[.string ⟨#[]⟩, .string ⟨#[97, 108, 108]⟩, .string ⟨#[110, 111, 110, 101]⟩, .string ⟨#[116, 101, 114, 109]⟩, .string ⟨#[112, 104, 114, 97, 115, 101]⟩, .string ⟨#[112, 114, 101, 102, 105, 120]⟩, .string ⟨#[116, 101, 114, 109, 115]⟩, .string ⟨#[114, 97, 110, 103, 101]⟩, .string ⟨#[98, 111, 111, 108]⟩, .string ⟨#[98, 111, 111, 115, 116]⟩, .string ⟨#[119, 101, 105, 103, 104]⟩]) (.int .i64 8)).run Tryd.prog w = .ok (.string ⟨#[98, 111, 111, 108]⟩) w := fun _ => by kernel_rfl
    go_enter Tryd.func41, Tryd.ntmps41
    go_wp2_with fail
    go_ret
    exact ⟨rfl, rfl⟩
  · clear hk
    have hi : ∀ w, (Instr.index 86 (.agg #[.string ⟨#[]⟩, .string ⟨#[97, 108, 108]⟩, .string ⟨#[110, 111, 110, 101]⟩, .string ⟨#[116, 101, 114, 109]⟩, .string ⟨#[112, 104, 114, 97, 115, 101]⟩, .string ⟨#[112, 114, 101, 102, 105, 120]⟩, .string ⟨#[116, 101, 114, 109, 115]⟩, .string ⟨#[114, 97, 110, 103, 101]⟩, .string ⟨#[98, 111, 111, 108]⟩, .string ⟨#[98, 111, 111, 115, 116]⟩, .string ⟨#[119, 101, 105, 103, 104]⟩]) (.int .i64 9)).run Tryd.prog w = .ok (.string ⟨#[98, 111, 111, 115, 116]⟩) w := fun _ => by kernel_rfl
    go_enter Tryd.func41, Tryd.ntmps41
    go_wp2_with fail
    go_ret
    exact ⟨rfl, rfl⟩
  · clear hk
    have hi : ∀ w, (Instr.index 86 (.agg #[.string ⟨#[]⟩, .string ⟨#[97, 108, 108]⟩, .string ⟨#[110, 111, 110, 101]⟩, .string ⟨#[116, 101, 114, 109]⟩, .string ⟨#[112, 104, 114, 97, 115, 101]⟩, .string ⟨#[112, 114, 101, 102, 105, 120]⟩, .string ⟨#[116, 101, 114, 109, 115]⟩, .string ⟨#[114, 97, 110, 103, 101]⟩, .string ⟨#[98, 111, 111, 108]⟩, .string ⟨#[98, 111, 111, 115, 116]⟩, .string ⟨#[119, 101, 105, 103, 104]⟩]) (.int .i64 10)).run Tryd.prog w = .ok (.string ⟨#[119, 101, 105, 103, 104]⟩) w := fun _ => by kernel_rfl
    go_enter Tryd.func41, Tryd.ntmps41
    go_wp2_with fail
    go_ret
    exact ⟨rfl, rfl⟩
set_option maxRecDepth 100000 in
set_option maxHeartbeats 4000000 in
theorem op_any (k : Int) (w : World) (hk : 1 ≤ k ∧ k ≤ 3) : Calls Tryd.prog 47 #[.int .i64 k] w (StrQ (str (opF k)) w) := by
  have : k = 1 ∨ k = 2 ∨ k = 3 := by omega
  rcases this with rfl | rfl | rfl
  · clear hk
    have hi : ∀ w, (Instr.index 88 (.agg #[.string ⟨#[]⟩, .string ⟨#[97, 100, 100]⟩, .string ⟨#[109, 117, 108]⟩, .string ⟨#[109, 97, 120]⟩]) (.int .i64 1)).run Tryd.prog w = .ok (.string ⟨#[97, 100, 100]⟩) w := fun _ => by kernel_rfl
    go_enter Tryd.func47, Tryd.ntmps47
    go_wp2_with fail
    go_ret
    exact ⟨rfl, rfl⟩
  · clear hk
    have hi : ∀ w, (Instr.index 88 (.agg #[.string ⟨#[]⟩, .string ⟨#[97, 100, 100]⟩, .string ⟨#[109, 117, 108]⟩, .string ⟨#[109, 97, 120]⟩]) (.int .i64 2)).run Tryd.prog w = .ok (.string ⟨#[109, 117, 108]⟩) w := fun _ => by kernel_rfl
    go_enter Tryd.func47, Tryd.ntmps47
    go_wp2_with fail
    go_ret
    exact ⟨rfl, rfl⟩
  · clear hk
    have hi : ∀ w, (Instr.index 88 (.agg #[.string ⟨#[]⟩, .string ⟨#[97, 100, 100]⟩, .string ⟨#[109, 117, 108]⟩, .string ⟨#[109, 97, 120]⟩]) (.int .i64 3)).run Tryd.prog w = .ok (.string ⟨#[109, 97, 120]⟩) w := fun _ => by kernel_rfl
    go_enter Tryd.func47, Tryd.ntmps47
    go_wp2_with fail
    go_ret
    exact ⟨rfl, rfl⟩
end Go.Proofs.YtinmiekbhoemjaaDoor.Qry
end
