/- Contracts: a filter's number: the program's find, the document's Filter. Contracts: slices.Index, slices.Contains over numbers; the program's and the document's Check of a chain. -/
import Derived.Test.YtfckomjbgopmaaaGreatDoorProg
import Derived.Test.YtfckomjbgopmaaaGreatDoorPack6
import Derived.Test.YtfckomjbgopmaaaGreatDoorPack2
import Derived.Test.YtfckomjbgopmaaaGreatDoorWords
import Derived.BigGuardPart
import Derived.Outline
import Derived.LoopTactic
import Derived.Test.YtfckomjbgopmaaaGreatDoorPack4
section
set_option linter.unusedVariables false
namespace Go.Proofs.YtfckomjbgopmaaaGreatDoor.Ana
open Go.RowKit Go.Lib AnaP Words Kit

def PureB (b : Bool) (w : World) (e : Ending) (w' : World) : Prop := e = .returned (.bool b) ∧ w = w'

set_option maxRecDepth 100000 in
theorem eql_nilF (w : World) : (binOp .eql 135 .nilFunc .nilFunc).run Tryz.prog w = .ok (.bool true) w := by rfl
set_option maxRecDepth 100000 in
theorem eql_fnF (F : Nat) (cap : Array Value) (w : World) : (binOp .eql 135 (.func (.func F) #[] cap) .nilFunc).run Tryz.prog w = .ok (.bool false) w := by rfl
theorem grams_any (n : Int) (w : World) : Calls Tryz.prog 112 #[.int .i64 n] w fun e w' => e = .returned (.func (.func 143) #[] #[.pointer (some ⟨w.heap.size, 0, none⟩)]) ∧ w' = w.alloc (.cells #[.int .i64 n] 3) := by
  have hmf : ∀ (fn : Fn) (first cap : Array Value) (w : World), (Instr.makeFunc fn first cap).run Tryz.prog w = .ok (.func fn first cap) w := fun _ _ _ _ => rfl
  go_enter Tryz.func112, Tryz.ntmps112
  go_wp2_with fail
  go_ret
  exact ⟨rfl, rfl⟩
theorem find_none (n : Int) (w : World) (h : filterB n = false) : Calls Tryz.prog 86 #[.int .i64 n] w fun e w' => e = .returned .nilFunc ∧ w = w' := by
  have h0 : ¬ (10 ≤ n ∧ n ≤ 15) := by unfold filterB at h; simpa using h
  have h1 : (n == 10) = false := by rw [beq_eq_false_iff_ne]; omega
  have h2 : (n == 11) = false := by rw [beq_eq_false_iff_ne]; omega
  have h3 : (n == 12) = false := by rw [beq_eq_false_iff_ne]; omega
  have h4 : (n == 13) = false := by rw [beq_eq_false_iff_ne]; omega
  have h5 : (n == 14) = false := by rw [beq_eq_false_iff_ne]; omega
  have h6 : (n == 15) = false := by rw [beq_eq_false_iff_ne]; omega
  clear h h0
  go_enter Tryz.func86, Tryz.ntmps86
  go_wp2_with fail
  go_ret
  exact ⟨rfl, rfl⟩

theorem find_10 (w : World) : Calls Tryz.prog 86 #[.int .i64 10] w fun e w' => e = .returned (.func (.func 110) #[] #[]) ∧ w = w' := by
  go_enter Tryz.func86, Tryz.ntmps86
  go_wp2_with fail
  go_ret
  exact ⟨rfl, rfl⟩
theorem find_11 (w : World) : Calls Tryz.prog 86 #[.int .i64 11] w fun e w' => e = .returned (.func (.func 111) #[] #[]) ∧ w = w' := by
  go_enter Tryz.func86, Tryz.ntmps86
  go_wp2_with fail
  go_ret
  exact ⟨rfl, rfl⟩
theorem find_12 (w : World) : Calls Tryz.prog 86 #[.int .i64 12] w fun e w' => e = .returned (.func (.func 143) #[] #[.pointer (some ⟨w.heap.size, 0, none⟩)]) ∧ w' = w.alloc (.cells #[.int .i64 2] 3) := by
  go_enter Tryz.func86, Tryz.ntmps86
  go_wp2_with fail
  refine (grams_any _ _).mono ?_
  rintro e w' ⟨rfl, rfl⟩
  go_wp2_with fail
  go_ret
  exact ⟨rfl, rfl⟩
theorem find_13 (w : World) : Calls Tryz.prog 86 #[.int .i64 13] w fun e w' => e = .returned (.func (.func 143) #[] #[.pointer (some ⟨w.heap.size, 0, none⟩)]) ∧ w' = w.alloc (.cells #[.int .i64 3] 3) := by
  go_enter Tryz.func86, Tryz.ntmps86
  go_wp2_with fail
  refine (grams_any _ _).mono ?_
  rintro e w' ⟨rfl, rfl⟩
  go_wp2_with fail
  go_ret
  exact ⟨rfl, rfl⟩
theorem find_14 (w : World) : Calls Tryz.prog 86 #[.int .i64 14] w fun e w' => e = .returned (.func (.func 113) #[] #[]) ∧ w = w' := by
  go_enter Tryz.func86, Tryz.ntmps86
  go_wp2_with fail
  go_ret
  exact ⟨rfl, rfl⟩
theorem find_15 (w : World) : Calls Tryz.prog 86 #[.int .i64 15] w fun e w' => e = .returned (.func (.func 114) #[] #[]) ∧ w = w' := by
  go_enter Tryz.func86, Tryz.ntmps86
  go_wp2_with fail
  go_ret
  exact ⟨rfl, rfl⟩

end Go.Proofs.YtfckomjbgopmaaaGreatDoor.Ana
end
section
set_option linter.unusedVariables false
namespace Go.Proofs.YtfckomjbgopmaaaGreatDoor.Ana
open Go.RowKit Go.Lib AnaP Words Tree Kit Owned

def intCells (l : List Int) : List Value := l.map (Value.int .i64)
theorem reads_int {w : World} {B n : Nat} {ao : Option Addr} {xs : List Int} (h : Reads w B 1 ao n (intCells xs)) (hn : n = xs.length) {k : Nat} (hk : k < xs.length) : ∃ ad, ao = some ad ∧ ad.block < B ∧ w.cell? (ad.add k) = some (.int .i64 xs[k]) := by
  obtain ⟨ad, e, hb, hc⟩ := h.2 (by omega)
  exact ⟨ad, e, hb, hc k _ (by simp [intCells, hk])⟩
theorem mem_take_succ {l : List Int} {k : Nat} {v : Int} (h : k < l.length) : v ∈ l.take (k + 1) ↔ v ∈ l.take k ∨ v = l[k] := by
  rw [List.take_succ_eq_append_getElem h, List.mem_append, List.mem_singleton]

def IdxRet (l : List Int) (v : Int) (w : World) (e : Ending) (w' : World) : Prop := ∃ i : Int, e = .returned (.int .i64 i) ∧ w = w' ∧ (0 ≤ i ↔ v ∈ l)
set_option maxRecDepth 100000 in
set_option maxHeartbeats 1000000 in
theorem index_any (ao : Option Addr) (c : Nat) (l : List Int) (v : Int) (w : World) (hk : Reads w w.heap.size 1 ao l.length (intCells l)) (hl : l.length ≤ maxLen) :
    Calls Tryz.prog 115 #[.slice ao l.length c, .int .i64 v] w (IdxRet l v w) := by
  unfold maxLen at hl
  have HK := Lib.hid hk; clear hk
  go_enter Tryz.func115, Tryz.ntmps115
  go_wp2_with fail
  go_loop [5, 8] (fun _ i => ∃ k : Nat, k ≤ l.length ∧ i = .int .i64 k ∧ Hid (v ∉ l.take k)) (fun _ i => l.length - (RowKit.intOf i).toNat)
  case atStart => exact ⟨0, by omega, rfl, Lib.hid (by simp)⟩
  case round =>
    obtain ⟨k, hkk, rfl, HV⟩ := hrel
    by_cases hlt : k < l.length
    · obtain ⟨ad, rfl, hba, hc⟩ := reads_int HK.out rfl hlt
      have HM : Hid (v ∈ l.take (k + 1) ↔ v ∈ l.take k ∨ v = l[k]) := Lib.hid (mem_take_succ hlt)
      have HM2 : Hid (l[k] ∈ l) := Lib.hid (List.getElem_mem hlt)
      generalize l[k] = x at *
      by_cases he : v = x
      · subst he
        have hb : (v == v) = true := by simp
        go_wp2_with fail
        go_ret
        exact ⟨_, rfl, rfl, ⟨fun _ => HM2.out, fun _ => by omega⟩⟩
      · have hb : (v == x) = false := by rw [beq_eq_false_iff_ne]; exact he
        have HN : Hid (v ∉ l.take (k + 1)) := Lib.hid (fun h => (HM.out.1 h).elim HV.out he)
        clear he
        go_wp2_with fail
        go_round
        case rel => exact ⟨k + 1, by omega, by go_num, HN⟩
        case measure => simp [RowKit.intOf]; omega
    · obtain rfl : k = l.length := by omega
      have HN : Hid (v ∉ l) := Lib.hid (by have := HV.out; rwa [List.take_of_length_le (Nat.le_refl _)] at this)
      go_wp2_with fail
      go_ret
      exact ⟨_, rfl, rfl, ⟨fun h => by omega, fun h => absurd h HN.out⟩⟩
theorem contains_any (ao : Option Addr) (n c : Nat) (l : List Int) (v : Int) (w : World) (hn : n = l.length) (hk : Reads w w.heap.size 1 ao n (intCells l)) (hl : n ≤ maxLen) (b : Bool) (hb : l.contains v = b) :
    Calls Tryz.prog 87 #[.slice ao n c, .int .i64 v] w (PureB b w) := by
  subst hn
  have HC := Lib.hid (index_any ao c l v w hk hl)
  have HB := Lib.hid hb
  clear hk hb
  go_enter Tryz.func87, Tryz.ntmps87
  go_wp2_with fail
  refine HC.out.mono ?_
  rintro e w' ⟨i, rfl, rfl, hi⟩
  have HI := Lib.hid hi; clear hi
  go_wp2_with fail
  go_ret
  refine ⟨ret_bool ?_, rfl⟩
  rw [← HB.out, Bool.eq_iff_iff, List.contains_iff_mem, ← HI.out]
  simp

/-- A filter's number is found, or none. -/
def FoundRet (b : Bool) (w : World) (e : Ending) (w' : World) : Prop :=
  (b = false ∧ e = .returned .nilFunc ∧ w = w') ∨ (b = true ∧ ∃ F cap, e = .returned (.func (.func F) #[] cap) ∧ Below w.heap.size w w')
theorem find_any (n : Int) (w : World) : Calls Tryz.prog 86 #[.int .i64 n] w (FoundRet (filterB n) w) := by
  cases hf : filterB n with
  | false => exact (find_none n w hf).mono fun e w' ⟨h1, h2⟩ => .inl ⟨rfl, h1, h2⟩
  | true =>
    rw [filterB_iff] at hf
    rcases (show n = 10 ∨ n = 11 ∨ n = 12 ∨ n = 13 ∨ n = 14 ∨ n = 15 by omega) with rfl | rfl | rfl | rfl | rfl | rfl
    · exact (find_10 w).mono fun e w' ⟨h1, h2⟩ => .inr ⟨rfl, _, _, h1, by subst h2; exact Below.refl _ _⟩
    · exact (find_11 w).mono fun e w' ⟨h1, h2⟩ => .inr ⟨rfl, _, _, h1, by subst h2; exact Below.refl _ _⟩
    · exact (find_12 w).mono fun e w' ⟨h1, h2⟩ => .inr ⟨rfl, _, _, h1, by subst h2; exact (Below.refl _ _).alloc (Nat.le_refl _) _⟩
    · exact (find_13 w).mono fun e w' ⟨h1, h2⟩ => .inr ⟨rfl, _, _, h1, by subst h2; exact (Below.refl _ _).alloc (Nat.le_refl _) _⟩
    · exact (find_14 w).mono fun e w' ⟨h1, h2⟩ => .inr ⟨rfl, _, _, h1, by subst h2; exact Below.refl _ _⟩
    · exact (find_15 w).mono fun e w' ⟨h1, h2⟩ => .inr ⟨rfl, _, _, h1, by subst h2; exact Below.refl _ _⟩

/-- A number is answered. -/
def IntB (k : Int) (w : World) (e : Ending) (w' : World) : Prop := e = .returned (.int .i64 k) ∧ Below w.heap.size w w'
def errOf (b : Bool) : Int := if b then 0 else 60
theorem checkGo_step {t : List Int} {k : Nat} (h : k < t.length) : checkGo (t.take k) (t.drop k) = (filterB t[k] && !(t.take k).contains t[k] && checkGo (t.take (k + 1)) (t.drop (k + 1))) := by
  rw [List.drop_eq_getElem_cons h, checkGo, List.take_succ_eq_append_getElem h]

theorem check_bad (l : List Int) (h : ¬ (1 ≤ l.length ∧ l.length ≤ 8 ∧ 1 ≤ l.getD 0 0 ∧ l.getD 0 0 ≤ 4)) : checkB l = false := by
  cases l with
  | nil => rfl
  | cons a t =>
    simp only [List.length_cons, List.getD_cons_zero] at h
    simp only [checkB, Bool.and_eq_false_iff, decide_eq_false_iff_not]
    omega
theorem check_good (l : List Int) (h1 : 1 ≤ l.length) (h2 : l.length ≤ 8) (h3 : 1 ≤ l.getD 0 0) (h4 : l.getD 0 0 ≤ 4) : checkB l = checkGo [] (l.drop 1) := by
  cases l with
  | nil => simp at h1
  | cons a t =>
    simp only [List.length_cons, List.getD_cons_zero] at *
    simp only [checkB, List.drop_succ_cons, List.drop_zero]
    rw [decide_eq_true (by omega), decide_eq_true h3, decide_eq_true h4]; rfl
theorem check_nil (ao : Option Addr) (c : Nat) (w : World) : Calls Tryz.prog 65 #[.slice ao 0 c] w (IntB 60 w) := by
  go_enter Tryz.func65, Tryz.ntmps65
  go_wp2_with fail
  go_ret
  exact ⟨rfl, Below.refl _ _⟩
set_option maxRecDepth 100000 in
set_option maxHeartbeats 1000000 in
theorem check_long (ao : Option Addr) (n c : Nat) (w : World) (h1 : 8 < n) (hm : n ≤ 9223372036854775807) : Calls Tryz.prog 65 #[.slice ao n c] w (IntB 60 w) := by
  have a1 : decide ((n : Int) < 1) = false := by rw [decide_eq_false_iff_not]; omega
  have a2 : decide ((8 : Int) < n) = true := by rw [decide_eq_true_iff]; omega
  go_enter Tryz.func65, Tryz.ntmps65
  go_wp2_with fail
  go_ret
  exact ⟨rfl, Below.refl _ _⟩
set_option maxRecDepth 100000 in
set_option maxHeartbeats 1000000 in
theorem check_first (ad : Addr) (n c : Nat) (a : Int) (w : World) (h0 : 1 ≤ n) (h1 : n ≤ 8) (ha : a < 1 ∨ 4 < a) (hc : w.cell? ad = some (.int .i64 a)) : Calls Tryz.prog 65 #[.slice (some ad) n c] w (IntB 60 w) := by
  have a1 : decide ((n : Int) < 1) = false := by rw [decide_eq_false_iff_not]; omega
  have a2 : decide ((8 : Int) < n) = false := by rw [decide_eq_false_iff_not]; omega
  rcases ha with ha | ha
  · have a3 : decide (a < 1) = true := by rw [decide_eq_true_iff]; omega
    go_enter Tryz.func65, Tryz.ntmps65
    go_wp2_with fail
    go_ret
    exact ⟨rfl, Below.refl _ _⟩
  · have a3 : decide (a < 1) = false := by rw [decide_eq_false_iff_not]; omega
    have a4 : decide (4 < a) = true := by rw [decide_eq_true_iff]; omega
    go_enter Tryz.func65, Tryz.ntmps65
    go_wp2_with fail
    go_ret
    exact ⟨rfl, Below.refl _ _⟩
set_option maxRecDepth 100000 in
set_option maxHeartbeats 1000000 in
theorem check_one (ad : Addr) (c : Nat) (a : Int) (w : World) (hc0 : 1 ≤ c) (ha : 1 ≤ a) (ha4 : a ≤ 4) (hm : c ≤ 9223372036854775807) (hc : w.cell? ad = some (.int .i64 a)) : Calls Tryz.prog 65 #[.slice (some ad) 1 c] w (IntB 0 w) := by
  have a3 : decide (a < 1) = false := by rw [decide_eq_false_iff_not]; omega
  have a4 : decide (4 < a) = false := by rw [decide_eq_false_iff_not]; omega
  rcases (show c = 1 ∨ 2 ≤ c by omega) with rfl | h2
  · go_enter Tryz.func65, Tryz.ntmps65
    go_wp2_with fail
    go_loop [28] (fun i => i = .int .i64 0) (fun _ => 0)
    case atStart => rfl
    case round =>
      subst hrel
      go_wp2_with fail
      go_ret
      exact ⟨rfl, Below.refl _ _⟩
  · go_enter Tryz.func65, Tryz.ntmps65
    go_wp2_with fail
    go_loop [28] (fun i => i = .int .i64 0) (fun _ => 0)
    case atStart => rfl
    case round =>
      subst hrel
      go_wp2_with fail
      go_ret
      exact ⟨rfl, Below.refl _ _⟩
theorem add_pos (ad : Addr) {j : Nat} (h : j ≠ 0) : ad.add j = ⟨ad.block, ad.off + j, none⟩ := by unfold Addr.add; rw [if_neg h]
set_option maxRecDepth 100000 in
theorem eql_fn2 (F : Nat) (cap : Array Value) (w : World) : (binOp .eql 135 (.func (.func F) #[] cap) .nilFunc).run Tryz.prog w = .ok (.bool false) w := by rfl
set_option maxRecDepth 100000 in
set_option maxHeartbeats 1000000 in
theorem check_more (ad : Addr) (c : Nat) (a : Int) (t : List Int) (w : World) (h1 : 1 ≤ t.length) (h7 : t.length ≤ 7) (hc0 : t.length + 1 ≤ c) (hm : c ≤ 9223372036854775807) (ha : 1 ≤ a) (ha4 : a ≤ 4) (hb : ad.block < w.heap.size) (hc : w.cell? ad = some (.int .i64 a)) (hr : ∀ (j : Nat) (v : Int), t[j]? = some v → w.cell? (ad.add (1 + j)) = some (.int .i64 v)) :
    Calls Tryz.prog 65 #[.slice (some ad) (t.length + 1) c] w (IntB (errOf (checkGo [] t)) w) := by
  obtain ⟨r, hR⟩ : ∃ r, checkGo [] t = r := ⟨_, rfl⟩
  have HR : Hid (checkGo (t.take 0) (t.drop 0) = r) := Lib.hid hR
  have HC := Lib.hid hr
  rw [hR]
  have HRD : Hid (∀ (k : Nat) (W : World), k ≤ t.length → Below w.heap.size w W → Reads W W.heap.size 1 (some ⟨ad.block, ad.off + 1, none⟩) k (intCells (t.take k))) := Lib.hid (fun k W hk hW => by
    rw [← add_pos ad (j := 1) (by omega)]
    exact ⟨by simp [intCells, hk], fun _ => ⟨ad.add 1, rfl, by rw [block_of_add]; have := hW.size; omega, fun j u hu => by
    simp only [intCells, List.map_take, List.getElem?_take, List.getElem?_map] at hu
    split at hu
    · cases htj : t[j]? with
      | none => rw [htj] at hu; cases hu
      | some v =>
        rw [htj] at hu
        cases hu
        rw [add_of_add]
        exact (hW.cell (by rw [block_of_add]; exact hb)).trans (HC.out j v htj)
    · cases hu⟩⟩)
  clear hr hR
  obtain ⟨n, hn⟩ : ∃ n, n = t.length + 1 := ⟨_, rfl⟩
  have a1 : decide ((n : Int) < 1) = false := by rw [decide_eq_false_iff_not]; omega
  have a2 : decide ((8 : Int) < n) = false := by rw [decide_eq_false_iff_not]; omega
  have a3 : decide (a < 1) = false := by rw [decide_eq_false_iff_not]; omega
  have a4 : decide (4 < a) = false := by rw [decide_eq_false_iff_not]; omega
  have a5 : (c == 1) = false := by rw [beq_eq_false_iff_ne]; omega
  have a6 : ¬ c = 1 := by omega
  have hq1 := eql_nilF
  have hq2 := eql_fn2
  rw [← hn]
  have HN := Lib.hid hn; clear hn
  have hn1 : 2 ≤ n := by have := HN.out; omega
  have hnc : n ≤ c := by have := HN.out; omega
  go_enter Tryz.func65, Tryz.ntmps65
  go_wp2_with fail
  go_loopw [3, 4, 28] (fun _ _ i wr => ∃ k : Nat, k ≤ t.length ∧ i = .int .i64 k ∧ Hid (checkGo (t.take k) (t.drop k) = r) ∧ Hid (Below w.heap.size w wr)) (fun _ _ i _ => t.length - (RowKit.intOf i).toNat)
  case atStart => exact ⟨0, by omega, rfl, HR, Lib.hid (Below.refl _ _)⟩
  case round =>
    obtain ⟨k, hk, rfl, HE, HW⟩ := hrel
    have hN1 : n ≤ t.length + 1 := by have := HN.out; omega
    have hN2 : t.length + 1 ≤ n := by have := HN.out; omega
    by_cases hlt : k < t.length
    · have hck := HC.out k t[k] (List.getElem?_eq_getElem hlt)
      have hcw : wr.cell? (ad.add (1 + k)) = some (.int .i64 t[k]) := (HW.out.cell (by rw [block_of_add]; exact hb)).trans hck
      have HS := Lib.hid (checkGo_step hlt)
      have hcw2 : wr.cell? ⟨ad.block, ad.off + 1 + k, none⟩ = some (.int .i64 t[k]) := by rw [add_pos _ (by omega), ← Nat.add_assoc] at hcw; exact hcw
      clear hck hcw
      generalize t[k] = x at *
      go_wp2_with fail
      refine (find_any x _).mono ?_
      rintro e w2 (⟨h0, rfl, rfl⟩ | ⟨h0, F, cap, rfl, b2⟩)
      · have HF : Hid (r = false) := Lib.hid (by rw [← HE.out, HS.out, h0]; rfl)
        clear h0
        go_wp2_with fail
        go_ret
        rw [HF.out]
        exact ⟨rfl, HW.out⟩
      · have HW2 := Lib.hid (HW.out.trans (b2.mono HW.out.size))
        have HF : Hid (r = (!(t.take k).contains x && checkGo (t.take (k + 1)) (t.drop (k + 1)))) := Lib.hid (by rw [← HE.out, HS.out, h0]; rfl)
        clear h0 b2 hcw2
        cases hct : (t.take k).contains x with
        | true =>
          have HCT : Hid (∀ W, Below w.heap.size w W → Calls Tryz.prog 87 #[.slice (some ⟨ad.block, ad.off + 1, none⟩) k (c - 1), .int .i64 x] W (PureB true W)) :=
            Lib.hid (fun W hW => contains_any _ k (c - 1) (t.take k) x W (by simp; omega) (HRD.out k W hk hW) (by unfold maxLen; omega) _ hct)
          have HF2 : Hid (r = false) := Lib.hid (by rw [HF.out, hct]; rfl)
          clear hct
          go_wp2_with fail
          refine (HCT.out _ HW2.out).mono ?_
          rintro e w3 ⟨rfl, rfl⟩
          go_wp2_with fail
          go_ret
          rw [HF2.out]
          exact ⟨rfl, HW2.out⟩
        | false =>
          have HCT : Hid (∀ W, Below w.heap.size w W → Calls Tryz.prog 87 #[.slice (some ⟨ad.block, ad.off + 1, none⟩) k (c - 1), .int .i64 x] W (PureB false W)) :=
            Lib.hid (fun W hW => contains_any _ k (c - 1) (t.take k) x W (by simp; omega) (HRD.out k W hk hW) (by unfold maxLen; omega) _ hct)
          have HF2 : Hid (checkGo (t.take (k + 1)) (t.drop (k + 1)) = r) := Lib.hid (by rw [HF.out, hct]; rfl)
          clear hct
          go_wp2_with fail
          refine (HCT.out _ HW2.out).mono ?_
          rintro e w3 ⟨rfl, rfl⟩
          go_wp2_with fail
          go_roundw
          case rel => exact ⟨k + 1, by omega, by go_num, HF2, HW2⟩
          case measure => simp [RowKit.intOf]; omega
    · obtain rfl : k = t.length := by omega
      have HF : Hid (r = true) := Lib.hid (by rw [← HE.out, List.drop_length]; rfl)
      have hlt2 : ¬ (t.length < n - 1) := by omega
      go_wp2_with fail
      go_ret
      rw [HF.out]
      exact ⟨rfl, HW.out⟩
/-- THE PROGRAM'S CHECK. -/
theorem check_any (ao : Option Addr) (n c : Nat) (l : List Int) (w : World) (hn : n = l.length) (hk : Reads w w.heap.size 1 ao n (intCells l)) (hc : n ≤ c) (hm : c ≤ maxLen) :
    Calls Tryz.prog 65 #[.slice ao n c] w (IntB (errOf (checkB l)) w) := by
  subst hn
  unfold maxLen at hm
  by_cases h : 1 ≤ l.length ∧ l.length ≤ 8 ∧ 1 ≤ l.getD 0 0 ∧ l.getD 0 0 ≤ 4
  · obtain ⟨h1, h2, h3, h4⟩ := h
    rw [check_good l h1 h2 h3 h4]
    obtain ⟨ad, rfl, hb, hcell⟩ := hk.2 (by omega)
    match l, h1 with
    | a :: t, _ =>
      simp only [List.length_cons, List.getD_cons_zero, List.drop_succ_cons, List.drop_zero] at *
      have h0 := hcell 0 _ rfl
      rw [show ad.add 0 = ad from rfl] at h0
      rcases Nat.eq_zero_or_pos t.length with hz | hz
      · obtain rfl := List.eq_nil_of_length_eq_zero hz
        exact check_one ad c a w (by simpa using hc) h3 h4 hm h0
      · exact check_more ad c a t w hz (by omega) hc hm h3 h4 hb h0 (fun j v hj => hcell (1 + j) _ (by rw [Nat.add_comm]; simp [intCells, hj]))
  · rw [check_bad l h]
    rcases (show l.length = 0 ∨ 8 < l.length ∨ (1 ≤ l.length ∧ l.length ≤ 8) by omega) with h1 | h1 | ⟨h1, h2⟩
    · rw [h1]; exact check_nil ao c w
    · exact check_long ao _ c w h1 (by omega)
    · obtain ⟨ad, rfl, hb, hcell⟩ := hk.2 (by omega)
      match l, h1 with
      | a :: t, _ =>
        simp only [List.length_cons, List.getD_cons_zero] at *
        have h0 := hcell 0 _ rfl
        rw [show ad.add 0 = ad from rfl] at h0
        exact check_first ad _ c a w (by omega) h2 (by omega) h0
end Go.Proofs.YtfckomjbgopmaaaGreatDoor.Ana
end
