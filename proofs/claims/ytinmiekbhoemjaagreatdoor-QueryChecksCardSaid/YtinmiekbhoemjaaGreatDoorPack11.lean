/- Contracts: slices.Index, slices.Contains over numbers; the program's and the document's Check of a chain. Contract: which fields may be, whatever the others are (the program's may). Written by gen_may.py. -/
import Derived.Test.YtinmiekbhoemjaaGreatDoorProg
import Derived.Test.YtinmiekbhoemjaaGreatDoorPack10
import Derived.Test.YtinmiekbhoemjaaGreatDoorPack5
import Derived.LoopTactic
import Derived.Test.YtinmiekbhoemjaaGreatDoorPack7
import Derived.Test.YtinmiekbhoemjaaGreatDoorAnaRunP
section
set_option linter.unusedVariables false
namespace Go.Proofs.YtinmiekbhoemjaaGreatDoor.Ana
open Go.RowKit Go.Lib AnaP Words Tree Kit Owned

def intCells (l : List Int) : List Value := l.map (Value.int .i64)
theorem reads_int {w : World} {B n : Nat} {ao : Option Addr} {xs : List Int} (h : Reads w B 1 ao n (intCells xs)) (hn : n = xs.length) {k : Nat} (hk : k < xs.length) : ∃ ad, ao = some ad ∧ ad.block < B ∧ w.cell? (ad.add k) = some (.int .i64 xs[k]) := by
  obtain ⟨ad, e, hb, hc⟩ := h.2 (by omega)
  exact ⟨ad, e, hb, hc k _ (by simp [intCells, hk])⟩
theorem mem_take_succ {l : List Int} {k : Nat} {v : Int} (h : k < l.length) : v ∈ l.take (k + 1) ↔ v ∈ l.take k ∨ v = l[k] := by
  rw [List.take_succ_eq_append_getElem h, List.mem_append, List.mem_singleton]

def IdxRet (l : List Int) (v : Int) (w : World) (e : Ending) (w' : World) : Prop := ∃ i : Int, e = .returned (.int .i64 i) ∧ w = w' ∧ (0 ≤ i ↔ v ∈ l)
set_option maxRecDepth 100000 in
set_option maxHeartbeats 1000000 in
theorem index_any (ao : Option Addr) (c : Nat) (l : List Int) (v : Int) (w : World) (hk : Reads w w.heap.size 1 ao l.length (intCells l)) (hl : l.length ≤ maxLen) :
    Calls Tryz.prog 74 #[.slice ao l.length c, .int .i64 v] w (IdxRet l v w) := by
  unfold maxLen at hl
  have HK := Lib.hid hk; clear hk
  go_enter Tryz.func74, Tryz.ntmps74
  go_wp2_with fail
  go_loop [5, 8] (fun _ i => ∃ k : Nat, k ≤ l.length ∧ i = .int .i64 k ∧ Hid (v ∉ l.take k)) (fun _ i => l.length - (RowKit.intOf i).toNat)
  case atStart => exact ⟨0, by omega, rfl, Lib.hid (by simp)⟩
  case round =>
    obtain ⟨k, hkk, rfl, HV⟩ := hrel
    by_cases hlt : k < l.length
    · obtain ⟨ad, rfl, hba, hc⟩ := reads_int HK.out rfl hlt
      have HM : Hid (v ∈ l.take (k + 1) ↔ v ∈ l.take k ∨ v = l[k]) := Lib.hid (mem_take_succ hlt)
      have HM2 : Hid (l[k] ∈ l) := Lib.hid (List.getElem_mem hlt)
      generalize l[k] = x at *
      by_cases he : v = x
      · subst he
        have hb : (v == v) = true := by simp
        go_wp2_with fail
        go_ret
        exact ⟨_, rfl, rfl, ⟨fun _ => HM2.out, fun _ => by omega⟩⟩
      · have hb : (v == x) = false := by rw [beq_eq_false_iff_ne]; exact he
        have HN : Hid (v ∉ l.take (k + 1)) := Lib.hid (fun h => (HM.out.1 h).elim HV.out he)
        clear he
        go_wp2_with fail
        go_round
        case rel => exact ⟨k + 1, by omega, by go_num, HN⟩
        case measure => simp [RowKit.intOf]; omega
    · obtain rfl : k = l.length := by omega
      have HN : Hid (v ∉ l) := Lib.hid (by have := HV.out; rwa [List.take_of_length_le (Nat.le_refl _)] at this)
      go_wp2_with fail
      go_ret
      exact ⟨_, rfl, rfl, ⟨fun h => by omega, fun h => absurd h HN.out⟩⟩
theorem contains_any (ao : Option Addr) (n c : Nat) (l : List Int) (v : Int) (w : World) (hn : n = l.length) (hk : Reads w w.heap.size 1 ao n (intCells l)) (hl : n ≤ maxLen) (b : Bool) (hb : l.contains v = b) :
    Calls Tryz.prog 59 #[.slice ao n c, .int .i64 v] w (PureB b w) := by
  subst hn
  have HC := Lib.hid (index_any ao c l v w hk hl)
  have HB := Lib.hid hb
  clear hk hb
  go_enter Tryz.func59, Tryz.ntmps59
  go_wp2_with fail
  refine HC.out.mono ?_
  rintro e w' ⟨i, rfl, rfl, hi⟩
  have HI := Lib.hid hi; clear hi
  go_wp2_with fail
  go_ret
  refine ⟨ret_bool ?_, rfl⟩
  rw [← HB.out, Bool.eq_iff_iff, List.contains_iff_mem, ← HI.out]
  simp

/-- A filter's number is found, or none. -/
def FoundRet (b : Bool) (w : World) (e : Ending) (w' : World) : Prop :=
  (b = false ∧ e = .returned .nilFunc ∧ w = w') ∨ (b = true ∧ ∃ F cap, e = .returned (.func (.func F) #[] cap) ∧ Below w.heap.size w w')
theorem find_any (n : Int) (w : World) : Calls Tryz.prog 58 #[.int .i64 n] w (FoundRet (filterB n) w) := by
  cases hf : filterB n with
  | false => exact (find_none n w hf).mono fun e w' ⟨h1, h2⟩ => .inl ⟨rfl, h1, h2⟩
  | true =>
    rw [filterB_iff] at hf
    rcases (show n = 10 ∨ n = 11 ∨ n = 12 ∨ n = 13 ∨ n = 14 ∨ n = 15 by omega) with rfl | rfl | rfl | rfl | rfl | rfl
    · exact (find_10 w).mono fun e w' ⟨h1, h2⟩ => .inr ⟨rfl, _, _, h1, by subst h2; exact Below.refl _ _⟩
    · exact (find_11 w).mono fun e w' ⟨h1, h2⟩ => .inr ⟨rfl, _, _, h1, by subst h2; exact Below.refl _ _⟩
    · exact (find_12 w).mono fun e w' ⟨h1, h2⟩ => .inr ⟨rfl, _, _, h1, by subst h2; exact (Below.refl _ _).alloc (Nat.le_refl _) _⟩
    · exact (find_13 w).mono fun e w' ⟨h1, h2⟩ => .inr ⟨rfl, _, _, h1, by subst h2; exact (Below.refl _ _).alloc (Nat.le_refl _) _⟩
    · exact (find_14 w).mono fun e w' ⟨h1, h2⟩ => .inr ⟨rfl, _, _, h1, by subst h2; exact Below.refl _ _⟩
    · exact (find_15 w).mono fun e w' ⟨h1, h2⟩ => .inr ⟨rfl, _, _, h1, by subst h2; exact Below.refl _ _⟩

/-- A number is answered. -/
def IntB (k : Int) (w : World) (e : Ending) (w' : World) : Prop := e = .returned (.int .i64 k) ∧ Below w.heap.size w w'
def errOf (b : Bool) : Int := if b then 0 else 60
theorem checkGo_step {t : List Int} {k : Nat} (h : k < t.length) : checkGo (t.take k) (t.drop k) = (filterB t[k] && !(t.take k).contains t[k] && checkGo (t.take (k + 1)) (t.drop (k + 1))) := by
  rw [List.drop_eq_getElem_cons h, checkGo, List.take_succ_eq_append_getElem h]

theorem check_bad (l : List Int) (h : ¬ (1 ≤ l.length ∧ l.length ≤ 8 ∧ 1 ≤ l.getD 0 0 ∧ l.getD 0 0 ≤ 4)) : checkB l = false := by
  cases l with
  | nil => rfl
  | cons a t =>
    simp only [List.length_cons, List.getD_cons_zero] at h
    simp only [checkB, Bool.and_eq_false_iff, decide_eq_false_iff_not]
    omega
theorem check_good (l : List Int) (h1 : 1 ≤ l.length) (h2 : l.length ≤ 8) (h3 : 1 ≤ l.getD 0 0) (h4 : l.getD 0 0 ≤ 4) : checkB l = checkGo [] (l.drop 1) := by
  cases l with
  | nil => simp at h1
  | cons a t =>
    simp only [List.length_cons, List.getD_cons_zero] at *
    simp only [checkB, List.drop_succ_cons, List.drop_zero]
    rw [decide_eq_true (by omega), decide_eq_true h3, decide_eq_true h4]; rfl
theorem check_nil (ao : Option Addr) (c : Nat) (w : World) : Calls Tryz.prog 49 #[.slice ao 0 c] w (IntB 60 w) := by
  go_enter Tryz.func49, Tryz.ntmps49
  go_wp2_with fail
  go_ret
  exact ⟨rfl, Below.refl _ _⟩
set_option maxRecDepth 100000 in
set_option maxHeartbeats 1000000 in
theorem check_long (ao : Option Addr) (n c : Nat) (w : World) (h1 : 8 < n) (hm : n ≤ 9223372036854775807) : Calls Tryz.prog 49 #[.slice ao n c] w (IntB 60 w) := by
  have a1 : decide ((n : Int) < 1) = false := by rw [decide_eq_false_iff_not]; omega
  have a2 : decide ((8 : Int) < n) = true := by rw [decide_eq_true_iff]; omega
  go_enter Tryz.func49, Tryz.ntmps49
  go_wp2_with fail
  go_ret
  exact ⟨rfl, Below.refl _ _⟩
set_option maxRecDepth 100000 in
set_option maxHeartbeats 1000000 in
theorem check_first (ad : Addr) (n c : Nat) (a : Int) (w : World) (h0 : 1 ≤ n) (h1 : n ≤ 8) (ha : a < 1 ∨ 4 < a) (hc : w.cell? ad = some (.int .i64 a)) : Calls Tryz.prog 49 #[.slice (some ad) n c] w (IntB 60 w) := by
  have a1 : decide ((n : Int) < 1) = false := by rw [decide_eq_false_iff_not]; omega
  have a2 : decide ((8 : Int) < n) = false := by rw [decide_eq_false_iff_not]; omega
  rcases ha with ha | ha
  · have a3 : decide (a < 1) = true := by rw [decide_eq_true_iff]; omega
    go_enter Tryz.func49, Tryz.ntmps49
    go_wp2_with fail
    go_ret
    exact ⟨rfl, Below.refl _ _⟩
  · have a3 : decide (a < 1) = false := by rw [decide_eq_false_iff_not]; omega
    have a4 : decide (4 < a) = true := by rw [decide_eq_true_iff]; omega
    go_enter Tryz.func49, Tryz.ntmps49
    go_wp2_with fail
    go_ret
    exact ⟨rfl, Below.refl _ _⟩
set_option maxRecDepth 100000 in
set_option maxHeartbeats 1000000 in
theorem check_one (ad : Addr) (c : Nat) (a : Int) (w : World) (hc0 : 1 ≤ c) (ha : 1 ≤ a) (ha4 : a ≤ 4) (hm : c ≤ 9223372036854775807) (hc : w.cell? ad = some (.int .i64 a)) : Calls Tryz.prog 49 #[.slice (some ad) 1 c] w (IntB 0 w) := by
  have a3 : decide (a < 1) = false := by rw [decide_eq_false_iff_not]; omega
  have a4 : decide (4 < a) = false := by rw [decide_eq_false_iff_not]; omega
  rcases (show c = 1 ∨ 2 ≤ c by omega) with rfl | h2
  · go_enter Tryz.func49, Tryz.ntmps49
    go_wp2_with fail
    go_loop [28] (fun i => i = .int .i64 0) (fun _ => 0)
    case atStart => rfl
    case round =>
      subst hrel
      go_wp2_with fail
      go_ret
      exact ⟨rfl, Below.refl _ _⟩
  · go_enter Tryz.func49, Tryz.ntmps49
    go_wp2_with fail
    go_loop [28] (fun i => i = .int .i64 0) (fun _ => 0)
    case atStart => rfl
    case round =>
      subst hrel
      go_wp2_with fail
      go_ret
      exact ⟨rfl, Below.refl _ _⟩
theorem add_pos (ad : Addr) {j : Nat} (h : j ≠ 0) : ad.add j = ⟨ad.block, ad.off + j, none⟩ := by unfold Addr.add; rw [if_neg h]
set_option maxRecDepth 100000 in
theorem eql_fn2 (F : Nat) (cap : Array Value) (w : World) : (binOp .eql 99 (.func (.func F) #[] cap) .nilFunc).run Tryz.prog w = .ok (.bool false) w := by rfl
set_option maxRecDepth 100000 in
set_option maxHeartbeats 1000000 in
theorem check_more (ad : Addr) (c : Nat) (a : Int) (t : List Int) (w : World) (h1 : 1 ≤ t.length) (h7 : t.length ≤ 7) (hc0 : t.length + 1 ≤ c) (hm : c ≤ 9223372036854775807) (ha : 1 ≤ a) (ha4 : a ≤ 4) (hb : ad.block < w.heap.size) (hc : w.cell? ad = some (.int .i64 a)) (hr : ∀ (j : Nat) (v : Int), t[j]? = some v → w.cell? (ad.add (1 + j)) = some (.int .i64 v)) :
    Calls Tryz.prog 49 #[.slice (some ad) (t.length + 1) c] w (IntB (errOf (checkGo [] t)) w) := by
  obtain ⟨r, hR⟩ : ∃ r, checkGo [] t = r := ⟨_, rfl⟩
  have HR : Hid (checkGo (t.take 0) (t.drop 0) = r) := Lib.hid hR
  have HC := Lib.hid hr
  rw [hR]
  have HRD : Hid (∀ (k : Nat) (W : World), k ≤ t.length → Below w.heap.size w W → Reads W W.heap.size 1 (some ⟨ad.block, ad.off + 1, none⟩) k (intCells (t.take k))) := Lib.hid (fun k W hk hW => by
    rw [← add_pos ad (j := 1) (by omega)]
    exact ⟨by simp [intCells, hk], fun _ => ⟨ad.add 1, rfl, by rw [block_of_add]; have := hW.size; omega, fun j u hu => by
    simp only [intCells, List.map_take, List.getElem?_take, List.getElem?_map] at hu
    split at hu
    · cases htj : t[j]? with
      | none => rw [htj] at hu; cases hu
      | some v =>
        rw [htj] at hu
        cases hu
        rw [add_of_add]
        exact (hW.cell (by rw [block_of_add]; exact hb)).trans (HC.out j v htj)
    · cases hu⟩⟩)
  clear hr hR
  obtain ⟨n, hn⟩ : ∃ n, n = t.length + 1 := ⟨_, rfl⟩
  have a1 : decide ((n : Int) < 1) = false := by rw [decide_eq_false_iff_not]; omega
  have a2 : decide ((8 : Int) < n) = false := by rw [decide_eq_false_iff_not]; omega
  have a3 : decide (a < 1) = false := by rw [decide_eq_false_iff_not]; omega
  have a4 : decide (4 < a) = false := by rw [decide_eq_false_iff_not]; omega
  have a5 : (c == 1) = false := by rw [beq_eq_false_iff_ne]; omega
  have a6 : ¬ c = 1 := by omega
  have hq1 := eql_nilF
  have hq2 := eql_fn2
  rw [← hn]
  have HN := Lib.hid hn; clear hn
  have hn1 : 2 ≤ n := by have := HN.out; omega
  have hnc : n ≤ c := by have := HN.out; omega
  go_enter Tryz.func49, Tryz.ntmps49
  go_wp2_with fail
  go_loopw [3, 4, 28] (fun _ _ i wr => ∃ k : Nat, k ≤ t.length ∧ i = .int .i64 k ∧ Hid (checkGo (t.take k) (t.drop k) = r) ∧ Hid (Below w.heap.size w wr)) (fun _ _ i _ => t.length - (RowKit.intOf i).toNat)
  case atStart => exact ⟨0, by omega, rfl, HR, Lib.hid (Below.refl _ _)⟩
  case round =>
    obtain ⟨k, hk, rfl, HE, HW⟩ := hrel
    have hN1 : n ≤ t.length + 1 := by have := HN.out; omega
    have hN2 : t.length + 1 ≤ n := by have := HN.out; omega
    by_cases hlt : k < t.length
    · have hck := HC.out k t[k] (List.getElem?_eq_getElem hlt)
      have hcw : wr.cell? (ad.add (1 + k)) = some (.int .i64 t[k]) := (HW.out.cell (by rw [block_of_add]; exact hb)).trans hck
      have HS := Lib.hid (checkGo_step hlt)
      have hcw2 : wr.cell? ⟨ad.block, ad.off + 1 + k, none⟩ = some (.int .i64 t[k]) := by rw [add_pos _ (by omega), ← Nat.add_assoc] at hcw; exact hcw
      clear hck hcw
      generalize t[k] = x at *
      go_wp2_with fail
      refine (find_any x _).mono ?_
      rintro e w2 (⟨h0, rfl, rfl⟩ | ⟨h0, F, cap, rfl, b2⟩)
      · have HF : Hid (r = false) := Lib.hid (by rw [← HE.out, HS.out, h0]; rfl)
        clear h0
        go_wp2_with fail
        go_ret
        rw [HF.out]
        exact ⟨rfl, HW.out⟩
      · have HW2 := Lib.hid (HW.out.trans (b2.mono HW.out.size))
        have HF : Hid (r = (!(t.take k).contains x && checkGo (t.take (k + 1)) (t.drop (k + 1)))) := Lib.hid (by rw [← HE.out, HS.out, h0]; rfl)
        clear h0 b2 hcw2
        cases hct : (t.take k).contains x with
        | true =>
          have HCT : Hid (∀ W, Below w.heap.size w W → Calls Tryz.prog 59 #[.slice (some ⟨ad.block, ad.off + 1, none⟩) k (c - 1), .int .i64 x] W (PureB true W)) :=
            Lib.hid (fun W hW => contains_any _ k (c - 1) (t.take k) x W (by simp; omega) (HRD.out k W hk hW) (by unfold maxLen; omega) _ hct)
          have HF2 : Hid (r = false) := Lib.hid (by rw [HF.out, hct]; rfl)
          clear hct
          go_wp2_with fail
          refine (HCT.out _ HW2.out).mono ?_
          rintro e w3 ⟨rfl, rfl⟩
          go_wp2_with fail
          go_ret
          rw [HF2.out]
          exact ⟨rfl, HW2.out⟩
        | false =>
          have HCT : Hid (∀ W, Below w.heap.size w W → Calls Tryz.prog 59 #[.slice (some ⟨ad.block, ad.off + 1, none⟩) k (c - 1), .int .i64 x] W (PureB false W)) :=
            Lib.hid (fun W hW => contains_any _ k (c - 1) (t.take k) x W (by simp; omega) (HRD.out k W hk hW) (by unfold maxLen; omega) _ hct)
          have HF2 : Hid (checkGo (t.take (k + 1)) (t.drop (k + 1)) = r) := Lib.hid (by rw [HF.out, hct]; rfl)
          clear hct
          go_wp2_with fail
          refine (HCT.out _ HW2.out).mono ?_
          rintro e w3 ⟨rfl, rfl⟩
          go_wp2_with fail
          go_roundw
          case rel => exact ⟨k + 1, by omega, by go_num, HF2, HW2⟩
          case measure => simp [RowKit.intOf]; omega
    · obtain rfl : k = t.length := by omega
      have HF : Hid (r = true) := Lib.hid (by rw [← HE.out, List.drop_length]; rfl)
      have hlt2 : ¬ (t.length < n - 1) := by omega
      go_wp2_with fail
      go_ret
      rw [HF.out]
      exact ⟨rfl, HW.out⟩
/-- THE PROGRAM'S CHECK. -/
theorem check_any (ao : Option Addr) (n c : Nat) (l : List Int) (w : World) (hn : n = l.length) (hk : Reads w w.heap.size 1 ao n (intCells l)) (hc : n ≤ c) (hm : c ≤ maxLen) :
    Calls Tryz.prog 49 #[.slice ao n c] w (IntB (errOf (checkB l)) w) := by
  subst hn
  unfold maxLen at hm
  by_cases h : 1 ≤ l.length ∧ l.length ≤ 8 ∧ 1 ≤ l.getD 0 0 ∧ l.getD 0 0 ≤ 4
  · obtain ⟨h1, h2, h3, h4⟩ := h
    rw [check_good l h1 h2 h3 h4]
    obtain ⟨ad, rfl, hb, hcell⟩ := hk.2 (by omega)
    match l, h1 with
    | a :: t, _ =>
      simp only [List.length_cons, List.getD_cons_zero, List.drop_succ_cons, List.drop_zero] at *
      have h0 := hcell 0 _ rfl
      rw [show ad.add 0 = ad from rfl] at h0
      rcases Nat.eq_zero_or_pos t.length with hz | hz
      · obtain rfl := List.eq_nil_of_length_eq_zero hz
        exact check_one ad c a w (by simpa using hc) h3 h4 hm h0
      · exact check_more ad c a t w hz (by omega) hc hm h3 h4 hb h0 (fun j v hj => hcell (1 + j) _ (by rw [Nat.add_comm]; simp [intCells, hj]))
  · rw [check_bad l h]
    rcases (show l.length = 0 ∨ 8 < l.length ∨ (1 ≤ l.length ∧ l.length ≤ 8) by omega) with h1 | h1 | ⟨h1, h2⟩
    · rw [h1]; exact check_nil ao c w
    · exact check_long ao _ c w h1 (by omega)
    · obtain ⟨ad, rfl, hb, hcell⟩ := hk.2 (by omega)
      match l, h1 with
      | a :: t, _ =>
        simp only [List.length_cons, List.getD_cons_zero] at *
        have h0 := hcell 0 _ rfl
        rw [show ad.add 0 = ad from rfl] at h0
        exact check_first ad _ c a w (by omega) h2 (by omega) h0
end Go.Proofs.YtinmiekbhoemjaaGreatDoor.Ana
end
section
set_option linter.unusedVariables false
namespace Go.Proofs.YtinmiekbhoemjaaGreatDoor.Sch
open Go.RowKit Words Tree SchP Kit Owned AnaP

theorem kind_ways (k : Int) : k = 1 ∨ k = 2 ∨ k = 3 ∨ k = 4 ∨ k = 5 ∨ ((k == 1) = false ∧ (k == 2) = false ∧ (k == 3) = false ∧ (k == 4) = false ∧ (k == 5) = false ∧ (k != 1) = true ∧ (k != 4) = true ∧ (k != 5) = true ∧ k ≠ 1 ∧ k ≠ 2 ∧ k ≠ 3 ∧ k ≠ 4 ∧ k ≠ 5) := by
  by_cases h1 : k = 1
  · exact .inl h1
  by_cases h2 : k = 2
  · exact .inr (.inl h2)
  by_cases h3 : k = 3
  · exact .inr (.inr (.inl h3))
  by_cases h4 : k = 4
  · exact .inr (.inr (.inr (.inl h4)))
  by_cases h5 : k = 5
  · exact .inr (.inr (.inr (.inr (.inl h5))))
  exact .inr (.inr (.inr (.inr (.inr ⟨by simpa using h1, by simpa using h2, by simpa using h3, by simpa using h4, by simpa using h5, by simpa using h1, by simpa using h4, by simpa using h5, h1, h2, h3, h4, h5⟩))))
theorem zero_ways (k : Int) : k = 0 ∨ (k ≠ 0 ∧ (k != 0) = true ∧ (k == 0) = false) := by
  by_cases h : k = 0
  · exact .inl h
  · exact .inr ⟨h, by simpa using h, by simpa using h⟩
theorem ge_ways (k m : Int) : (m ≤ k ∧ decide (m ≤ k) = true) ∨ (¬ m ≤ k ∧ decide (m ≤ k) = false) := by
  by_cases h : m ≤ k
  · exact .inl ⟨h, decide_eq_true h⟩
  · exact .inr ⟨h, decide_eq_false h⟩
theorem pos_ways (n : Nat) : n = 0 ∨ (n ≠ 0 ∧ 0 < n ∧ decide (0 < n) = true) := by
  by_cases h : n = 0
  · exact .inl h
  · exact .inr ⟨h, by omega, decide_eq_true (by omega)⟩

set_option maxRecDepth 100000 in
set_option maxHeartbeats 8000000 in
theorem may_any (f : FT) (v : Value) (w : World) (hv : T.At bare w (fun g => g < w.heap.size) (numsT .i64 f.chain) v) (ok : FOk f) :
    Calls Tryz.prog 30 #[.agg #[.string f.name, .int .i64 f.kind, v, .int .i64 f.scale, .int .i64 f.dims, .bool f.many, .bool f.stored]] w (AnsB (mayB f) w) := by
  obtain ⟨X, z, rfl, hz, hm, hrd⟩ := at_nums hv
  have HN := Lib.hid (fun (W : World) (_ : Below w.heap.size w W) => name_any f.name W ok.name)
  have HC := Lib.hid (fun (W : World) (hW : Below w.heap.size w W) => Ana.check_any X f.chain.length z f.chain W rfl ((hrd.below hW).more hW.size) hz hm)
  clear hv hrd ok
  obtain ⟨b, hn⟩ : ∃ b, nameB f.name = b := ⟨_, rfl⟩
  obtain ⟨r, hr0⟩ : ∃ r, checkB f.chain = r := ⟨_, rfl⟩
  rw [hr0] at HC
  have hr : (r = true ∧ Ana.errOf r = 0) ∨ (r = false ∧ Ana.errOf r = 60) := by cases r <;> simp [Ana.errOf]
  have HQ : Hid (mayB f = (b && (decide (f.kind = 1) || decide (f.chain.length = 0)) && (decide (f.kind = 4) || decide (f.scale = 0)) && (decide (f.kind = 5) || decide (f.dims = 0)) && (if f.kind = 1 then r else if f.kind = 2 ∨ f.kind = 3 then true else if f.kind = 4 then decide (0 ≤ f.scale ∧ f.scale ≤ 9) else if f.kind = 5 then decide (1 ≤ f.dims ∧ f.dims ≤ 4) else false))) := Lib.hid (by unfold mayB kindB; rw [hn, hr0])
  clear hr0
  cases b with
  | false =>
    · have HR : Hid (mayB f = false) := Lib.hid (by rw [HQ.out]; simp)
      clear HQ
      go_enter Tryz.func30, Tryz.ntmps30
      go_wp2_with fail
      refine (HN.out _ ((Below.refl _ w).alloc (Nat.le_refl _) _)).mono ?_
      rintro e W ⟨rfl, b0⟩
      have HB := Lib.hid (((Below.refl _ w).alloc (Nat.le_refl _) _).trans (b0.mono (by simp)) : Below w.heap.size w W)
      have BF := Lib.hid ((Blk.new w _ _).below b0 (by simp))
      obtain ⟨p0, p1, p2, p3, p4, p5, p6⟩ := blk7 BF.out
      rw [hn]
      clear b0 hn
      go_wp2_with fail
      go_ret
      rw [HR.out]; exact ⟨rfl, HB.out⟩
  | true =>
  obtain ⟨nm, kd, ch, sc, di, mn, st⟩ := f
  dsimp only at *
  generalize hch : ch.length = n at *
  rcases kind_ways kd with rfl | rfl | rfl | rfl | rfl | ⟨e1, e2, e3, e4, e5, n1, n4, n5, k1, k2, k3, k4, k5⟩
  · skip
    rcases zero_ways sc with rfl | ⟨s0, s1, s2⟩
    rotate_left
    · have HR : Hid (mayB _ = false) := Lib.hid (by rw [HQ.out]; simp_all <;> omega)
      clear HQ
      go_enter Tryz.func30, Tryz.ntmps30
      go_wp2_with fail
      refine (HN.out _ ((Below.refl _ w).alloc (Nat.le_refl _) _)).mono ?_
      rintro e W ⟨rfl, b0⟩
      have HB := Lib.hid (((Below.refl _ w).alloc (Nat.le_refl _) _).trans (b0.mono (by simp)) : Below w.heap.size w W)
      have BF := Lib.hid ((Blk.new w _ _).below b0 (by simp))
      obtain ⟨p0, p1, p2, p3, p4, p5, p6⟩ := blk7 BF.out
      rw [hn]
      clear b0 hn
      go_wp2_with fail
      go_ret
      rw [HR.out]; exact ⟨rfl, HB.out⟩
    rcases zero_ways di with rfl | ⟨d0, d1, d2⟩
    rotate_left
    · have HR : Hid (mayB _ = false) := Lib.hid (by rw [HQ.out]; simp_all <;> omega)
      clear HQ
      go_enter Tryz.func30, Tryz.ntmps30
      go_wp2_with fail
      refine (HN.out _ ((Below.refl _ w).alloc (Nat.le_refl _) _)).mono ?_
      rintro e W ⟨rfl, b0⟩
      have HB := Lib.hid (((Below.refl _ w).alloc (Nat.le_refl _) _).trans (b0.mono (by simp)) : Below w.heap.size w W)
      have BF := Lib.hid ((Blk.new w _ _).below b0 (by simp))
      obtain ⟨p0, p1, p2, p3, p4, p5, p6⟩ := blk7 BF.out
      rw [hn]
      clear b0 hn
      go_wp2_with fail
      go_ret
      rw [HR.out]; exact ⟨rfl, HB.out⟩
    · have HR : Hid (mayB _ = r) := Lib.hid (by rw [HQ.out]; simp_all <;> omega)
      clear HQ
      go_enter Tryz.func30, Tryz.ntmps30
      go_wp2_with fail
      refine (HN.out _ ((Below.refl _ w).alloc (Nat.le_refl _) _)).mono ?_
      rintro e W ⟨rfl, b0⟩
      have HB := Lib.hid (((Below.refl _ w).alloc (Nat.le_refl _) _).trans (b0.mono (by simp)) : Below w.heap.size w W)
      have BF := Lib.hid ((Blk.new w _ _).below b0 (by simp))
      obtain ⟨p0, p1, p2, p3, p4, p5, p6⟩ := blk7 BF.out
      rw [hn]
      clear b0 hn
      go_wp2_with fail
      refine (HC.out W HB.out).mono ?_
      rintro e W2 ⟨rfl, b1⟩
      have HB2 := Lib.hid (HB.out.trans (b1.mono HB.out.size))
      clear b1
      rcases hr with ⟨rfl, he⟩ | ⟨rfl, he⟩
      · rw [he]
        go_wp2_with fail
        go_ret
        rw [HR.out]; exact ⟨rfl, HB2.out⟩
      · rw [he]
        go_wp2_with fail
        go_ret
        rw [HR.out]; exact ⟨rfl, HB2.out⟩
  · skip
    rcases pos_ways n with rfl | ⟨c0, c1, c2⟩
    rotate_left
    · have HR : Hid (mayB _ = false) := Lib.hid (by rw [HQ.out]; simp_all <;> omega)
      clear HQ
      go_enter Tryz.func30, Tryz.ntmps30
      go_wp2_with fail
      refine (HN.out _ ((Below.refl _ w).alloc (Nat.le_refl _) _)).mono ?_
      rintro e W ⟨rfl, b0⟩
      have HB := Lib.hid (((Below.refl _ w).alloc (Nat.le_refl _) _).trans (b0.mono (by simp)) : Below w.heap.size w W)
      have BF := Lib.hid ((Blk.new w _ _).below b0 (by simp))
      obtain ⟨p0, p1, p2, p3, p4, p5, p6⟩ := blk7 BF.out
      rw [hn]
      clear b0 hn
      go_wp2_with fail
      go_ret
      rw [HR.out]; exact ⟨rfl, HB.out⟩
    rcases zero_ways sc with rfl | ⟨s0, s1, s2⟩
    rotate_left
    · have HR : Hid (mayB _ = false) := Lib.hid (by rw [HQ.out]; simp_all <;> omega)
      clear HQ
      go_enter Tryz.func30, Tryz.ntmps30
      go_wp2_with fail
      refine (HN.out _ ((Below.refl _ w).alloc (Nat.le_refl _) _)).mono ?_
      rintro e W ⟨rfl, b0⟩
      have HB := Lib.hid (((Below.refl _ w).alloc (Nat.le_refl _) _).trans (b0.mono (by simp)) : Below w.heap.size w W)
      have BF := Lib.hid ((Blk.new w _ _).below b0 (by simp))
      obtain ⟨p0, p1, p2, p3, p4, p5, p6⟩ := blk7 BF.out
      rw [hn]
      clear b0 hn
      go_wp2_with fail
      go_ret
      rw [HR.out]; exact ⟨rfl, HB.out⟩
    rcases zero_ways di with rfl | ⟨d0, d1, d2⟩
    rotate_left
    · have HR : Hid (mayB _ = false) := Lib.hid (by rw [HQ.out]; simp_all <;> omega)
      clear HQ
      go_enter Tryz.func30, Tryz.ntmps30
      go_wp2_with fail
      refine (HN.out _ ((Below.refl _ w).alloc (Nat.le_refl _) _)).mono ?_
      rintro e W ⟨rfl, b0⟩
      have HB := Lib.hid (((Below.refl _ w).alloc (Nat.le_refl _) _).trans (b0.mono (by simp)) : Below w.heap.size w W)
      have BF := Lib.hid ((Blk.new w _ _).below b0 (by simp))
      obtain ⟨p0, p1, p2, p3, p4, p5, p6⟩ := blk7 BF.out
      rw [hn]
      clear b0 hn
      go_wp2_with fail
      go_ret
      rw [HR.out]; exact ⟨rfl, HB.out⟩
    · have HR : Hid (mayB _ = true) := Lib.hid (by rw [HQ.out]; simp_all <;> omega)
      clear HQ
      go_enter Tryz.func30, Tryz.ntmps30
      go_wp2_with fail
      refine (HN.out _ ((Below.refl _ w).alloc (Nat.le_refl _) _)).mono ?_
      rintro e W ⟨rfl, b0⟩
      have HB := Lib.hid (((Below.refl _ w).alloc (Nat.le_refl _) _).trans (b0.mono (by simp)) : Below w.heap.size w W)
      have BF := Lib.hid ((Blk.new w _ _).below b0 (by simp))
      obtain ⟨p0, p1, p2, p3, p4, p5, p6⟩ := blk7 BF.out
      rw [hn]
      clear b0 hn
      go_wp2_with fail
      go_ret
      rw [HR.out]; exact ⟨rfl, HB.out⟩
  · skip
    rcases pos_ways n with rfl | ⟨c0, c1, c2⟩
    rotate_left
    · have HR : Hid (mayB _ = false) := Lib.hid (by rw [HQ.out]; simp_all <;> omega)
      clear HQ
      go_enter Tryz.func30, Tryz.ntmps30
      go_wp2_with fail
      refine (HN.out _ ((Below.refl _ w).alloc (Nat.le_refl _) _)).mono ?_
      rintro e W ⟨rfl, b0⟩
      have HB := Lib.hid (((Below.refl _ w).alloc (Nat.le_refl _) _).trans (b0.mono (by simp)) : Below w.heap.size w W)
      have BF := Lib.hid ((Blk.new w _ _).below b0 (by simp))
      obtain ⟨p0, p1, p2, p3, p4, p5, p6⟩ := blk7 BF.out
      rw [hn]
      clear b0 hn
      go_wp2_with fail
      go_ret
      rw [HR.out]; exact ⟨rfl, HB.out⟩
    rcases zero_ways sc with rfl | ⟨s0, s1, s2⟩
    rotate_left
    · have HR : Hid (mayB _ = false) := Lib.hid (by rw [HQ.out]; simp_all <;> omega)
      clear HQ
      go_enter Tryz.func30, Tryz.ntmps30
      go_wp2_with fail
      refine (HN.out _ ((Below.refl _ w).alloc (Nat.le_refl _) _)).mono ?_
      rintro e W ⟨rfl, b0⟩
      have HB := Lib.hid (((Below.refl _ w).alloc (Nat.le_refl _) _).trans (b0.mono (by simp)) : Below w.heap.size w W)
      have BF := Lib.hid ((Blk.new w _ _).below b0 (by simp))
      obtain ⟨p0, p1, p2, p3, p4, p5, p6⟩ := blk7 BF.out
      rw [hn]
      clear b0 hn
      go_wp2_with fail
      go_ret
      rw [HR.out]; exact ⟨rfl, HB.out⟩
    rcases zero_ways di with rfl | ⟨d0, d1, d2⟩
    rotate_left
    · have HR : Hid (mayB _ = false) := Lib.hid (by rw [HQ.out]; simp_all <;> omega)
      clear HQ
      go_enter Tryz.func30, Tryz.ntmps30
      go_wp2_with fail
      refine (HN.out _ ((Below.refl _ w).alloc (Nat.le_refl _) _)).mono ?_
      rintro e W ⟨rfl, b0⟩
      have HB := Lib.hid (((Below.refl _ w).alloc (Nat.le_refl _) _).trans (b0.mono (by simp)) : Below w.heap.size w W)
      have BF := Lib.hid ((Blk.new w _ _).below b0 (by simp))
      obtain ⟨p0, p1, p2, p3, p4, p5, p6⟩ := blk7 BF.out
      rw [hn]
      clear b0 hn
      go_wp2_with fail
      go_ret
      rw [HR.out]; exact ⟨rfl, HB.out⟩
    · have HR : Hid (mayB _ = true) := Lib.hid (by rw [HQ.out]; simp_all <;> omega)
      clear HQ
      go_enter Tryz.func30, Tryz.ntmps30
      go_wp2_with fail
      refine (HN.out _ ((Below.refl _ w).alloc (Nat.le_refl _) _)).mono ?_
      rintro e W ⟨rfl, b0⟩
      have HB := Lib.hid (((Below.refl _ w).alloc (Nat.le_refl _) _).trans (b0.mono (by simp)) : Below w.heap.size w W)
      have BF := Lib.hid ((Blk.new w _ _).below b0 (by simp))
      obtain ⟨p0, p1, p2, p3, p4, p5, p6⟩ := blk7 BF.out
      rw [hn]
      clear b0 hn
      go_wp2_with fail
      go_ret
      rw [HR.out]; exact ⟨rfl, HB.out⟩
  · skip
    rcases pos_ways n with rfl | ⟨c0, c1, c2⟩
    rotate_left
    · have HR : Hid (mayB _ = false) := Lib.hid (by rw [HQ.out]; simp_all <;> omega)
      clear HQ
      go_enter Tryz.func30, Tryz.ntmps30
      go_wp2_with fail
      refine (HN.out _ ((Below.refl _ w).alloc (Nat.le_refl _) _)).mono ?_
      rintro e W ⟨rfl, b0⟩
      have HB := Lib.hid (((Below.refl _ w).alloc (Nat.le_refl _) _).trans (b0.mono (by simp)) : Below w.heap.size w W)
      have BF := Lib.hid ((Blk.new w _ _).below b0 (by simp))
      obtain ⟨p0, p1, p2, p3, p4, p5, p6⟩ := blk7 BF.out
      rw [hn]
      clear b0 hn
      go_wp2_with fail
      go_ret
      rw [HR.out]; exact ⟨rfl, HB.out⟩
    rcases zero_ways di with rfl | ⟨d0, d1, d2⟩
    rotate_left
    · have HR : Hid (mayB _ = false) := Lib.hid (by rw [HQ.out]; simp_all <;> omega)
      clear HQ
      go_enter Tryz.func30, Tryz.ntmps30
      go_wp2_with fail
      refine (HN.out _ ((Below.refl _ w).alloc (Nat.le_refl _) _)).mono ?_
      rintro e W ⟨rfl, b0⟩
      have HB := Lib.hid (((Below.refl _ w).alloc (Nat.le_refl _) _).trans (b0.mono (by simp)) : Below w.heap.size w W)
      have BF := Lib.hid ((Blk.new w _ _).below b0 (by simp))
      obtain ⟨p0, p1, p2, p3, p4, p5, p6⟩ := blk7 BF.out
      rw [hn]
      clear b0 hn
      go_wp2_with fail
      go_ret
      rw [HR.out]; exact ⟨rfl, HB.out⟩
    rcases ge_ways sc 0 with ⟨g0, g1⟩ | ⟨g0, g1⟩
    rotate_left
    · have HR : Hid (mayB _ = false) := Lib.hid (by rw [HQ.out]; simp_all <;> omega)
      clear HQ
      go_enter Tryz.func30, Tryz.ntmps30
      go_wp2_with fail
      refine (HN.out _ ((Below.refl _ w).alloc (Nat.le_refl _) _)).mono ?_
      rintro e W ⟨rfl, b0⟩
      have HB := Lib.hid (((Below.refl _ w).alloc (Nat.le_refl _) _).trans (b0.mono (by simp)) : Below w.heap.size w W)
      have BF := Lib.hid ((Blk.new w _ _).below b0 (by simp))
      obtain ⟨p0, p1, p2, p3, p4, p5, p6⟩ := blk7 BF.out
      rw [hn]
      clear b0 hn
      go_wp2_with fail
      go_ret
      rw [HR.out]; exact ⟨rfl, HB.out⟩
    rcases ge_ways 9 sc with ⟨h0, h1⟩ | ⟨h0, h1⟩
    rotate_left
    · have HR : Hid (mayB _ = false) := Lib.hid (by rw [HQ.out]; simp_all <;> omega)
      clear HQ
      go_enter Tryz.func30, Tryz.ntmps30
      go_wp2_with fail
      refine (HN.out _ ((Below.refl _ w).alloc (Nat.le_refl _) _)).mono ?_
      rintro e W ⟨rfl, b0⟩
      have HB := Lib.hid (((Below.refl _ w).alloc (Nat.le_refl _) _).trans (b0.mono (by simp)) : Below w.heap.size w W)
      have BF := Lib.hid ((Blk.new w _ _).below b0 (by simp))
      obtain ⟨p0, p1, p2, p3, p4, p5, p6⟩ := blk7 BF.out
      rw [hn]
      clear b0 hn
      go_wp2_with fail
      go_ret
      rw [HR.out]; exact ⟨rfl, HB.out⟩
    · have HR : Hid (mayB _ = true) := Lib.hid (by rw [HQ.out]; simp_all <;> omega)
      clear HQ
      go_enter Tryz.func30, Tryz.ntmps30
      go_wp2_with fail
      refine (HN.out _ ((Below.refl _ w).alloc (Nat.le_refl _) _)).mono ?_
      rintro e W ⟨rfl, b0⟩
      have HB := Lib.hid (((Below.refl _ w).alloc (Nat.le_refl _) _).trans (b0.mono (by simp)) : Below w.heap.size w W)
      have BF := Lib.hid ((Blk.new w _ _).below b0 (by simp))
      obtain ⟨p0, p1, p2, p3, p4, p5, p6⟩ := blk7 BF.out
      rw [hn]
      clear b0 hn
      go_wp2_with fail
      go_ret
      rw [HR.out]; exact ⟨rfl, HB.out⟩
  · skip
    rcases pos_ways n with rfl | ⟨c0, c1, c2⟩
    rotate_left
    · have HR : Hid (mayB _ = false) := Lib.hid (by rw [HQ.out]; simp_all <;> omega)
      clear HQ
      go_enter Tryz.func30, Tryz.ntmps30
      go_wp2_with fail
      refine (HN.out _ ((Below.refl _ w).alloc (Nat.le_refl _) _)).mono ?_
      rintro e W ⟨rfl, b0⟩
      have HB := Lib.hid (((Below.refl _ w).alloc (Nat.le_refl _) _).trans (b0.mono (by simp)) : Below w.heap.size w W)
      have BF := Lib.hid ((Blk.new w _ _).below b0 (by simp))
      obtain ⟨p0, p1, p2, p3, p4, p5, p6⟩ := blk7 BF.out
      rw [hn]
      clear b0 hn
      go_wp2_with fail
      go_ret
      rw [HR.out]; exact ⟨rfl, HB.out⟩
    rcases zero_ways sc with rfl | ⟨s0, s1, s2⟩
    rotate_left
    · have HR : Hid (mayB _ = false) := Lib.hid (by rw [HQ.out]; simp_all <;> omega)
      clear HQ
      go_enter Tryz.func30, Tryz.ntmps30
      go_wp2_with fail
      refine (HN.out _ ((Below.refl _ w).alloc (Nat.le_refl _) _)).mono ?_
      rintro e W ⟨rfl, b0⟩
      have HB := Lib.hid (((Below.refl _ w).alloc (Nat.le_refl _) _).trans (b0.mono (by simp)) : Below w.heap.size w W)
      have BF := Lib.hid ((Blk.new w _ _).below b0 (by simp))
      obtain ⟨p0, p1, p2, p3, p4, p5, p6⟩ := blk7 BF.out
      rw [hn]
      clear b0 hn
      go_wp2_with fail
      go_ret
      rw [HR.out]; exact ⟨rfl, HB.out⟩
    rcases ge_ways di 1 with ⟨g0, g1⟩ | ⟨g0, g1⟩
    rotate_left
    · have HR : Hid (mayB _ = false) := Lib.hid (by rw [HQ.out]; simp_all <;> omega)
      clear HQ
      go_enter Tryz.func30, Tryz.ntmps30
      go_wp2_with fail
      refine (HN.out _ ((Below.refl _ w).alloc (Nat.le_refl _) _)).mono ?_
      rintro e W ⟨rfl, b0⟩
      have HB := Lib.hid (((Below.refl _ w).alloc (Nat.le_refl _) _).trans (b0.mono (by simp)) : Below w.heap.size w W)
      have BF := Lib.hid ((Blk.new w _ _).below b0 (by simp))
      obtain ⟨p0, p1, p2, p3, p4, p5, p6⟩ := blk7 BF.out
      rw [hn]
      clear b0 hn
      go_wp2_with fail
      go_ret
      rw [HR.out]; exact ⟨rfl, HB.out⟩
    rcases ge_ways 4 di with ⟨h0, h1⟩ | ⟨h0, h1⟩
    rotate_left
    · have HR : Hid (mayB _ = false) := Lib.hid (by rw [HQ.out]; simp_all <;> omega)
      clear HQ
      go_enter Tryz.func30, Tryz.ntmps30
      go_wp2_with fail
      refine (HN.out _ ((Below.refl _ w).alloc (Nat.le_refl _) _)).mono ?_
      rintro e W ⟨rfl, b0⟩
      have HB := Lib.hid (((Below.refl _ w).alloc (Nat.le_refl _) _).trans (b0.mono (by simp)) : Below w.heap.size w W)
      have BF := Lib.hid ((Blk.new w _ _).below b0 (by simp))
      obtain ⟨p0, p1, p2, p3, p4, p5, p6⟩ := blk7 BF.out
      rw [hn]
      clear b0 hn
      go_wp2_with fail
      go_ret
      rw [HR.out]; exact ⟨rfl, HB.out⟩
    · have HR : Hid (mayB _ = true) := Lib.hid (by rw [HQ.out]; simp_all <;> omega)
      clear HQ
      go_enter Tryz.func30, Tryz.ntmps30
      go_wp2_with fail
      refine (HN.out _ ((Below.refl _ w).alloc (Nat.le_refl _) _)).mono ?_
      rintro e W ⟨rfl, b0⟩
      have HB := Lib.hid (((Below.refl _ w).alloc (Nat.le_refl _) _).trans (b0.mono (by simp)) : Below w.heap.size w W)
      have BF := Lib.hid ((Blk.new w _ _).below b0 (by simp))
      obtain ⟨p0, p1, p2, p3, p4, p5, p6⟩ := blk7 BF.out
      rw [hn]
      clear b0 hn
      go_wp2_with fail
      go_ret
      rw [HR.out]; exact ⟨rfl, HB.out⟩
  · skip
    rcases pos_ways n with rfl | ⟨c0, c1, c2⟩
    rotate_left
    · have HR : Hid (mayB _ = false) := Lib.hid (by rw [HQ.out]; simp_all <;> omega)
      clear HQ
      go_enter Tryz.func30, Tryz.ntmps30
      go_wp2_with fail
      refine (HN.out _ ((Below.refl _ w).alloc (Nat.le_refl _) _)).mono ?_
      rintro e W ⟨rfl, b0⟩
      have HB := Lib.hid (((Below.refl _ w).alloc (Nat.le_refl _) _).trans (b0.mono (by simp)) : Below w.heap.size w W)
      have BF := Lib.hid ((Blk.new w _ _).below b0 (by simp))
      obtain ⟨p0, p1, p2, p3, p4, p5, p6⟩ := blk7 BF.out
      rw [hn]
      clear b0 hn
      go_wp2_with fail
      go_ret
      rw [HR.out]; exact ⟨rfl, HB.out⟩
    rcases zero_ways sc with rfl | ⟨s0, s1, s2⟩
    rotate_left
    · have HR : Hid (mayB _ = false) := Lib.hid (by rw [HQ.out]; simp_all <;> omega)
      clear HQ
      go_enter Tryz.func30, Tryz.ntmps30
      go_wp2_with fail
      refine (HN.out _ ((Below.refl _ w).alloc (Nat.le_refl _) _)).mono ?_
      rintro e W ⟨rfl, b0⟩
      have HB := Lib.hid (((Below.refl _ w).alloc (Nat.le_refl _) _).trans (b0.mono (by simp)) : Below w.heap.size w W)
      have BF := Lib.hid ((Blk.new w _ _).below b0 (by simp))
      obtain ⟨p0, p1, p2, p3, p4, p5, p6⟩ := blk7 BF.out
      rw [hn]
      clear b0 hn
      go_wp2_with fail
      go_ret
      rw [HR.out]; exact ⟨rfl, HB.out⟩
    rcases zero_ways di with rfl | ⟨d0, d1, d2⟩
    rotate_left
    · have HR : Hid (mayB _ = false) := Lib.hid (by rw [HQ.out]; simp_all <;> omega)
      clear HQ
      go_enter Tryz.func30, Tryz.ntmps30
      go_wp2_with fail
      refine (HN.out _ ((Below.refl _ w).alloc (Nat.le_refl _) _)).mono ?_
      rintro e W ⟨rfl, b0⟩
      have HB := Lib.hid (((Below.refl _ w).alloc (Nat.le_refl _) _).trans (b0.mono (by simp)) : Below w.heap.size w W)
      have BF := Lib.hid ((Blk.new w _ _).below b0 (by simp))
      obtain ⟨p0, p1, p2, p3, p4, p5, p6⟩ := blk7 BF.out
      rw [hn]
      clear b0 hn
      go_wp2_with fail
      go_ret
      rw [HR.out]; exact ⟨rfl, HB.out⟩
    · have HR : Hid (mayB _ = false) := Lib.hid (by rw [HQ.out]; simp_all <;> omega)
      clear HQ
      go_enter Tryz.func30, Tryz.ntmps30
      go_wp2_with fail
      refine (HN.out _ ((Below.refl _ w).alloc (Nat.le_refl _) _)).mono ?_
      rintro e W ⟨rfl, b0⟩
      have HB := Lib.hid (((Below.refl _ w).alloc (Nat.le_refl _) _).trans (b0.mono (by simp)) : Below w.heap.size w W)
      have BF := Lib.hid ((Blk.new w _ _).below b0 (by simp))
      obtain ⟨p0, p1, p2, p3, p4, p5, p6⟩ := blk7 BF.out
      rw [hn]
      clear b0 hn
      go_wp2_with fail
      go_ret
      rw [HR.out]; exact ⟨rfl, HB.out⟩
end Go.Proofs.YtinmiekbhoemjaaGreatDoor.Sch
end
