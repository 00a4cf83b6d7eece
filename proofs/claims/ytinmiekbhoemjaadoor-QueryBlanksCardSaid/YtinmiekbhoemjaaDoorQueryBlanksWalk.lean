/- The walk of QueryBlanks. Written by gen_qblanks.py. -/
import Derived.Test.YtinmiekbhoemjaaDoorQueryReadWalk
import Derived.Test.YtinmiekbhoemjaaDoorQryBlankP
import Derived.Laws.Concat
import Derived.Deep.RegionHeld3
import Derived.Deep.DeepCutAuto
set_option linter.unusedVariables false
namespace Go.Proofs.YtinmiekbhoemjaaDoor.Qry
open Go.RowKit Words Tree QryP Kit Sch SchP Owned
theorem scan_at {a : R} {i : Nat} (h : i < a.length) (b : Bool) : scanS b (a.drop i) = if b && decide (a[i] = 92) then scanS true (a.drop (i + 2)) else if a[i] = 34 then scanS (!b) (a.drop (i + 1)) else scanS b (a.drop (i + 1)) := by
  rw [List.drop_eq_getElem_cons h]
  cases b with
  | false =>
    rw [scanS]
    simp
  | true =>
    rw [scanS.eq_def]
    dsimp only
    by_cases h92 : a[i] = 92
    · rw [if_pos h92]
      simp only [h92, decide_true, Bool.and_self, if_true]
      by_cases h1 : i + 1 < a.length
      · rw [List.drop_eq_getElem_cons h1]
      · rw [List.drop_eq_nil_of_le (by omega), List.drop_eq_nil_of_le (by omega)]
        rfl
    · rw [if_neg h92]
      simp [h92]
theorem take_at {s : ByteArray} {n i : Nat} (h : i < n) (hn : n ≤ s.size) (hi : i < (s.data.toList.take n).length) : (s.data.toList.take n)[i] = s[i]'(by omega) := by
  rw [List.getElem_take]
  simp
  rfl
theorem four_blanks (k : Nat) (hk : k < 4) : ∃ c, (⟨#[9, 10, 13, 32]⟩ : ByteArray).extract k (k + 1) = ⟨#[c]⟩ ∧ blankB c = true := by
  have h : k = 0 ∨ k = 1 ∨ k = 2 ∨ k = 3 := by omega
  rcases h with rfl | rfl | rfl | rfl
  · exact ⟨9, rfl, rfl⟩
  · exact ⟨10, rfl, rfl⟩
  · exact ⟨13, rfl, rfl⟩
  · exact ⟨32, rfl, rfl⟩
/-- One more blank. -/
theorem blank_two {s : ByteArray} {q : QT} {n : Nat} {c : UInt8} (h : parseS numT parT s.data.toList = .ok q) (hn : n < s.size) (hb : blankB (s[n]) = true) (hc : blankB c = true) (hs : scanS false (s.data.toList.take n) = false) (hl : s.size < 4096) :
    parseS numT parT (s.extract 0 n ++ ⟨#[c]⟩ ++ s.extract n s.size).data.toList = .ok q := by
  have hlen : s.data.toList.length = s.size := by simp
  have hn' : n < s.data.toList.length := by omega
  have e1 : s.data.toList = s.data.toList.take n ++ s[n] :: s.data.toList.drop (n + 1) := by
    have h1 := List.take_append_drop n s.data.toList
    rw [List.drop_eq_getElem_cons hn'] at h1
    exact h1.symm
  have e2 : (s.extract 0 n ++ ⟨#[c]⟩ ++ s.extract n s.size).data.toList = s.data.toList.take n ++ c :: s[n] :: s.data.toList.drop (n + 1) := by
    have h1 : (s.extract 0 n).data.toList = s.data.toList.take n := by simp
    have h2 : (s.extract n s.size).data.toList = s.data.toList.drop n := by
      simp
      rw [List.take_of_length_le (by rw [List.length_drop, hlen]; exact Nat.le_refl _)]
    rw [ByteArray.data_append, ByteArray.data_append, Array.toList_append, Array.toList_append, h1, h2, List.drop_eq_getElem_cons hn']
    simp
    rfl
  rw [e1] at h
  rw [e2]
  refine parse_blank h hb hc hs ?_
  rw [← e1]; omega
end Go.Proofs.YtinmiekbhoemjaaDoor.Qry
namespace Go.Proofs.YtinmiekbhoemjaaDoor.QueryBlanksWalk
open Go.RowKit Words Tree QryP Kit Sch SchP Owned Qry
set_option maxRecDepth 100000 in
set_option maxHeartbeats 8000000 in
theorem walk (s : ByteArray) (pl wh : Int) (w : World) (hT : PTabs w) (hpl : I64 pl) (hwh : I64 wh) : Calls Tryd.prog 6 #[.string s, .int .i64 pl, .int .i64 wh] w (BoolB true w) := by
  have HTAB := Lib.hid (fun (V : World) (hV : Below w.heap.size w V) => ((PT.of hT).next hV).here)
  obtain ⟨x, hx⟩ : ∃ x, parseS numT parT s.data.toList = x := ⟨_, rfl⟩
  have HP0 := Lib.hid (fun (V : World) (hV : Below w.heap.size w V) => (by rw [← hx]; exact parse_any s V (HTAB.out V hV) : Calls Tryd.prog 17 #[.string s] V (ParseV s V x)))
  have HKN := Lib.hid (known_any w hT)
  have HX := Lib.hid hx
  have HPL := Lib.hid hpl
  have HWH := Lib.hid hwh
  clear hT hx hpl hwh
  go_enter Tryd.func6, Tryd.ntmps6
  go_wp2_with fail
  refine HKN.out.mono ?_
  clear HKN
  rintro e W1 ⟨rfl, hb⟩
  have HB1 := Lib.hid hb
  clear hb
  go_wp2_with fail
  refine (HP0.out W1 HB1.out).mono ?_
  clear HP0
  match x with
  | .error (p, c) =>
    rintro e W2 ⟨rfl, hb⟩
    have hc : (c != 0) = true := by rcases (parse_bad HX.out).2 with rfl | rfl | rfl <;> rfl
    have HB3 := Lib.hid ((HB1.out.trans (hb.mono HB1.out.size)).trans (((Below.refl W2.heap.size W2).alloc (Nat.le_refl _) (.cells zeroQ 25)).mono (HB1.out.trans (hb.mono HB1.out.size)).size))
    unfold zeroQ at HB3 ⊢
    clear hb HX
    generalize ((s.size - p : Nat) : Int) = at_ at *
    go_wp2_with fail
    go_ret
    exact ⟨rfl, HB3.out⟩
  | .ok q =>
    rintro e W2 ⟨us, bs, rfl, hoq, hnd, hb⟩
    have HB2 := Lib.hid (HB1.out.trans (hb.mono HB1.out.size))
    have hok := (got_ok HX.out).1
    have HBL := Lib.hid (fun (n : Nat) (c : UInt8) (hn : n < s.size) => blank_two (n := n) (c := c) HX.out hn)
    have HAU := Lib.hid hoq.atw
    have HSM := Lib.hid (fun (V : World) (us vs : List Value) (ha : T.AtL bare V (fun g => g < V.heap.size) (cells q) us) (hb : T.AtL bare V (fun g => g < V.heap.size) (cells q) vs) => kitQuery_any _ q q us vs V (Nat.le_refl _) hok hok ha hb true (by simp))
    clear hok hnd hb HX
    obtain ⟨kd, oc, f, t, u, lo, hi, b, op, ks⟩ := q
    obtain ⟨cl1, ch1, ck1, al1, ah1, ak1, hus⟩ := OQ.shape hoq
    subst hus
    clear hoq
    have HX3 := Lib.hid (Blk.new W2 25 #[.int .i64 kd, .int .i64 oc, .string f, .string t, .string u, .slice al1 lo.length cl1, .slice ah1 hi.length ch1, .int .i64 b, .int .i64 op, .slice ak1 ks.length ck1])
    have hA : Below W2.heap.size W2 (W2.alloc (.cells #[.int .i64 kd, .int .i64 oc, .string f, .string t, .string u, .slice al1 lo.length cl1, .slice ah1 hi.length ch1, .int .i64 b, .int .i64 op, .slice ak1 ks.length ck1] 25)) := (Below.refl _ W2).alloc (Nat.le_refl _) _
    have HAU3 := Lib.hid (atL_ltw HAU.out hA)
    have HB3 := Lib.hid (HB2.out.trans (hA.mono HB2.out.size))
    clear hA HAU
    go_upto_region 4 with fail
    generalize (W2.alloc (.cells #[.int .i64 kd, .int .i64 oc, .string f, .string t, .string u, .slice al1 lo.length cl1, .slice ah1 hi.length ch1, .int .i64 b, .int .i64 op, .slice ak1 ks.length ck1] 25)) = W3 at *
    rcases Int.lt_or_le pl 0 with hp0 | hp0
    · have d0 : decide (pl < 0) = true := decide_eq_true hp0
      clear hp0
      go_wp2_with fail
      go_ret
      exact ⟨rfl, HB3.out⟩
    obtain ⟨n, rfl⟩ := Int.eq_ofNat_of_zero_le hp0
    have d0 : decide ((n : Int) < 0) = false := decide_eq_false (by omega)
    by_cases hn : n < s.size
    case neg =>
      have d1 : decide ((s.size : Int) ≤ (n : Int)) = true := decide_eq_true (by omega)
      clear hp0
      go_wp2_with fail
      go_ret
      exact ⟨rfl, HB3.out⟩
    have d1 : decide ((s.size : Int) ≤ (n : Int)) = false := decide_eq_false (by omega)
    have h1 : (0 : Int) ≤ (n : Int) := by omega
    have h2 : (n : Int) < (s.size : Int) := by omega
    clear hp0
    have hways : (((s[n].toNat : Int) != 9) = true ∧ ((s[n].toNat : Int) != 10) = true ∧ ((s[n].toNat : Int) != 13) = true ∧ ((s[n].toNat : Int) != 32) = true) ∨
        (blankB s[n] = true ∧ (((s[n].toNat : Int) != 9) = false ∨ (((s[n].toNat : Int) != 9) = true ∧ ((s[n].toNat : Int) != 10) = false) ∨ (((s[n].toNat : Int) != 9) = true ∧ ((s[n].toNat : Int) != 10) = true ∧ ((s[n].toNat : Int) != 13) = false) ∨
          (((s[n].toNat : Int) != 9) = true ∧ ((s[n].toNat : Int) != 10) = true ∧ ((s[n].toNat : Int) != 13) = true ∧ ((s[n].toNat : Int) != 32) = false))) := by
      generalize s[n] = c
      revert c
      exact byte_all (by decide +kernel)
    rcases hways with ⟨b9, b10, b13, b32⟩ | ⟨hbl, hway⟩
    · go_wp2_with fail
      go_ret
      exact ⟨rfl, HB3.out⟩
    by_cases hlong : 4096 ≤ s.size
    · have d2 : decide ((4096 : Int) ≤ (s.size : Int)) = true := decide_eq_true (by omega)
      rcases hway with b9 | ⟨b9, b10⟩ | ⟨b9, b10, b13⟩ | ⟨b9, b10, b13, b32⟩
      · go_wp2_with fail
        go_ret
        exact ⟨rfl, HB3.out⟩
      · go_wp2_with fail
        go_ret
        exact ⟨rfl, HB3.out⟩
      · go_wp2_with fail
        go_ret
        exact ⟨rfl, HB3.out⟩
      · go_wp2_with fail
        go_ret
        exact ⟨rfl, HB3.out⟩
    have d2 : decide ((4096 : Int) ≤ (s.size : Int)) = false := decide_eq_false (by omega)
    have HBL1 := Lib.hid hbl
    go_cut [64] (fun b wx => b = .bool false ∧ W3 = wx)
    case first =>
      rcases hway with b9 | ⟨b9, b10⟩ | ⟨b9, b10, b13⟩ | ⟨b9, b10, b13, b32⟩
      · go_wp2_with fail
        go_meet
        exact ⟨by rw [show decide (s.size ≤ n) = false from decide_eq_false (by omega)], rfl⟩
      · go_wp2_with fail
        go_meet
        exact ⟨by rw [show decide (s.size ≤ n) = false from decide_eq_false (by omega)], rfl⟩
      · go_wp2_with fail
        go_meet
        exact ⟨by rw [show decide (s.size ≤ n) = false from decide_eq_false (by omega)], rfl⟩
      · go_wp2_with fail
        go_meet
        exact ⟨by rw [show decide (s.size ≤ n) = false from decide_eq_false (by omega)], rfl⟩
    case rest =>
    obtain ⟨rfl, rfl⟩ := hcut
    clear hway hbl
    obtain ⟨S, hS⟩ : ∃ S, scanS false (s.data.toList.take n) = S := ⟨_, rfl⟩
    have HS := Lib.hid hS
    have H0 : Hid (scanS false ((s.data.toList.take n).drop 0) = S) := Lib.hid hS
    have HLEN : Hid ((s.data.toList.take n).length = n) := Lib.hid (by rw [List.length_take]; have : s.data.toList.length = s.size := by simp
                                                                       omega)
    clear hS
    go_upto_region 8 with fail
    go_loopg [10, 11] (n + 2) (fun m v10 v11 wr => ∃ (wi : Bool) (i : Nat), v10 = .bool wi ∧ v11 = .int .i64 i ∧ m = n + 2 - i ∧ i ≤ n + 1 ∧ W3 = wr ∧ Hid (scanS wi ((s.data.toList.take n).drop i) = S))
    case atStart => exact ⟨false, 0, rfl, rfl, rfl, by omega, rfl, H0⟩
    case round =>
      obtain ⟨wi, i, rfl, rfl, rfl, hin, rfl, HI⟩ := hrel
      by_cases hlt : i < n
      · have h3 : (0 : Int) ≤ (i : Int) := by omega
        have h4 : (i : Int) < (s.size : Int) := by omega
        have h5 : (i : Int) < (n : Int) := by omega
        have HC : Hid (scanS wi ((s.data.toList.take n).drop i) = if wi && decide (s[i] = 92) then scanS true ((s.data.toList.take n).drop (i + 2)) else if s[i] = 34 then scanS (!wi) ((s.data.toList.take n).drop (i + 1)) else scanS wi ((s.data.toList.take n).drop (i + 1))) := Lib.hid (by
          rw [scan_at (by rw [HLEN.out]; exact hlt) wi, take_at hlt (by omega)])
        cases wi with
        | true =>
          by_cases h92 : s[i] = 92
          · have d92 : ((s[i].toNat : Int) == 92) = true := by rw [h92]; rfl
            have HN : Hid (scanS true ((s.data.toList.take n).drop (i + 2)) = S) := Lib.hid (by rw [← HI.out, HC.out]; simp [h92])
            clear HC HI h92
            go_wp2_with fail
            go_roundg (n + 2 - (i + 2))
            case measure => omega
            case rel => exact ⟨true, i + 2, rfl, by go_num, rfl, by omega, rfl, HN⟩
          · have d92 : ((s[i].toNat : Int) == 92) = false := by rw [beq_eq_false_iff_ne]; intro e; exact h92 (UInt8.toNat_inj.1 (by show s[i].toNat = 92; omega))
            by_cases h34 : s[i] = 34
            · have d34 : ((s[i].toNat : Int) == 34) = true := by rw [h34]; rfl
              have HN : Hid (scanS false ((s.data.toList.take n).drop (i + 1)) = S) := Lib.hid (by rw [← HI.out, HC.out]; simp [h34])
              clear HC HI h92 h34
              go_wp2_with fail
              go_roundg (n + 2 - (i + 1))
              case measure => omega
              case rel => exact ⟨false, i + 1, rfl, by go_num, rfl, by omega, rfl, HN⟩
            · have d34 : ((s[i].toNat : Int) == 34) = false := by rw [beq_eq_false_iff_ne]; intro e; exact h34 (UInt8.toNat_inj.1 (by show s[i].toNat = 34; omega))
              have HN : Hid (scanS true ((s.data.toList.take n).drop (i + 1)) = S) := Lib.hid (by rw [← HI.out, HC.out]; simp [h92, h34])
              clear HC HI h92 h34
              go_wp2_with fail
              go_roundg (n + 2 - (i + 1))
              case measure => omega
              case rel => exact ⟨true, i + 1, rfl, by go_num, rfl, by omega, rfl, HN⟩
        | false =>
          by_cases h34 : s[i] = 34
          · have d34 : ((s[i].toNat : Int) == 34) = true := by rw [h34]; rfl
            have HN : Hid (scanS true ((s.data.toList.take n).drop (i + 1)) = S) := Lib.hid (by rw [← HI.out, HC.out]; simp [h34])
            clear HC HI h34
            go_wp2_with fail
            go_roundg (n + 2 - (i + 1))
            case measure => omega
            case rel => exact ⟨true, i + 1, rfl, by go_num, rfl, by omega, rfl, HN⟩
          · have d34 : ((s[i].toNat : Int) == 34) = false := by rw [beq_eq_false_iff_ne]; intro e; exact h34 (UInt8.toNat_inj.1 (by show s[i].toNat = 34; omega))
            have HN : Hid (scanS false ((s.data.toList.take n).drop (i + 1)) = S) := Lib.hid (by rw [← HI.out, HC.out]; simp [h34])
            clear HC HI h34
            go_wp2_with fail
            go_roundg (n + 2 - (i + 1))
            case measure => omega
            case rel => exact ⟨false, i + 1, rfl, by go_num, rfl, by omega, rfl, HN⟩
      · obtain rfl : wi = S := by
          have h9 := HI.out
          rw [List.drop_eq_nil_of_le (by rw [HLEN.out]; omega)] at h9
          cases wi <;> exact h9
        have h5 : ¬ (i : Int) < (n : Int) := by omega
        clear HI H0
        cases wi with
        | true =>
          go_wp2_with fail
          go_ret
          exact ⟨rfl, HB3.out⟩
        | false =>
          go_upto_region 17 with fail
          have hm1 : -4 < wh.tmod 4 := Int.lt_tmod_of_pos wh (by decide)
          have hm2 : wh.tmod 4 < 4 := Int.tmod_lt_of_pos wh (by decide)
          generalize wh.tmod 4 = m at *
          go_upto_if 89 with fail
          go_cut [12] (fun v wx => ∃ k : Nat, k < 4 ∧ v = .int .i64 k ∧ W3 = wx)
          case first =>
            rcases Int.lt_or_le m 0 with hm | hm
            · have dm : decide (m < 0) = true := decide_eq_true hm
              go_wp2_with fail
              go_meet
              exact ⟨(m + 4).toNat, by omega, by rw [Int.toNat_of_nonneg (by omega)], rfl⟩
            · have dm : decide (m < 0) = false := decide_eq_false (by omega)
              go_wp2_with fail
              go_meet
              exact ⟨m.toNat, by omega, by rw [Int.toNat_of_nonneg (by omega)], rfl⟩
          case rest =>
          obtain ⟨k, hk, rfl, rfl⟩ := hcut
          clear hm1 hm2
          obtain ⟨cb, hcb, hcbl⟩ := four_blanks k hk
          have hy := HBL.out n cb hn HBL1.out hcbl HS.out (by omega)
          have hsA : (s.extract 0 n).size = n := by simp; omega
          have hsB : (s.extract n s.size).size = s.size - n := by simp
          obtain ⟨A, hA⟩ : ∃ A, s.extract 0 n = A := ⟨_, rfl⟩
          obtain ⟨Z, hZ⟩ : ∃ Z, s.extract n s.size = Z := ⟨_, rfl⟩
          obtain ⟨X, hXX⟩ : ∃ X, A ++ ⟨#[cb]⟩ ++ Z = X := ⟨_, rfl⟩
          rw [hA] at hsA
          rw [hZ] at hsB
          rw [hA, hZ, hXX] at hy
          have hadd1 : ∀ V : World, (Op.stringOp .add A ⟨#[cb]⟩).run Tryd.prog V = .ok (.string (A ++ ⟨#[cb]⟩)) V := fun V => run_string_add_sum V A ⟨#[cb]⟩ (by rw [hsA]; show n + 1 ≤ _; omega)
          have hadd2 : ∀ V : World, (Op.stringOp .add (A ++ ⟨#[cb]⟩) Z).run Tryd.prog V = .ok (.string X) V := fun V => hXX ▸ run_string_add_sum V (A ++ ⟨#[cb]⟩) Z (by rw [ByteArray.size_append, hsA, hsB]; show n + 1 + (s.size - n) ≤ _; omega)
          have HP9 := Lib.hid (fun (V : World) (hV : Below w.heap.size w V) => (by rw [← hy]; exact parse_any X V (HTAB.out V hV) : Calls Tryd.prog 17 #[.string X] V (ParseV X V (.ok (.mk kd oc f t u lo hi b op ks)))))
          have h6 : (0 : Int) ≤ (k : Int) := by omega
          have h7 : (k : Int) < 4 := by omega
          have h8 : (k : Int) + 1 ≤ 4 := by omega
          have h8a : (0 : Int) ≤ (k : Int) + 1 := by omega
          have h8b : (k : Int) ≤ (k : Int) + 1 := by omega
          have h8c : n ≤ s.size := by omega
          have h8d : (n : Int) ≤ (s.size : Int) := by omega
          have hw8 : IntKind.i64.wrap ((k : Int) + 1) = (k : Int) + 1 := IntWalk.i64_in _ (by omega)
          clear hy hsA hsB HBL HBL1 HS
          go_upto_region 19 with fail
          refine wp_region_held_drew (S := fun V => Below W3.heap.size W3 V) (by kernel_rfl) (Below.refl _ W3).drew (fun hS0 => ?_)
          generalize W3.drew = V0 at *
          refine' wpAnyH_take (i := 0) (v := _) (by simp only [List.getElem?_toArray, List.getElem?_cons_zero]; rfl) (by kernel_rfl) (by kernel_rfl) (by kernel_rfl) (by exact fun _ _ _ h => h) (Or.inl ⟨by rfl, ?hm0_1⟩) hS0 ?rm0_1
          case hm0_1 => intro V hSw; clear hSw; go_simp; try with_reducible rfl
          try simp only [Act.put, List.setIfInBounds_toArray, List.set_cons_zero, List.set_cons_succ]
          refine' wpAnyH_take (i := 1) (v := _) (by simp only [List.getElem?_toArray, List.getElem?_cons_succ, List.getElem?_cons_zero]; rfl) (by kernel_rfl) (by kernel_rfl) (by kernel_rfl) (by exact fun _ _ _ h => h) (Or.inl ⟨by rfl, ?hm1_2⟩) hS0 ?rm1_2
          case hm1_2 => intro V hSw; clear hSw; go_simp; try with_reducible rfl
          try simp only [Act.put, List.setIfInBounds_toArray, List.set_cons_zero, List.set_cons_succ]
          refine' wpAnyH_take (i := 2) (v := _) (by simp only [List.getElem?_toArray, List.getElem?_cons_succ, List.getElem?_cons_zero]; rfl) (by kernel_rfl) (by kernel_rfl) (by kernel_rfl) (by exact fun _ _ _ h => h) (Or.inl ⟨by rfl, ?hm2_3⟩) hS0 ?rm2_3
          case hm2_3 => intro V hSw; clear hSw; have h9 : (n : Int) ≤ (s.size : Int) := (by omega); go_simp; try with_reducible rfl
          try simp only [Act.put, List.setIfInBounds_toArray, List.set_cons_zero, List.set_cons_succ]
          refine' wpAnyH_take (i := 3) (v := _) (by simp only [List.getElem?_toArray, List.getElem?_cons_succ, List.getElem?_cons_zero]; rfl) (by kernel_rfl) (by kernel_rfl) (by kernel_rfl) (by exact fun _ _ _ h => h) (Or.inl ⟨by rfl, ?hm3_4⟩) hS0 ?rm3_4
          case hm3_4 => intro V hSw; clear hSw; go_simp; try with_reducible rfl
          try simp only [Act.put, List.setIfInBounds_toArray, List.set_cons_zero, List.set_cons_succ]
          refine' wpAnyH_take (i := 4) (v := _) (by simp only [List.getElem?_toArray, List.getElem?_cons_succ, List.getElem?_cons_zero]; rfl) (by kernel_rfl) (by kernel_rfl) (by kernel_rfl) (by exact fun _ _ _ h => h) (Or.inl ⟨by rfl, ?hm4_5⟩) hS0 ?rm4_5
          case hm4_5 => intro V hSw; clear hSw; go_simp; try with_reducible rfl
          try simp only [Act.put, List.setIfInBounds_toArray, List.set_cons_zero, List.set_cons_succ]
          refine' wpAnyH_take (i := 5) (v := _) (by simp only [List.getElem?_toArray, List.getElem?_cons_succ, List.getElem?_cons_zero]; rfl) (by kernel_rfl) (by kernel_rfl) (by kernel_rfl) (by exact fun _ _ _ h => h) (Or.inl ⟨by rfl, ?hm5_6⟩) hS0 ?rm5_6
          case hm5_6 => intro V hSw; clear hSw; go_simp; try with_reducible rfl
          try simp only [Act.put, List.setIfInBounds_toArray, List.set_cons_zero, List.set_cons_succ]
          refine' wpAnyH_take (i := 6) (v := _) (by simp only [List.getElem?_toArray, List.getElem?_cons_succ, List.getElem?_cons_zero]; rfl) (by kernel_rfl) (by kernel_rfl) (by kernel_rfl) (by exact fun _ _ _ h => h) (Or.inl ⟨by rfl, ?hm6_7⟩) hS0 ?rm6_7
          case hm6_7 => intro V hSw; clear hSw; go_simp; try with_reducible rfl
          try simp only [Act.put, List.setIfInBounds_toArray, List.set_cons_zero, List.set_cons_succ]
          refine' wpAnyH_take (i := 7) (v := _) (by simp only [List.getElem?_toArray, List.getElem?_cons_succ, List.getElem?_cons_zero]; rfl) (by kernel_rfl) (by kernel_rfl) (by kernel_rfl) (by exact fun _ _ _ h => h) (Or.inl ⟨by rfl, ?hm7_8⟩) hS0 ?rm7_8
          case hm7_8 => intro V hSw; clear hSw; go_simp; try with_reducible rfl
          try simp only [Act.put, List.setIfInBounds_toArray, List.set_cons_zero, List.set_cons_succ]
          refine' wpAnyH_take (i := 8) (v := _) (by simp only [List.getElem?_toArray, List.getElem?_cons_succ, List.getElem?_cons_zero]; rfl) (by kernel_rfl) (by kernel_rfl) (by kernel_rfl) (by exact fun _ _ _ h => h) (Or.inl ⟨by rfl, ?hm8_9⟩) hS0 ?rm8_9
          case hm8_9 => intro V hSw; clear hSw; go_simp; try with_reducible rfl
          try simp only [Act.put, List.setIfInBounds_toArray, List.set_cons_zero, List.set_cons_succ]
          refine' wpAnyH_take (i := 9) (v := _) (by simp only [List.getElem?_toArray, List.getElem?_cons_succ, List.getElem?_cons_zero]; rfl) (by kernel_rfl) (by kernel_rfl) (by kernel_rfl) (by exact fun _ _ _ h => h) (Or.inl ⟨by rfl, ?hm9_10⟩) hS0 ?rm9_10
          case hm9_10 => intro V hSw; clear hSw; go_simp; try with_reducible rfl
          try simp only [Act.put, List.setIfInBounds_toArray, List.set_cons_zero, List.set_cons_succ]
          refine' wpAnyH_take (i := 10) (v := _) (by simp only [List.getElem?_toArray, List.getElem?_cons_succ, List.getElem?_cons_zero]; rfl) (by kernel_rfl) (by kernel_rfl) (by kernel_rfl) (by exact fun _ _ _ h => h) (Or.inl ⟨by rfl, ?hm10_11⟩) hS0 ?rm10_11
          case hm10_11 => intro V hSw; clear hSw; go_simp; try with_reducible rfl
          try simp only [Act.put, List.setIfInBounds_toArray, List.set_cons_zero, List.set_cons_succ]
          refine' wpAnyH_take (i := 11) (v := _) (by simp only [List.getElem?_toArray, List.getElem?_cons_succ, List.getElem?_cons_zero]; rfl) (by kernel_rfl) (by kernel_rfl) (by kernel_rfl) (by exact fun _ _ _ h => h) (Or.inl ⟨by rfl, ?hm11_12⟩) hS0 ?rm11_12
          case hm11_12 => intro V hSw; clear hSw; go_simp; try with_reducible rfl
          try simp only [Act.put, List.setIfInBounds_toArray, List.set_cons_zero, List.set_cons_succ]
          refine wpAnyH_ready (rs := [12, 17]) (by kernel_rfl) (by simp) ?_
          refine' AllReadyH.cons (by simp only [List.getElem?_toArray, List.getElem?_cons_succ, List.getElem?_cons_zero]; rfl) (fun K hK => ?_) ?_
          · skip
            have HC := Lib.hid (HP9.out V0 (HB3.out.trans (hS0.mono HB3.out.size)))
            go_simp
            refine HC.out.mono ?_
            clear HC
            rintro e V1 ⟨us, bs, rfl, hoq, hnd, hb⟩
            obtain ⟨cl2, ch2, ck2, al2, ah2, ak2, hus⟩ := OQ.shape hoq
            subst hus
            have hS1 : Below W3.heap.size W3 V1 := hS0.trans (hb.mono hS0.size)
            have HAV := Lib.hid hoq.atw
            clear hb hoq hnd
            go_simp
            refine hK.out _ _ hS1 (fun hT1 => ?_)
            clear hK hT1
            try simp only [Act.put, List.setIfInBounds_toArray, List.set_cons_zero, List.set_cons_succ]
            refine' wpAnyH_take (i := 13) (v := _) (by simp only [List.getElem?_toArray, List.getElem?_cons_succ, List.getElem?_cons_zero]; rfl) (by kernel_rfl) (by kernel_rfl) (by kernel_rfl) (by exact fun _ _ _ h => h) (Or.inl ⟨by rfl, ?hm13_13⟩) hS1 ?rm13_13
            case hm13_13 => intro V hSw; clear hSw; go_simp; try with_reducible rfl
            try simp only [Act.put, List.setIfInBounds_toArray, List.set_cons_zero, List.set_cons_succ]
            refine' wpAnyH_take (i := 14) (v := _) (by simp only [List.getElem?_toArray, List.getElem?_cons_succ, List.getElem?_cons_zero]; rfl) (by kernel_rfl) (by kernel_rfl) (by kernel_rfl) (by exact fun _ _ _ h => h) (Or.inl ⟨by rfl, ?hm14_14⟩) hS1 ?rm14_14
            case hm14_14 => intro V hSw; clear hSw; go_simp; try with_reducible rfl
            try simp only [Act.put, List.setIfInBounds_toArray, List.set_cons_zero, List.set_cons_succ]
            refine' wpAnyH_take (i := 15) (v := _) (by simp only [List.getElem?_toArray, List.getElem?_cons_succ, List.getElem?_cons_zero]; rfl) (by kernel_rfl) (by kernel_rfl) (by kernel_rfl) (by exact fun _ _ _ h => h) (Or.inl ⟨by rfl, ?hm15_15⟩) hS1 ?rm15_15
            case hm15_15 => intro V hSw; clear hSw; go_simp; try with_reducible rfl
            try simp only [Act.put, List.setIfInBounds_toArray, List.set_cons_zero, List.set_cons_succ]
            refine' wpAnyH_take (i := 16) (v := _) (by simp only [List.getElem?_toArray, List.getElem?_cons_succ, List.getElem?_cons_zero]; rfl) (by kernel_rfl) (by kernel_rfl) (by kernel_rfl) (by exact fun _ _ _ h => h) (Or.inl ⟨by rfl, ?hm16_16⟩) hS1 ?rm16_16
            case hm16_16 => intro V hSw; clear hSw; go_simp; try with_reducible rfl
            try simp only [Act.put, List.setIfInBounds_toArray, List.set_cons_zero, List.set_cons_succ]
            refine wpAnyH_ready (rs := [17]) (by kernel_rfl) (by simp) ?_
            refine' AllReadyH.cons (by simp only [List.getElem?_toArray, List.getElem?_cons_succ, List.getElem?_cons_zero]; rfl) (fun K hK => ?_) AllReadyH.nil
            have hA : Below V1.heap.size V1 (V1.alloc (.cells #[.int .i64 0, .int .i64 0, .string ⟨#[]⟩, .string ⟨#[]⟩, .string ⟨#[]⟩, .slice none 0 0, .slice none 0 0, .int .i64 0, .int .i64 0, .slice none 0 0] 25)) := (Below.refl _ _).alloc (Nat.le_refl _) _
            have hz : Blk (V1.alloc (.cells #[.int .i64 0, .int .i64 0, .string ⟨#[]⟩, .string ⟨#[]⟩, .string ⟨#[]⟩, .slice none 0 0, .slice none 0 0, .int .i64 0, .int .i64 0, .slice none 0 0] 25)) V1.heap.size 25 #[.int .i64 0, .int .i64 0, .string ⟨#[]⟩, .string ⟨#[]⟩, .string ⟨#[]⟩, .slice none 0 0, .slice none 0 0, .int .i64 0, .int .i64 0, .slice none 0 0] := Blk.new _ _ _
            have hS2 : Below W3.heap.size W3 (V1.alloc (.cells #[.int .i64 0, .int .i64 0, .string ⟨#[]⟩, .string ⟨#[]⟩, .string ⟨#[]⟩, .slice none 0 0, .slice none 0 0, .int .i64 0, .int .i64 0, .slice none 0 0] 25)) := hS1.trans (hA.mono hS1.size)
            have HAW := Lib.hid (AtL.keep (w' := V1.alloc (.cells #[.int .i64 0, .int .i64 0, .string ⟨#[]⟩, .string ⟨#[]⟩, .string ⟨#[]⟩, .slice none 0 0, .slice none 0 0, .int .i64 0, .int .i64 0, .slice none 0 0] 25)) (S' := fun g => g ≠ V1.heap.size ∧ g < (V1.alloc (.cells #[.int .i64 0, .int .i64 0, .string ⟨#[]⟩, .string ⟨#[]⟩, .string ⟨#[]⟩, .slice none 0 0, .slice none 0 0, .int .i64 0, .int .i64 0, .slice none 0 0] 25)).heap.size) (fun p hp => hA.cell hp) (fun g hg => ⟨Nat.ne_of_lt hg, Nat.lt_of_lt_of_le hg hA.size⟩) HAV.out)
            have hge : W3.heap.size ≤ V1.heap.size := hS1.size
            obtain ⟨gz, hgz⟩ : ∃ z, V1.heap.size = z := ⟨_, rfl⟩
            go_simp
            generalize V1.alloc (.cells #[.int .i64 0, .int .i64 0, .string ⟨#[]⟩, .string ⟨#[]⟩, .string ⟨#[]⟩, .slice none 0 0, .slice none 0 0, .int .i64 0, .int .i64 0, .slice none 0 0] 25) = V2 at *
            rw [hgz] at hz hge HAW
            refine hK.out _ _ hS2 (fun hT1 => ?_)
            clear hK hT1 hA HAV hgz
            try simp only [Act.put, List.setIfInBounds_toArray, List.set_cons_zero, List.set_cons_succ]
            refine wpAnyH_ready (rs := [18]) (by kernel_rfl) (by simp) ?_
            refine' AllReadyH.cons (by simp only [List.getElem?_toArray, List.getElem?_cons_succ, List.getElem?_cons_zero]; rfl) (fun K hK => ?_) AllReadyH.nil
            have z0 : V2.cell? ⟨gz, 0, none⟩ = some (.int .i64 0) := hz.cell 0
            have z1 : V2.cell? ⟨gz, 1, none⟩ = some (.int .i64 0) := hz.cell 1
            have z2 : V2.cell? ⟨gz, 2, none⟩ = some (.string ⟨#[]⟩) := hz.cell 2
            have z3 : V2.cell? ⟨gz, 3, none⟩ = some (.string ⟨#[]⟩) := hz.cell 3
            have z4 : V2.cell? ⟨gz, 4, none⟩ = some (.string ⟨#[]⟩) := hz.cell 4
            have z5 : V2.cell? ⟨gz, 5, none⟩ = some (.slice none 0 0) := hz.cell 5
            have z6 : V2.cell? ⟨gz, 6, none⟩ = some (.slice none 0 0) := hz.cell 6
            have z7 : V2.cell? ⟨gz, 7, none⟩ = some (.int .i64 0) := hz.cell 7
            have z8 : V2.cell? ⟨gz, 8, none⟩ = some (.int .i64 0) := hz.cell 8
            have z9 : V2.cell? ⟨gz, 9, none⟩ = some (.slice none 0 0) := hz.cell 9
            have f0 : V2.frozen? ⟨gz, 0, none⟩ = false := hz.frozen 0
            have f1 : V2.frozen? ⟨gz, 1, none⟩ = false := hz.frozen 1
            have f2 : V2.frozen? ⟨gz, 2, none⟩ = false := hz.frozen 2
            have f3 : V2.frozen? ⟨gz, 3, none⟩ = false := hz.frozen 3
            have f4 : V2.frozen? ⟨gz, 4, none⟩ = false := hz.frozen 4
            have f5 : V2.frozen? ⟨gz, 5, none⟩ = false := hz.frozen 5
            have f6 : V2.frozen? ⟨gz, 6, none⟩ = false := hz.frozen 6
            have f7 : V2.frozen? ⟨gz, 7, none⟩ = false := hz.frozen 7
            have f8 : V2.frozen? ⟨gz, 8, none⟩ = false := hz.frozen 8
            have f9 : V2.frozen? ⟨gz, 9, none⟩ = false := hz.frozen 9
            have HY := Lib.hid (set10_blk hz (.int .i64 kd) (.int .i64 oc) (.string f) (.string t) (.string u) (.slice al2 lo.length cl2) (.slice ah2 hi.length ch2) (.int .i64 b) (.int .i64 op) (.slice ak2 ks.length ck2))
            have hgr := set10_grown V2 gz (.int .i64 kd) (.int .i64 oc) (.string f) (.string t) (.string u) (.slice al2 lo.length cl2) (.slice ah2 hi.length ch2) (.int .i64 b) (.int .i64 op) (.slice ak2 ks.length ck2)
            have hbw := Qry.below_grown (B := W3.heap.size) hgr hS2.size hge
            have hS3 := hS2.trans hbw
            have HAX := Lib.hid (AtL.keep (w' := ((((((((((V2.setCell ⟨gz, 0, none⟩ (.int .i64 kd)).setCell ⟨gz, 1, none⟩ (.int .i64 oc)).setCell ⟨gz, 2, none⟩ (.string f)).setCell ⟨gz, 3, none⟩ (.string t)).setCell ⟨gz, 4, none⟩ (.string u)).setCell ⟨gz, 5, none⟩ (.slice al2 lo.length cl2)).setCell ⟨gz, 6, none⟩ (.slice ah2 hi.length ch2)).setCell ⟨gz, 7, none⟩ (.int .i64 b)).setCell ⟨gz, 8, none⟩ (.int .i64 op)).setCell ⟨gz, 9, none⟩ (.slice ak2 ks.length ck2))) (S' := fun g => g < (((((((((((V2.setCell ⟨gz, 0, none⟩ (.int .i64 kd)).setCell ⟨gz, 1, none⟩ (.int .i64 oc)).setCell ⟨gz, 2, none⟩ (.string f)).setCell ⟨gz, 3, none⟩ (.string t)).setCell ⟨gz, 4, none⟩ (.string u)).setCell ⟨gz, 5, none⟩ (.slice al2 lo.length cl2)).setCell ⟨gz, 6, none⟩ (.slice ah2 hi.length ch2)).setCell ⟨gz, 7, none⟩ (.int .i64 b)).setCell ⟨gz, 8, none⟩ (.int .i64 op)).setCell ⟨gz, 9, none⟩ (.slice ak2 ks.length ck2))).heap.size) (fun p hp => set10_cell V2 gz (.int .i64 kd) (.int .i64 oc) (.string f) (.string t) (.string u) (.slice al2 lo.length cl2) (.slice ah2 hi.length ch2) (.int .i64 b) (.int .i64 op) (.slice ak2 ks.length ck2) p hp.1) (fun g hg => Nat.lt_of_lt_of_le hg.2 hgr.size) HAW.out)
            go_simp
            generalize ((((((((((V2.setCell ⟨gz, 0, none⟩ (.int .i64 kd)).setCell ⟨gz, 1, none⟩ (.int .i64 oc)).setCell ⟨gz, 2, none⟩ (.string f)).setCell ⟨gz, 3, none⟩ (.string t)).setCell ⟨gz, 4, none⟩ (.string u)).setCell ⟨gz, 5, none⟩ (.slice al2 lo.length cl2)).setCell ⟨gz, 6, none⟩ (.slice ah2 hi.length ch2)).setCell ⟨gz, 7, none⟩ (.int .i64 b)).setCell ⟨gz, 8, none⟩ (.int .i64 op)).setCell ⟨gz, 9, none⟩ (.slice ak2 ks.length ck2)) = V3 at *
            refine hK.out _ _ hS3 (fun hT1 => ?_)
            clear hK hT1 z0 f0 z1 f1 z2 f2 z3 f3 z4 f4 z5 f5 z6 f6 z7 f7 z8 f8 z9 f9 hbw hgr hz HAW
            try simp only [Act.put, List.setIfInBounds_toArray, List.set_cons_zero, List.set_cons_succ]
            refine' wpAnyH_take (i := 19) (v := _) (by simp only [List.getElem?_toArray, List.getElem?_cons_succ, List.getElem?_cons_zero]; rfl) (by kernel_rfl) (by kernel_rfl) (by kernel_rfl) (by exact fun _ _ _ h => h) (Or.inl ⟨by rfl, ?hm19_17⟩) hS3 ?rm19_17
            case hm19_17 => intro V hSw; clear hSw; go_simp; try with_reducible rfl
            try simp only [Act.put, List.setIfInBounds_toArray, List.set_cons_zero, List.set_cons_succ]
            refine' wpAnyH_take (i := 20) (v := _) (by simp only [List.getElem?_toArray, List.getElem?_cons_succ, List.getElem?_cons_zero]; rfl) (by kernel_rfl) (by kernel_rfl) (by kernel_rfl) (by exact fun _ _ _ h => h) (Or.inl ⟨by rfl, ?hm20_18⟩) hS3 ?rm20_18
            case hm20_18 => intro V hSw; clear hSw; go_simp; try with_reducible rfl
            try simp only [Act.put, List.setIfInBounds_toArray, List.set_cons_zero, List.set_cons_succ]
            refine wpAnyH_done (by kernel_rfl) ?_ _
            have HB4 := Lib.hid (HB3.out.trans (hS3.mono HB3.out.size))
            have HX4 := Lib.hid (HX3.out.below hS3 HX3.out.lt)
            have HAU4 := Lib.hid (atL_ltw HAU3.out hS3)
            have hlt3 : W2.heap.size < W3.heap.size := HX3.out.lt
            obtain ⟨p0, p1, p2, p3, p4, p5, p6, p7, p8, p9⟩ := tenB HX4.out
            obtain ⟨y0, y1, y2, y3, y4, y5, y6, y7, y8, y9⟩ := tenB HY.out
            have HS4 := Lib.hid (HSM.out V3 _ _ HAX.out HAU4.out)
            go_wp2_with fail
            refine HS4.out.mono ?_
            clear HS4
            rintro e V4 ⟨rfl, hb⟩
            have HB5 := Lib.hid (HB4.out.trans (hb.mono HB4.out.size))
            clear hb p0 p1 p2 p3 p4 p5 p6 p7 p8 p9 y0 y1 y2 y3 y4 y5 y6 y7 y8 y9
            go_wp2_with fail
            go_ret
            exact ⟨rfl, HB5.out⟩
          refine' AllReadyH.cons (by simp only [List.getElem?_toArray, List.getElem?_cons_succ, List.getElem?_cons_zero]; rfl) (fun K hK => ?_) AllReadyH.nil
          · skip
            have hA : Below V0.heap.size V0 (V0.alloc (.cells #[.int .i64 0, .int .i64 0, .string ⟨#[]⟩, .string ⟨#[]⟩, .string ⟨#[]⟩, .slice none 0 0, .slice none 0 0, .int .i64 0, .int .i64 0, .slice none 0 0] 25)) := (Below.refl _ _).alloc (Nat.le_refl _) _
            have hz : Blk (V0.alloc (.cells #[.int .i64 0, .int .i64 0, .string ⟨#[]⟩, .string ⟨#[]⟩, .string ⟨#[]⟩, .slice none 0 0, .slice none 0 0, .int .i64 0, .int .i64 0, .slice none 0 0] 25)) V0.heap.size 25 #[.int .i64 0, .int .i64 0, .string ⟨#[]⟩, .string ⟨#[]⟩, .string ⟨#[]⟩, .slice none 0 0, .slice none 0 0, .int .i64 0, .int .i64 0, .slice none 0 0] := Blk.new _ _ _
            have hS1 : Below W3.heap.size W3 (V0.alloc (.cells #[.int .i64 0, .int .i64 0, .string ⟨#[]⟩, .string ⟨#[]⟩, .string ⟨#[]⟩, .slice none 0 0, .slice none 0 0, .int .i64 0, .int .i64 0, .slice none 0 0] 25)) := hS0.trans (hA.mono hS0.size)
            have hge : W3.heap.size ≤ V0.heap.size := hS0.size
            obtain ⟨gz, hgz⟩ : ∃ z, V0.heap.size = z := ⟨_, rfl⟩
            go_simp
            generalize V0.alloc (.cells #[.int .i64 0, .int .i64 0, .string ⟨#[]⟩, .string ⟨#[]⟩, .string ⟨#[]⟩, .slice none 0 0, .slice none 0 0, .int .i64 0, .int .i64 0, .slice none 0 0] 25) = V1 at *
            rw [hgz] at hz hge
            refine hK.out _ _ hS1 (fun hT1 => ?_)
            clear hK hT1 hA hgz
            try simp only [Act.put, List.setIfInBounds_toArray, List.set_cons_zero, List.set_cons_succ]
            refine wpAnyH_ready (rs := [12]) (by kernel_rfl) (by simp) ?_
            refine' AllReadyH.cons (by simp only [List.getElem?_toArray, List.getElem?_cons_succ, List.getElem?_cons_zero]; rfl) (fun K hK => ?_) AllReadyH.nil
            have HC := Lib.hid (HP9.out V1 (HB3.out.trans (hS1.mono HB3.out.size)))
            go_simp
            refine HC.out.mono ?_
            clear HC
            rintro e V2 ⟨us, bs, rfl, hoq, hnd, hb⟩
            obtain ⟨cl2, ch2, ck2, al2, ah2, ak2, hus⟩ := OQ.shape hoq
            subst hus
            have hS2 : Below W3.heap.size W3 V2 := hS1.trans (hb.mono hS1.size)
            have hzlt := hz.lt
            replace hz := hz.below hb hz.lt
            have HAW := Lib.hid (AtL.keep (w' := V2) (S' := fun g => g ≠ gz ∧ g < V2.heap.size) (fun _ _ => rfl) (fun g hg => ⟨fun e => by have := (hoq.mem g hg).1; have := hzlt; omega, (hoq.mem g hg).2⟩) hoq.at_)
            clear hb hoq hnd hzlt
            go_simp
            refine hK.out _ _ hS2 (fun hT1 => ?_)
            clear hK hT1
            try simp only [Act.put, List.setIfInBounds_toArray, List.set_cons_zero, List.set_cons_succ]
            refine' wpAnyH_take (i := 13) (v := _) (by simp only [List.getElem?_toArray, List.getElem?_cons_succ, List.getElem?_cons_zero]; rfl) (by kernel_rfl) (by kernel_rfl) (by kernel_rfl) (by exact fun _ _ _ h => h) (Or.inl ⟨by rfl, ?hm13_19⟩) hS2 ?rm13_19
            case hm13_19 => intro V hSw; clear hSw; go_simp; try with_reducible rfl
            try simp only [Act.put, List.setIfInBounds_toArray, List.set_cons_zero, List.set_cons_succ]
            refine' wpAnyH_take (i := 14) (v := _) (by simp only [List.getElem?_toArray, List.getElem?_cons_succ, List.getElem?_cons_zero]; rfl) (by kernel_rfl) (by kernel_rfl) (by kernel_rfl) (by exact fun _ _ _ h => h) (Or.inl ⟨by rfl, ?hm14_20⟩) hS2 ?rm14_20
            case hm14_20 => intro V hSw; clear hSw; go_simp; try with_reducible rfl
            try simp only [Act.put, List.setIfInBounds_toArray, List.set_cons_zero, List.set_cons_succ]
            refine' wpAnyH_take (i := 15) (v := _) (by simp only [List.getElem?_toArray, List.getElem?_cons_succ, List.getElem?_cons_zero]; rfl) (by kernel_rfl) (by kernel_rfl) (by kernel_rfl) (by exact fun _ _ _ h => h) (Or.inl ⟨by rfl, ?hm15_21⟩) hS2 ?rm15_21
            case hm15_21 => intro V hSw; clear hSw; go_simp; try with_reducible rfl
            try simp only [Act.put, List.setIfInBounds_toArray, List.set_cons_zero, List.set_cons_succ]
            refine' wpAnyH_take (i := 16) (v := _) (by simp only [List.getElem?_toArray, List.getElem?_cons_succ, List.getElem?_cons_zero]; rfl) (by kernel_rfl) (by kernel_rfl) (by kernel_rfl) (by exact fun _ _ _ h => h) (Or.inl ⟨by rfl, ?hm16_22⟩) hS2 ?rm16_22
            case hm16_22 => intro V hSw; clear hSw; go_simp; try with_reducible rfl
            try simp only [Act.put, List.setIfInBounds_toArray, List.set_cons_zero, List.set_cons_succ]
            refine wpAnyH_ready (rs := [18]) (by kernel_rfl) (by simp) ?_
            refine' AllReadyH.cons (by simp only [List.getElem?_toArray, List.getElem?_cons_succ, List.getElem?_cons_zero]; rfl) (fun K hK => ?_) AllReadyH.nil
            have z0 : V2.cell? ⟨gz, 0, none⟩ = some (.int .i64 0) := hz.cell 0
            have z1 : V2.cell? ⟨gz, 1, none⟩ = some (.int .i64 0) := hz.cell 1
            have z2 : V2.cell? ⟨gz, 2, none⟩ = some (.string ⟨#[]⟩) := hz.cell 2
            have z3 : V2.cell? ⟨gz, 3, none⟩ = some (.string ⟨#[]⟩) := hz.cell 3
            have z4 : V2.cell? ⟨gz, 4, none⟩ = some (.string ⟨#[]⟩) := hz.cell 4
            have z5 : V2.cell? ⟨gz, 5, none⟩ = some (.slice none 0 0) := hz.cell 5
            have z6 : V2.cell? ⟨gz, 6, none⟩ = some (.slice none 0 0) := hz.cell 6
            have z7 : V2.cell? ⟨gz, 7, none⟩ = some (.int .i64 0) := hz.cell 7
            have z8 : V2.cell? ⟨gz, 8, none⟩ = some (.int .i64 0) := hz.cell 8
            have z9 : V2.cell? ⟨gz, 9, none⟩ = some (.slice none 0 0) := hz.cell 9
            have f0 : V2.frozen? ⟨gz, 0, none⟩ = false := hz.frozen 0
            have f1 : V2.frozen? ⟨gz, 1, none⟩ = false := hz.frozen 1
            have f2 : V2.frozen? ⟨gz, 2, none⟩ = false := hz.frozen 2
            have f3 : V2.frozen? ⟨gz, 3, none⟩ = false := hz.frozen 3
            have f4 : V2.frozen? ⟨gz, 4, none⟩ = false := hz.frozen 4
            have f5 : V2.frozen? ⟨gz, 5, none⟩ = false := hz.frozen 5
            have f6 : V2.frozen? ⟨gz, 6, none⟩ = false := hz.frozen 6
            have f7 : V2.frozen? ⟨gz, 7, none⟩ = false := hz.frozen 7
            have f8 : V2.frozen? ⟨gz, 8, none⟩ = false := hz.frozen 8
            have f9 : V2.frozen? ⟨gz, 9, none⟩ = false := hz.frozen 9
            have HY := Lib.hid (set10_blk hz (.int .i64 kd) (.int .i64 oc) (.string f) (.string t) (.string u) (.slice al2 lo.length cl2) (.slice ah2 hi.length ch2) (.int .i64 b) (.int .i64 op) (.slice ak2 ks.length ck2))
            have hgr := set10_grown V2 gz (.int .i64 kd) (.int .i64 oc) (.string f) (.string t) (.string u) (.slice al2 lo.length cl2) (.slice ah2 hi.length ch2) (.int .i64 b) (.int .i64 op) (.slice ak2 ks.length ck2)
            have hbw := Qry.below_grown (B := W3.heap.size) hgr hS2.size hge
            have hS3 := hS2.trans hbw
            have HAX := Lib.hid (AtL.keep (w' := ((((((((((V2.setCell ⟨gz, 0, none⟩ (.int .i64 kd)).setCell ⟨gz, 1, none⟩ (.int .i64 oc)).setCell ⟨gz, 2, none⟩ (.string f)).setCell ⟨gz, 3, none⟩ (.string t)).setCell ⟨gz, 4, none⟩ (.string u)).setCell ⟨gz, 5, none⟩ (.slice al2 lo.length cl2)).setCell ⟨gz, 6, none⟩ (.slice ah2 hi.length ch2)).setCell ⟨gz, 7, none⟩ (.int .i64 b)).setCell ⟨gz, 8, none⟩ (.int .i64 op)).setCell ⟨gz, 9, none⟩ (.slice ak2 ks.length ck2))) (S' := fun g => g < (((((((((((V2.setCell ⟨gz, 0, none⟩ (.int .i64 kd)).setCell ⟨gz, 1, none⟩ (.int .i64 oc)).setCell ⟨gz, 2, none⟩ (.string f)).setCell ⟨gz, 3, none⟩ (.string t)).setCell ⟨gz, 4, none⟩ (.string u)).setCell ⟨gz, 5, none⟩ (.slice al2 lo.length cl2)).setCell ⟨gz, 6, none⟩ (.slice ah2 hi.length ch2)).setCell ⟨gz, 7, none⟩ (.int .i64 b)).setCell ⟨gz, 8, none⟩ (.int .i64 op)).setCell ⟨gz, 9, none⟩ (.slice ak2 ks.length ck2))).heap.size) (fun p hp => set10_cell V2 gz (.int .i64 kd) (.int .i64 oc) (.string f) (.string t) (.string u) (.slice al2 lo.length cl2) (.slice ah2 hi.length ch2) (.int .i64 b) (.int .i64 op) (.slice ak2 ks.length ck2) p hp.1) (fun g hg => Nat.lt_of_lt_of_le hg.2 hgr.size) HAW.out)
            go_simp
            generalize ((((((((((V2.setCell ⟨gz, 0, none⟩ (.int .i64 kd)).setCell ⟨gz, 1, none⟩ (.int .i64 oc)).setCell ⟨gz, 2, none⟩ (.string f)).setCell ⟨gz, 3, none⟩ (.string t)).setCell ⟨gz, 4, none⟩ (.string u)).setCell ⟨gz, 5, none⟩ (.slice al2 lo.length cl2)).setCell ⟨gz, 6, none⟩ (.slice ah2 hi.length ch2)).setCell ⟨gz, 7, none⟩ (.int .i64 b)).setCell ⟨gz, 8, none⟩ (.int .i64 op)).setCell ⟨gz, 9, none⟩ (.slice ak2 ks.length ck2)) = V3 at *
            refine hK.out _ _ hS3 (fun hT1 => ?_)
            clear hK hT1 z0 f0 z1 f1 z2 f2 z3 f3 z4 f4 z5 f5 z6 f6 z7 f7 z8 f8 z9 f9 hbw hgr hz HAW
            try simp only [Act.put, List.setIfInBounds_toArray, List.set_cons_zero, List.set_cons_succ]
            refine' wpAnyH_take (i := 19) (v := _) (by simp only [List.getElem?_toArray, List.getElem?_cons_succ, List.getElem?_cons_zero]; rfl) (by kernel_rfl) (by kernel_rfl) (by kernel_rfl) (by exact fun _ _ _ h => h) (Or.inl ⟨by rfl, ?hm19_23⟩) hS3 ?rm19_23
            case hm19_23 => intro V hSw; clear hSw; go_simp; try with_reducible rfl
            try simp only [Act.put, List.setIfInBounds_toArray, List.set_cons_zero, List.set_cons_succ]
            refine' wpAnyH_take (i := 20) (v := _) (by simp only [List.getElem?_toArray, List.getElem?_cons_succ, List.getElem?_cons_zero]; rfl) (by kernel_rfl) (by kernel_rfl) (by kernel_rfl) (by exact fun _ _ _ h => h) (Or.inl ⟨by rfl, ?hm20_24⟩) hS3 ?rm20_24
            case hm20_24 => intro V hSw; clear hSw; go_simp; try with_reducible rfl
            try simp only [Act.put, List.setIfInBounds_toArray, List.set_cons_zero, List.set_cons_succ]
            refine wpAnyH_done (by kernel_rfl) ?_ _
            have HB4 := Lib.hid (HB3.out.trans (hS3.mono HB3.out.size))
            have HX4 := Lib.hid (HX3.out.below hS3 HX3.out.lt)
            have HAU4 := Lib.hid (atL_ltw HAU3.out hS3)
            have hlt3 : W2.heap.size < W3.heap.size := HX3.out.lt
            obtain ⟨p0, p1, p2, p3, p4, p5, p6, p7, p8, p9⟩ := tenB HX4.out
            obtain ⟨y0, y1, y2, y3, y4, y5, y6, y7, y8, y9⟩ := tenB HY.out
            have HS4 := Lib.hid (HSM.out V3 _ _ HAX.out HAU4.out)
            go_wp2_with fail
            refine HS4.out.mono ?_
            clear HS4
            rintro e V4 ⟨rfl, hb⟩
            have HB5 := Lib.hid (HB4.out.trans (hb.mono HB4.out.size))
            clear hb p0 p1 p2 p3 p4 p5 p6 p7 p8 p9 y0 y1 y2 y3 y4 y5 y6 y7 y8 y9
            go_wp2_with fail
            go_ret
            exact ⟨rfl, HB5.out⟩
end Go.Proofs.YtinmiekbhoemjaaDoor.QueryBlanksWalk
