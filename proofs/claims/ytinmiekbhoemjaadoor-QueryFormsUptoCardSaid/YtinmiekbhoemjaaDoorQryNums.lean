/- Contract: query.numbers. -/
import Derived.Test.YtinmiekbhoemjaaDoorQryBuf
set_option linter.unusedVariables false
namespace Go.Proofs.YtinmiekbhoemjaaDoor.Qry
open Go.RowKit Words Tree QryP Kit

/-- A number as it is written. -/
abbrev numT (n : Int) : List UInt8 := Lib.itoa n
theorem joinF_pre (sep : List UInt8) : ∀ a b : List (List UInt8), (joinF sep a).length ≤ (joinF sep (a ++ b)).length
  | [], b => Nat.zero_le _
  | [x], [] => Nat.le_refl _
  | [x], y :: b => by simp [joinF]
  | x :: y :: a, b => by
    have := joinF_pre sep (y :: a) b
    simp only [List.cons_append, joinF, List.length_append] at *
    omega
theorem nums_step {l : List Int} {k : Nat} (h : k < l.length) : numsF numT (l.take (k + 1)) = (if k = 0 then numT l[k] else numsF numT (l.take k) ++ [32] ++ numT l[k]) := by
  unfold numsF
  rw [List.take_succ_eq_append_getElem h, List.map_append, List.map_cons, List.map_nil, joinF_snoc]
  by_cases hk : k = 0
  · subst hk; rfl
  · rw [if_neg hk, if_neg]
    intro e
    have := congrArg List.length e
    rw [List.length_map, List.length_take] at this
    simp only [List.length_nil] at this
    omega
theorem nums_le {l : List Int} {k : Nat} : (numsF numT (l.take k)).length ≤ (numsF numT l).length := by
  unfold numsF
  conv => rhs; rw [← List.take_append_drop k l, List.map_append]
  exact joinF_pre _ _ _
theorem format_z (z : Int) (h : I64 z) (w : World) (hT : Lib.TabIs Tryd.prog w "internal/strconv.uint64pow10" .u64 Lib.pow10Tab) :
    Calls Tryd.prog 74 #[.int .i64 z, .int .i64 10] w (fun e w' => e = .returned (.string (str (numT z))) ∧ Below w.heap.size w w') := OrdLib.format_any z h.1 h.2 _ rfl w hT
set_option maxRecDepth 100000 in
set_option maxHeartbeats 8000000 in
theorem numbers_any (B b D : Nat) (l0 : List UInt8) (A : Option Addr) (c : Nat) (l : List Int) (w : World) (hR : ∀ W, Wr B (fun g => g = b) w W → Reads W D 1 A l.length (l.map (Value.int .i64))) (hl : l.length * 8 ≤ 140737488351232) (hI : ∀ z ∈ l, I64 z) (h : Buf B b l0 w) (hm : l0.length + (numsF numT l).length ≤ maxW)
    (hP : ∀ W, Wr B (fun g => g = b) w W → Lib.TabIs Tryd.prog W "internal/strconv.uint64pow10" .u64 Lib.pow10Tab) :
    Calls Tryd.prog 45 #[.pointer (some ⟨b, 0, none⟩), .slice A l.length c] w (PutU B b l0 (numsF numT l) w) := by
  have HR := Lib.hid hR; have HI := Lib.hid hI; have HP := Lib.hid hP; have HM := Lib.hid hm
  have H0 : Hid (Buf B b (l0 ++ numsF numT (l.take 0)) w) := Lib.hid (by simpa [numsF, joinF] using h)
  have HBw := Lib.hid (And.intro h.ge h.size)
  clear hR hI hP hm h
  go_enter Tryd.func45, Tryd.ntmps45
  go_wp2_with fail
  go_loopw [8] (fun i wr => ∃ k : Nat, k ≤ l.length ∧ i = .int .i64 k ∧ Hid (Buf B b (l0 ++ numsF numT (l.take k)) wr) ∧ Hid (Wr B (fun g => g = b) w wr)) (fun i _ => l.length - (intOf i).toNat)
  case atStart => exact ⟨0, by omega, rfl, H0, Lib.hid (Wr.refl _ _ _)⟩
  case round =>
    obtain ⟨k, hk, rfl, HB, HW⟩ := hrel
    by_cases hlt : k < l.length
    · have hlt2 : (k : Int) < (l.length : Int) := by omega
      obtain ⟨ad, u, rfl, hbl, hu, hce⟩ := (HR.out _ HW.out).at_ hlt
      obtain rfl : u = .int .i64 l[k] := by
        rw [List.getElem?_map, List.getElem?_eq_getElem hlt] at hu
        exact (Option.some.inj hu).symm
      have hz := HI.out l[k] (List.getElem_mem _)
      have HS := Lib.hid (nums_step hlt)
      have HLE : Hid ((numsF numT (l.take (k + 1))).length ≤ (numsF numT l).length) := Lib.hid nums_le
      clear hu hbl
      generalize l[k] = z at *
      have HF := Lib.hid (fun W hW => format_z z hz W (HP.out W hW))
      clear hz
      by_cases hk0 : k = 0
      · subst hk0
        have e0 : ad.add 0 = ad := by unfold Addr.add; split <;> simp_all
        rw [e0] at hce
        clear e0
        have HX := Lib.hid (fun (W : World) (hW : Buf B b (l0 ++ numsF numT (l.take 0)) W) => string_put B b _ (str (numT z)) W hW (by
          have h1 := HM.out; have h2 := HLE.out; have h3 := HS.out
          rw [if_pos rfl] at h3
          rw [h3] at h2
          show (l0 ++ numsF numT (l.take 0)).length + (numT z).length ≤ maxW
          simp only [List.take_zero, numsF, List.map_nil, joinF, List.append_nil] at *
          omega))
        go_wp2_with fail
        refine (HF.out _ HW.out).mono ?_
        rintro e w2 ⟨rfl, hb⟩
        have HB2 := Lib.hid (HB.out.keep hb)
        have HW2 := Lib.hid (HW.out.trans (Wr.same hb (by have h1 := HBw.out; have h2 := HW.out.below.size; omega)))
        clear hb hce
        go_wp2_with fail
        refine (HX.out _ HB2.out).mono ?_
        rintro e w3 ⟨rfl, hb, hw⟩
        have HB3 : Hid (Buf B b (l0 ++ numsF numT (l.take (0 + 1))) w3) := Lib.hid (by
          have hb' : Buf B b (l0 ++ numsF numT (l.take 0) ++ numT z) w3 := hb
          rw [HS.out]
          simpa [numsF, joinF] using hb')
        have HW3 := Lib.hid (HW2.out.trans hw)
        clear hb hw
        go_wp2_with fail
        go_roundw
        case rel => exact ⟨1, by omega, by go_num, HB3, HW3⟩
        case measure => simp [intOf]; omega
      · have hkp : (0 : Int) < (k : Int) := by omega
        have HXL : Hid ((l0 ++ numsF numT (l.take k)).length + 1 + (numT z).length ≤ maxW) := Lib.hid (by
          have h1 := HM.out; have h2 := HLE.out; have h3 := HS.out
          rw [if_neg hk0] at h3
          rw [h3] at h2
          simp only [List.length_append, List.length_cons, List.length_nil] at *
          omega)
        have HP1 := Lib.hid (fun (W : World) (hW : Buf B b (l0 ++ numsF numT (l.take k)) W) => byte_put B b _ 32 W hW (by have := HXL.out; omega))
        have HX := Lib.hid (fun (W : World) (hW : Buf B b (l0 ++ numsF numT (l.take k) ++ [32]) W) => string_put B b _ (str (numT z)) W hW (by
          have := HXL.out
          show _ + (numT z).length ≤ maxW
          simp only [List.length_append, List.length_cons, List.length_nil] at *
          omega))
        have HST : Hid (∀ W, Buf B b (l0 ++ numsF numT (l.take k) ++ [32] ++ numT z) W → Buf B b (l0 ++ numsF numT (l.take (k + 1))) W) := Lib.hid (fun W hW => by
          rw [HS.out, if_neg hk0]
          simpa [List.append_assoc] using hW)
        clear hk0
        go_wp2_with fail
        refine (HP1.out _ HB.out).mono ?_
        rintro e w2 ⟨rfl, hb, hw⟩
        have HB2 := Lib.hid hb; have HW2 := Lib.hid (HW.out.trans hw)
        clear hb hw hce
        go_wp2_with fail
        refine (HF.out _ HW2.out).mono ?_
        rintro e w3 ⟨rfl, hb⟩
        have HB3 := Lib.hid (HB2.out.keep hb)
        have HW3 := Lib.hid (HW2.out.trans (Wr.same hb (by have h1 := HBw.out; have h2 := HW2.out.below.size; omega)))
        clear hb
        go_wp2_with fail
        refine (HX.out _ HB3.out).mono ?_
        rintro e w4 ⟨rfl, hb, hw⟩
        have HB4 := Lib.hid (HST.out _ hb); have HW4 := Lib.hid (HW3.out.trans hw)
        clear hb hw
        go_wp2_with fail
        go_roundw
        case rel => exact ⟨k + 1, by omega, by go_num, HB4, HW4⟩
        case measure => simp [intOf]; omega
    · obtain rfl : k = l.length := by omega
      have HB1 : Hid (Buf B b (l0 ++ numsF numT l) wr) := Lib.hid (by
        have := HB.out
        rwa [List.take_length] at this)
      clear HB
      go_wp2_with fail
      go_end0
      exact ⟨rfl, HB1.out, HW.out⟩
end Go.Proofs.YtinmiekbhoemjaaDoor.Qry
