/- Contract: the closure of query.write that puts a comma ahead. Contract: query.quote. -/
import Derived.Test.YtinmiekbhoemjaaDoorPack17
section
set_option linter.unusedVariables false
namespace Go.Proofs.YtinmiekbhoemjaaDoor.Qry
open Go.RowKit Words Tree QryP Kit

def commaF (n : Nat) : List UInt8 := if n = 0 then [] else [44, 32]
/-- A part has been written, and counted. -/
def PartR (B b P : Nat) (l : List UInt8) (n : Nat) (w : World) (e : Ending) (w' : World) : Prop := e = .returned (.tuple #[]) ∧ Buf B b l w' ∧ Wr B (fun g => g = b ∨ g = P) w w' ∧ Blk w' P 3 #[.int .i64 (n : Int)]
set_option maxRecDepth 100000 in
set_option maxHeartbeats 8000000 in
theorem part_any (B b T P : Nat) (l x : List UInt8) (n : Nat) (F : FuncId) (caps : Array Value) (w : World) (hT : Blk w T 42 #[.pointer (some ⟨b, 0, none⟩)]) (hP : Blk w P 3 #[.int .i64 (n : Int)]) (hPb : P ≠ b) (hTb : T ≠ b) (hTP : T ≠ P) (hBP : B ≤ P) (hn : n ≤ 1000000000000000000)
    (h : Buf B b l w) (hl : l.length + 2 + x.length ≤ maxW) (hE : ∀ args w, (callFunc F args).run Tryd.prog w = .ok (.enter F args) w)
    (hF : ∀ W, Wr B (fun g => g = b ∨ g = P) w W → Buf B b (l ++ commaF n) W → Calls Tryd.prog F caps W (PutU B b (l ++ commaF n) x W)) :
    Calls Tryd.prog 42 #[.func (.func F) #[] caps, .pointer (some ⟨P, 0, none⟩), .pointer (some ⟨T, 0, none⟩)] w (PartR B b P (l ++ (commaF n ++ x)) (n + 1) w) := by
  have c0 : w.cell? ⟨P, 0, none⟩ = some (.int .i64 (n : Int)) := hP.cell 0
  have f0 : w.frozen? ⟨P, 0, none⟩ = false := hP.frozen 0
  -- the world with the count raised
  have HW1 : Hid (Wr B (fun g => g = b ∨ g = P) w (w.setCell ⟨P, 0, none⟩ (.int .i64 ((n : Int) + 1)))) := Lib.hid ((Wr.refl _ _ _).set (p := ⟨P, 0, none⟩) (.inr rfl) hBP _)
  have HP1 : Hid (Blk (w.setCell ⟨P, 0, none⟩ (.int .i64 ((n : Int) + 1))) P 3 #[.int .i64 ((n : Int) + 1)]) := Lib.hid (hP.set_ 0 _)
  have HT1 : Hid (Blk (w.setCell ⟨P, 0, none⟩ (.int .i64 ((n : Int) + 1))) T 42 #[.pointer (some ⟨b, 0, none⟩)]) := Lib.hid (HW1.out.blk hT (by simp [hTb, hTP]) (by decide))
  have HB1 : Hid (Buf B b l (w.setCell ⟨P, 0, none⟩ (.int .i64 ((n : Int) + 1)))) := Lib.hid (h.set (p := ⟨P, 0, none⟩) hP (by decide) hPb _)
  have HF := Lib.hid hF
  have HL := Lib.hid hl
  have hcT : (w.setCell ⟨P, 0, none⟩ (.int .i64 ((n : Int) + 1))).cell? ⟨T, 0, none⟩ = some (.pointer (some ⟨b, 0, none⟩)) := HT1.out.cell 0
  have hcP : (w.setCell ⟨P, 0, none⟩ (.int .i64 ((n : Int) + 1))).cell? ⟨P, 0, none⟩ = some (.int .i64 ((n : Int) + 1)) := HP1.out.cell 0
  clear hT hP h hF hl
  by_cases hn0 : n = 0
  · subst hn0
    go_enter Tryd.func42, Tryd.ntmps42
    go_wp2_with fail
    refine (HF.out _ HW1.out (by simpa [commaF] using HB1.out)).mono ?_
    rintro e w2 ⟨rfl, hb, hw⟩
    have HB2 := Lib.hid hb
    have HW2 := Lib.hid (HW1.out.trans (hw.mono fun g e => .inl e))
    have HP2 := Lib.hid (hw.blk HP1.out hPb (by decide))
    clear hb hw hcT hcP
    go_wp2_with fail
    go_end0
    exact ⟨rfl, by simpa [commaF] using HB2.out, HW2.out, HP2.out⟩
  · have hd : decide ((1 : Int) < (n : Int) + 1) = true := decide_eq_true (by omega)
    have hc : commaF n = [44, 32] := if_neg hn0
    rw [hc] at HF
    have HC := Lib.hid hc
    have HS := Lib.hid (string_put B b l ⟨#[44, 32]⟩ _ HB1.out (by have := HL.out; show l.length + 2 ≤ maxW; omega))
    clear hc hn0
    go_enter Tryd.func42, Tryd.ntmps42
    go_wp2_with fail
    refine HS.out.mono ?_
    rintro e w2 ⟨rfl, hb, hw⟩
    have HB2 := Lib.hid hb
    have HW2 := Lib.hid (HW1.out.trans (hw.mono fun g e => .inl e))
    have HP2 := Lib.hid (hw.blk HP1.out hPb (by decide))
    clear hb hw hcT hcP
    go_wp2_with fail
    refine (HF.out _ HW2.out HB2.out).mono ?_
    rintro e w3 ⟨rfl, hb, hw⟩
    have HB3 := Lib.hid hb
    have HW3 := Lib.hid (HW2.out.trans (hw.mono fun g e => .inl e))
    have HP3 := Lib.hid (hw.blk HP2.out hPb (by decide))
    clear hb hw
    go_wp2_with fail
    go_end0
    exact ⟨rfl, by rw [HC.out]; simpa [List.append_assoc] using HB3.out, HW3.out, HP3.out⟩
end Go.Proofs.YtinmiekbhoemjaaDoor.Qry
end
section
set_option linter.unusedVariables false
namespace Go.Proofs.YtinmiekbhoemjaaDoor.Qry
open Go.RowKit Words Tree QryP Kit

theorem quote_step {s : ByteArray} {k : Nat} (h : k < s.size) : (s.data.toList.take (k + 1)).flatMap quoteC = (s.data.toList.take k).flatMap quoteC ++ quoteC s[k] := by
  rw [List.take_succ_eq_append_getElem (by simpa using h), List.flatMap_append]
  simp
  rfl
theorem quote_mono {s : ByteArray} {k : Nat} : ((s.data.toList.take k).flatMap quoteC).length ≤ (s.data.toList.flatMap quoteC).length := by
  conv => rhs; rw [← List.take_append_drop k s.data.toList, List.flatMap_append, List.length_append]
  omega
theorem hex_at : ∀ (n : Nat) (h : n < 16), (⟨#[48, 49, 50, 51, 52, 53, 54, 55, 56, 57, 65, 66, 67, 68, 69, 70]⟩ : ByteArray)[n]'h = hexD n := by
  intro n h
  have : ∀ m : Fin 16, (⟨#[48, 49, 50, 51, 52, 53, 54, 55, 56, 57, 65, 66, 67, 68, 69, 70]⟩ : ByteArray)[m.val]'m.isLt = hexD m.val := by decide
  exact this ⟨n, h⟩
theorem hex_put (B b : Nat) (l : List UInt8) (n : Nat) (hn : n < 16) (w : World) (h : Buf B b l w) (hl : l.length + 1 ≤ maxW) : Calls Tryd.prog 43 #[.pointer (some ⟨b, 0, none⟩), .int .u8 ((⟨#[48, 49, 50, 51, 52, 53, 54, 55, 56, 57, 65, 66, 67, 68, 69, 70]⟩ : ByteArray)[n]'hn).toNat] w fun e w' => e = .returned .nilIface ∧ Put B b l [hexD n] w e w' := by
  rw [hex_at n hn]; exact byte_put B b l _ w h hl
set_option maxRecDepth 100000 in
set_option maxHeartbeats 8000000 in
theorem quote_any (B b : Nat) (l : List UInt8) (s : ByteArray) (w : World) (hs : s.size ≤ 140737488351232) (h : Buf B b l w) (hl : l.length + (quoteF s).length ≤ maxW) : Calls Tryd.prog 50 #[.pointer (some ⟨b, 0, none⟩), .string s] w (PutU B b l (quoteF s) w) := by
  have hq : (quoteF s).length = (s.data.toList.flatMap quoteC).length + 2 := by simp [quoteF]
  have HL := Lib.hid hl
  have HQ := Lib.hid hq
  have H1 := Lib.hid (byte_put B b l 34 w h (by omega))
  clear h hl hq
  go_enter Tryd.func50, Tryd.ntmps50
  go_wp2_with fail
  refine H1.out.mono ?_
  rintro e w1 ⟨rfl, hb, hw⟩
  have HB := Lib.hid hb; have HW := Lib.hid hw
  clear hb hw H1
  go_wp2_with fail
  go_loopw [10] (fun i wr => ∃ k : Nat, k ≤ s.size ∧ i = .int .i64 k ∧ Hid (Buf B b (l ++ 34 :: (s.data.toList.take k).flatMap quoteC) wr) ∧ Hid (Wr B (fun g => g = b) w wr)) (fun i _ => s.size - (intOf i).toNat)
  case atStart => exact ⟨0, by omega, rfl, HB, HW⟩
  case round =>
    clear HB HW
    obtain ⟨k, hk, rfl, HB, HW⟩ := hrel
    by_cases hlt : k < s.size
    · have hlt2 : (k : Int) < (s.size : Int) := by omega
      have HS := Lib.hid (quote_step hlt)
      have HLE : Hid (l.length + (34 :: ((s.data.toList.take k).flatMap quoteC ++ quoteC s[k])).length ≤ maxW) := Lib.hid (by
        have := quote_mono (s := s) (k := k + 1)
        rw [quote_step hlt] at this
        have h1 := HL.out
        have h2 := HQ.out
        simp only [List.length_cons] at *
        omega)
      generalize hc : s[k] = c at *
      have hcl := c.toNat_lt
      have HX : Hid ((l ++ 34 :: (s.data.toList.take k).flatMap quoteC).length + (quoteC c).length ≤ maxW) := Lib.hid (by
        have := HLE.out
        simp only [List.length_append, List.length_cons] at *
        omega)
      have HNX : Hid (∀ W, Buf B b (l ++ 34 :: (s.data.toList.take k).flatMap quoteC ++ quoteC c) W → Buf B b (l ++ 34 :: (s.data.toList.take (k + 1)).flatMap quoteC) W) := Lib.hid (fun W hW => by rw [HS.out]; simpa [List.append_assoc] using hW)
      clear HLE HS
      generalize l ++ 34 :: (s.data.toList.take k).flatMap quoteC = L at *
      by_cases h1 : c.toNat = 34 ∨ c.toNat = 92
      · have hq : quoteC c = [92, c] := by
          unfold quoteC
          rw [if_pos]
          rcases h1 with h1 | h1
          · exact .inl (UInt8.toNat_inj.1 (by rw [h1]; rfl))
          · exact .inr (UInt8.toNat_inj.1 (by rw [h1]; rfl))
        rw [hq] at HX HNX
        have HXL := HX.out
        simp only [List.length_cons, List.length_nil] at HXL
        have HP := Lib.hid (fun W (hW : Buf B b L W) => byte_put B b L 92 W hW (by omega))
        have HP2 := Lib.hid (fun W (hW : Buf B b (L ++ [92]) W) => byte_put B b (L ++ [92]) c W hW (by simp; omega))
        clear hq HX HXL
        by_cases h34 : c.toNat = 34
        · have d1 : ((c.toNat : Int) == 34) = true := by rw [h34]; rfl
          clear h1 h34
          go_wp2_with fail
          refine (HP.out _ HB.out).mono ?_
          rintro e w2 ⟨rfl, hb, hw⟩
          have HB2 := Lib.hid hb; have HW2 := Lib.hid (HW.out.trans hw)
          clear hb hw
          go_wp2_with fail
          refine (HP2.out _ HB2.out).mono ?_
          rintro e w3 ⟨rfl, hb, hw⟩
          have HB3 := Lib.hid (HNX.out _ (by simpa using hb)); have HW3 := Lib.hid (HW2.out.trans hw)
          clear hb hw
          go_wp2_with fail
          go_roundw
          case rel => exact ⟨k + 1, by omega, by go_num, HB3, HW3⟩
          case measure => simp [intOf]; omega
        · have d1 : ((c.toNat : Int) == 34) = false := by rw [beq_eq_false_iff_ne]; omega
          have d2 : ((c.toNat : Int) == 92) = true := by rw [beq_iff_eq]; omega
          clear h1 h34
          go_wp2_with fail
          refine (HP.out _ HB.out).mono ?_
          rintro e w2 ⟨rfl, hb, hw⟩
          have HB2 := Lib.hid hb; have HW2 := Lib.hid (HW.out.trans hw)
          clear hb hw
          go_wp2_with fail
          refine (HP2.out _ HB2.out).mono ?_
          rintro e w3 ⟨rfl, hb, hw⟩
          have HB3 := Lib.hid (HNX.out _ (by simpa using hb)); have HW3 := Lib.hid (HW2.out.trans hw)
          clear hb hw
          go_wp2_with fail
          go_roundw
          case rel => exact ⟨k + 1, by omega, by go_num, HB3, HW3⟩
          case measure => simp [intOf]; omega
      · have d1 : ((c.toNat : Int) == 34) = false := by rw [beq_eq_false_iff_ne]; omega
        have d2 : ((c.toNat : Int) == 92) = false := by rw [beq_eq_false_iff_ne]; omega
        have hn : ¬ (c = 34 ∨ c = 92) := by
          rintro (rfl | rfl) <;> exact h1 (by decide)
        by_cases h2 : c.toNat < 32 ∨ 127 ≤ c.toNat
        · have hq : quoteC c = [92, 120] ++ [hexD (c.toNat / 16)] ++ [hexD (c.toNat % 16)] := by unfold quoteC; rw [if_neg hn, if_pos h2]; rfl
          rw [hq] at HX HNX
          have HXL := HX.out
          simp only [List.length_cons, List.length_nil, List.length_append] at HXL
          have HP := Lib.hid (fun W (hW : Buf B b L W) => string_put B b L ⟨#[92, 120]⟩ W hW (by show L.length + 2 ≤ maxW; omega))
          have HP2 := Lib.hid (fun W (hW : Buf B b (L ++ [92, 120]) W) => hex_put B b (L ++ [92, 120]) (c.toNat / 16) (by omega) W hW (by simp; omega))
          have HP3 := Lib.hid (fun W (hW : Buf B b (L ++ [92, 120] ++ [hexD (c.toNat / 16)]) W) => hex_put B b (L ++ [92, 120] ++ [hexD (c.toNat / 16)]) (c.toNat % 16) (by omega) W hW (by simp; omega))
          clear hq HX HXL h1 hn
          have d34 : (decide ((c.toNat : Int) < 32) = true) ∨ (decide ((c.toNat : Int) < 32) = false ∧ decide (127 ≤ (c.toNat : Int)) = true) := by
            by_cases h3 : c.toNat < 32
            · exact .inl (decide_eq_true (by omega))
            · exact .inr ⟨decide_eq_false (by omega), decide_eq_true (by omega)⟩
          clear h2
          rcases d34 with d3 | ⟨d3, d4⟩
          all_goals
            go_wp2_with fail
            refine (HP.out _ HB.out).mono ?_
            rintro e w2 ⟨rfl, hb, hw⟩
            have HB2 := Lib.hid hb; have HW2 := Lib.hid (HW.out.trans hw)
            clear hb hw
            go_wp2_with fail
            refine (HP2.out _ HB2.out).mono ?_
            rintro e w3 ⟨rfl, hb, hw⟩
            have HB3 := Lib.hid hb; have HW3 := Lib.hid (HW2.out.trans hw)
            clear hb hw
            go_wp2_with fail
            refine (HP3.out _ HB3.out).mono ?_
            rintro e w4 ⟨rfl, hb, hw⟩
            have HB4 := Lib.hid (HNX.out _ (by simpa using hb)); have HW4 := Lib.hid (HW3.out.trans hw)
            clear hb hw
            go_wp2_with fail
            go_roundw
            case rel => exact ⟨k + 1, by omega, by go_num, HB4, HW4⟩
            case measure => simp [intOf]; omega
        · have hq : quoteC c = [c] := by unfold quoteC; rw [if_neg hn, if_neg h2]
          rw [hq] at HX HNX
          have HXL := HX.out
          simp only [List.length_cons, List.length_nil] at HXL
          have HP := Lib.hid (fun W (hW : Buf B b L W) => byte_put B b L c W hW (by omega))
          have d3 : decide ((c.toNat : Int) < 32) = false := decide_eq_false (by omega)
          have d4 : decide (127 ≤ (c.toNat : Int)) = false := decide_eq_false (by omega)
          clear hq HX HXL h1 h2 hn
          go_wp2_with fail
          refine (HP.out _ HB.out).mono ?_
          rintro e w2 ⟨rfl, hb, hw⟩
          have HB2 := Lib.hid (HNX.out _ hb); have HW2 := Lib.hid (HW.out.trans hw)
          clear hb hw
          go_wp2_with fail
          go_roundw
          case rel => exact ⟨k + 1, by omega, by go_num, HB2, HW2⟩
          case measure => simp [intOf]; omega
    · obtain rfl : k = s.size := by omega
      have HB1 : Hid (Buf B b (l ++ 34 :: s.data.toList.flatMap quoteC) wr) := Lib.hid (by
        have := HB.out
        rwa [List.take_of_length_le (by simp)] at this)
      have HP := Lib.hid (byte_put B b _ 34 wr HB1.out (by
        have h1 := HL.out
        have h2 := HQ.out
        simp only [List.length_append, List.length_cons]
        omega))
      clear HB HB1
      go_wp2_with fail
      refine HP.out.mono ?_
      rintro e w2 ⟨rfl, hb, hw⟩
      have HB2 : Hid (Buf B b (l ++ quoteF s) w2) := Lib.hid (by simpa [quoteF] using hb)
      have HW2 := Lib.hid (HW.out.trans hw)
      clear hb hw
      go_wp2_with fail
      go_end0
      exact ⟨rfl, HB2.out, HW2.out⟩
end Go.Proofs.YtinmiekbhoemjaaDoor.Qry
end
