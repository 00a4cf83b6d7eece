/- Contract: the parser's text. -/
import Derived.Test.YtinmiekbhoemjaaDoorPack21
set_option linter.unusedVariables false
namespace Go.Proofs.YtinmiekbhoemjaaDoor.Qry
open Go.RowKit Words Tree QryP Kit Sch SchP Owned

/-- What stands when the text goes on at j with L read. -/
structure TxtW (s : ByteArray) (gp gb : Nat) (w0 : World) (j : Nat) (L : R) (w : World) : Prop where
  pa : Pa s gp j w
  grown : w0.grownBy w (some gp)
  buf : Buf w0.heap.size gb L w
section
variable {s : ByteArray} {gp gb : Nat} {w0 : World} {j : Nat} {L : R} {w : World}
theorem TxtW.drewN (h : TxtW s gp gb w0 j L w) (n : Nat) : TxtW s gp gb w0 j L (w.drewN n) := ⟨h.pa.drewN n, only_drewN h.grown n, h.buf.keep (below_drewN (Below.refl _ _) n)⟩
theorem TxtW.next (h : TxtW s gp gb w0 j L w) (m : Nat) (hm : j + m ≤ s.size) (hgb : gp ≠ gb) (v : Int) (hv : v = (j + m : Nat)) : TxtW s gp gb w0 (j + m) L (w.setCell ⟨gp, 1, none⟩ (.int .i64 v)) :=
  ⟨h.pa.next m hm v hv, grown_next h.grown 1 _, h.buf.set (p := ⟨gp, 1, none⟩) h.pa.blk (by decide) hgb _⟩
theorem TxtW.put (h : TxtW s gp gb w0 j L w) (hgp : gp < w0.heap.size) {c : UInt8} {e : Ending} {w' : World} (hp : Put w0.heap.size gb L [c] w e w') : TxtW s gp gb w0 j (L ++ [c]) w' :=
  ⟨h.pa.low hp.2.below hgp, grown_low h.grown hp.2.below, hp.1⟩
end
theorem pre_dec (u : ByteArray) (c : UInt8) : Lib.hasPrefix u.data.toList [c] = decide (∃ h : 0 < u.size, u[0] = c) := by
  rw [pre_one]
  obtain ⟨⟨l⟩⟩ := u
  match l with
  | [] => symm; rw [decide_eq_false_iff_not]; rintro ⟨h, _⟩; exact absurd h (by simp [ByteArray.size])
  | d :: t =>
    have hd : (⟨⟨d :: t⟩⟩ : ByteArray)[0]'(by simp [ByteArray.size]) = d := rfl
    show (c == d) = _
    by_cases h : c = d
    · rw [decide_eq_true ⟨by simp [ByteArray.size], by rw [hd, h]⟩, h]; simp
    · rw [decide_eq_false (fun ⟨_, e⟩ => h (by rw [hd] at e; exact e.symm))]; simpa using h
theorem rem_u1 {s u : ByteArray} {j : Nat} (hu : u.data.toList = rem s j) (h : 0 < u.size) : rem s j = u[0] :: rem s (j + 1) := by
  obtain ⟨h1, e⟩ := rem_get hu h
  rw [rem_cons (by omega), e]
  rfl
theorem rem_u3 {s u : ByteArray} {j : Nat} (hu : u.data.toList = rem s j) (h : 3 ≤ u.size) : rem s j = u[0] :: u[1] :: u[2] :: rem s (j + 3) := by
  obtain ⟨h1, e1⟩ := rem_get hu (i := 0) (by omega)
  obtain ⟨h2, e2⟩ := rem_get hu (i := 1) (by omega)
  obtain ⟨h3, e3⟩ := rem_get hu (i := 2) (by omega)
  rw [rem_cons (by omega), rem_cons (by omega), rem_cons (by omega), e1, e2, e3]
  rfl
theorem rem_ul {s u : ByteArray} {j : Nat} (hu : u.data.toList = rem s j) : u.size = s.size - j := by rw [← rem_len, ← hu]; simp
set_option maxRecDepth 100000 in
set_option maxHeartbeats 8000000 in
theorem ptext_any (s : ByteArray) (gp k : Nat) (w : World) (h : Pa s gp k w) (hs : s.size ≤ 4096) : Calls Tryd.prog 79 #[.pointer (some ⟨gp, 0, none⟩)] w (Out s gp k w (textS (rem s k)) fun t v _ => v = .string t) := by
  have HSK := Lib.hid (skip_any s gp k w h hs)
  have hgp : gp < w.heap.size := h.blk.lt
  obtain ⟨x, hx⟩ : ∃ x, textS (rem s k) = x := ⟨_, rfl⟩
  rw [hx]
  have HX := Lib.hid (hx.symm.trans (text_eq (rem s k)))
  clear h hx
  obtain ⟨f, hf⟩ : ∃ f, skipS (rem s k) = f := ⟨_, rfl⟩
  rw [hf] at HSK HX
  clear hf
  go_enter Tryd.func79, Tryd.ntmps79
  go_wp2_with fail
  refine HSK.out.mono ?_
  rintro e w1 ⟨rfl, hg, j0, hkj, hp, hrem⟩
  have HG1 := Lib.hid hg; have HJ1 := Lib.hid hp
  have hj0 := HJ1.out.le
  subst hrem
  have c1 : w1.cell? ⟨gp, 1, none⟩ = some (.int .i64 j0) := HJ1.out.blk.cell 1
  clear hg hp HSK
  have HN0 : Hid (faultE (j0 : Int) 180 = faultE ((s.size - (rem s j0).length : Nat) : Int) 180) := Lib.hid (fault_at hj0 180)
  have HWT := Lib.hid (want_any 34 s gp j0 w1 HJ1.out hs)
  go_wp2_with fail
  refine HWT.out.mono ?_
  clear HWT
  obtain ⟨y, hy⟩ : ∃ y, wantS 34 (rem s j0) = y := ⟨_, rfl⟩
  rw [hy] at HX ⊢
  clear hy
  match y with
  | .error (p, c) =>
    intro e w2 ho
    obtain ⟨rfl, hg⟩ := ho
    refine ⟨rfl, ?_⟩
    rw [HX.out]
    exact ⟨rfl, grown_trans' HG1.out hg⟩
  | .ok t =>
    intro e w2 ho
    obtain ⟨rfl, hg, j2, hkj2, hp, hrem⟩ := ho
    subst hrem
    have hbs := hg.size
    have hbs1 := HG1.out.size
    have hj2 := hp.le
    have hA := (Below.refl w2.heap.size w2).alloc (Nat.le_refl _) (.cells #[.pointer none, .slice none 0 0] 45)
    have H0 : Hid (TxtW s gp w2.heap.size w j2 [] (w2.alloc (.cells #[.pointer none, .slice none 0 0] 45))) := Lib.hid ⟨hp.keep hA, grown_trans' (grown_trans' HG1.out hg) (only_of_below hA (some gp)), .inl ⟨by omega, .slice none 0 0, Blk.new w2 _ _, ⟨rfl, .inl ⟨rfl, rfl⟩⟩, by simp [Value.ownBlock]⟩⟩
    have HX0 : Hid (x = finT (pushL [] (strS (rem s j0).length (rem s j2)))) := Lib.hid HX.out
    generalize (rem s j0).length = n0 at *
    have hgb : gp ≠ w2.heap.size := by omega
    have hgw : w.heap.size ≤ w2.heap.size := by omega
    clear hA hp hg HX HJ1 HG1 c1
    go_wp2_with fail
    generalize w2.alloc (.cells #[.pointer none, .slice none 0 0] 45) = w3 at *
    generalize w2.heap.size = gb at *
    clear hbs hbs1
    have hj02 : k ≤ j2 := by omega
    have hgw2 : w.heap.size ≤ gb := hgw
    go_loopg [] (s.size - j2) (fun n wr => ∃ (j : Nat) (L : R), k ≤ j ∧ j ≤ s.size ∧ n = s.size - j ∧ L.length ≤ j ∧ Hid (TxtW s gp gb w j L wr) ∧ Hid (x = finT (pushL L (strS n0 (rem s j)))))
    case atStart => exact ⟨j2, [], hj02, hj2, rfl, Nat.zero_le _, H0, HX0⟩
    case round =>
      clear H0 HX0
      obtain ⟨j, L, hkj3, hj, rfl, hL, HT, HX⟩ := hrel
      by_cases hlt : j < s.size
      · have HC : Hid (rem s j = s[j] :: rem s (j + 1)) := Lib.hid (rem_cons hlt)
        have h1 : (0 : Int) ≤ (j : Int) := by omega
        have h2 : (j : Int) < (s.size : Int) := by omega
        have h3 : (0 : Int) ≤ (j : Int) + 1 := by omega
        have h4 : (j : Int) + 1 ≤ (s.size : Int) := by omega
        have h5 : IntKind.i64.wrap ((j : Int) + 1) = (j : Int) + 1 := IntWalk.i64_in _ (by omega)
        have c0 : wr.cell? ⟨gp, 0, none⟩ = some (.string s) := HT.out.pa.blk.cell 0
        have c1 : wr.cell? ⟨gp, 1, none⟩ = some (.int .i64 j) := HT.out.pa.blk.cell 1
        go_upto_region 5 with fail
        go_quiet (fail)
        replace HT : Hid (TxtW s gp gb w j L (wr.drewN nq)) := Lib.hid (HT.out.drewN nq)
        generalize wr.drewN nq = wr at *
        clear c0 c1
        have c0 : wr.cell? ⟨gp, 0, none⟩ = some (.string s) := HT.out.pa.blk.cell 0
        have c1 : wr.cell? ⟨gp, 1, none⟩ = some (.int .i64 j) := HT.out.pa.blk.cell 1
        go_upto_region 6 with fail
        go_quiet (fail)
        replace HT : Hid (TxtW s gp gb w j L (wr.drewN nq)) := Lib.hid (HT.out.drewN nq)
        generalize wr.drewN nq = wr at *
        clear c0 c1
        have c0 : wr.cell? ⟨gp, 0, none⟩ = some (.string s) := HT.out.pa.blk.cell 0
        have c1 : wr.cell? ⟨gp, 1, none⟩ = some (.int .i64 j) := HT.out.pa.blk.cell 1
        go_upto_region 7 with fail
        go_quiet (fail)
        replace HT : Hid (TxtW s gp gb w j L (wr.drewN nq)) := Lib.hid (HT.out.drewN nq)
        generalize wr.drewN nq = wr at *
        clear c0 c1
        have c1 : wr.cell? ⟨gp, 1, none⟩ = some (.int .i64 j) := HT.out.pa.blk.cell 1
        have z1 : wr.frozen? ⟨gp, 1, none⟩ = false := HT.out.pa.blk.frozen 1
        have HU := Lib.hid (ext_rem (s := s) (a := j + 1) hlt)
        have HUL := Lib.hid (rem_ul HU.out)
        generalize s.extract (j + 1) s.size = u at *
        generalize s[j] = c at *
        replace HX : Hid (x = finT (pushL L (strS n0 (c :: rem s (j + 1))))) := Lib.hid (by rw [HX.out, HC.out])
        have HTN : Hid (TxtW s gp gb w (j + 1) L (wr.setCell ⟨gp, 1, none⟩ (.int .i64 ((j : Int) + 1)))) := Lib.hid (HT.out.next 1 hlt hgb _ (by omega))
        clear HC
        have hjn : j + 1 ≤ s.size := hlt
        have hL2 : L.length + 1 ≤ maxW := by unfold maxW; omega
        have HBP := Lib.hid (fun (d : UInt8) (W : World) (hW : TxtW s gp gb w (j + 1) L W) => byte_put w.heap.size gb L d W hW.buf hL2)
        by_cases h34 : c = 34
        · subst h34
          have HX2 : Hid (x = .ok (QryP.bytes L, rem s (j + 1))) := Lib.hid (by rw [HX.out, str_end]; simp [pushL, finT])
          go_upto_region 11 with fail
          generalize wr.setCell ⟨gp, 1, none⟩ (.int .i64 ((j : Int) + 1)) = w4 at *
          have HS := Lib.hid (Tryd.Builder_String_any_k w.heap.size gb _ w4 HTN.out.buf HTN.out.grown.size)
          go_wp2_with fail
          refine HS.out.mono ?_
          rintro e w5 ⟨rfl, _, hb3, _⟩
          have HB3 := Lib.hid hb3
          clear hb3
          go_wp2_with fail
          go_ret
          rw [HX2.out]
          exact ⟨_, rfl, rfl, grown_low HTN.out.grown HB3.out, j + 1, by omega, HTN.out.pa.low HB3.out hgp, rfl⟩
        · by_cases h10 : c = 10
          · subst h10
            have HX2 : Hid (x = .error (n0, 180)) := Lib.hid (by rw [HX.out, str_nl]; rfl)
            go_upto_region 13 with fail
            generalize wr.setCell ⟨gp, 1, none⟩ (.int .i64 ((j : Int) + 1)) = w4 at *
            have HWR := Lib.hid (fun W => wrong_any j0 W)
            go_wp2_with fail
            refine (HWR.out _).mono ?_
            rintro e w5 ⟨rfl, rfl⟩
            refine ⟨rfl, ?_⟩
            rw [HX2.out]
            exact ⟨HN0.out, HTN.out.grown⟩
          · have d34 : ((c.toNat : Int) == 34) = false := by rw [beq_eq_false_iff_ne]; intro e; exact h34 (UInt8.toNat_inj.1 (by show c.toNat = 34; omega))
            have d10 : ((c.toNat : Int) == 10) = false := by rw [beq_eq_false_iff_ne]; intro e; exact h10 (UInt8.toNat_inj.1 (by show c.toNat = 10; omega))
            by_cases h92 : c = 92
            · subst h92
              replace HX : Hid (x = finT (pushL L (escS n0 (rem s (j + 1))))) := Lib.hid (by rw [HX.out, str_back])
              clear h34 h10 d34 d10
              obtain ⟨b1, hb1⟩ : ∃ b : Bool, decide (∃ h : 0 < u.size, u[0] = 34) = b := ⟨_, rfl⟩
              obtain ⟨b2, hb2⟩ : ∃ b : Bool, decide (∃ h : 0 < u.size, u[0] = 92) = b := ⟨_, rfl⟩
              have HP1 : Hid (∀ W, Calls Tryd.prog 85 #[.string u, .string ⟨#[34]⟩] W fun e w' => e = .returned (.bool b1) ∧ w' = W) := Lib.hid (fun W => (Tryd.strings_HasPrefix u ⟨#[34]⟩ W).mono fun e w' h => by rw [show (⟨#[34]⟩ : ByteArray).data.toList = [34] from rfl, pre_dec, hb1] at h; exact h)
              have HP2 : Hid (∀ W, Calls Tryd.prog 85 #[.string u, .string ⟨#[92]⟩] W fun e w' => e = .returned (.bool b2) ∧ w' = W) := Lib.hid (fun W => (Tryd.strings_HasPrefix u ⟨#[92]⟩ W).mono fun e w' h => by rw [show (⟨#[92]⟩ : ByteArray).data.toList = [92] from rfl, pre_dec, hb2] at h; exact h)
              go_upto_region 16 with fail
              generalize wr.setCell ⟨gp, 1, none⟩ (.int .i64 ((j : Int) + 1)) = w4 at *
              clear c1 z1
              cases b1 with
              | true =>
                obtain ⟨hu0, hu1⟩ := of_decide_eq_true hb1
                have HX2 : Hid (x = finT (pushL (L ++ [u[0]]) (strS n0 (rem s (j + 1 + 1))))) := Lib.hid (by rw [HX.out, rem_u1 HU.out hu0, esc_two _ _ _ (.inl hu1), pushL_push])
                clear hb1 hb2 hu1
                go_wp2_with fail
                refine (HP1.out _).mono ?_
                rintro e w5 ⟨rfl, rfl⟩
                have hj2s : j + 1 + 1 ≤ s.size := by have := HUL.out; omega
                have hu0i : (0 : Int) < (u.size : Int) := by omega
                go_wp2_with fail
                refine (HBP.out u[0] _ HTN.out).mono ?_
                rintro e w7 ⟨rfl, hput⟩
                have HT7 : Hid (TxtW s gp gb w (j + 1) (L ++ [u[0]]) w7) := Lib.hid (HTN.out.put hgp hput)
                clear hput
                have c1 : w7.cell? ⟨gp, 1, none⟩ = some (.int .i64 ((j + 1 : Nat) : Int)) := HT7.out.pa.blk.cell 1
                have z1 : w7.frozen? ⟨gp, 1, none⟩ = false := HT7.out.pa.blk.frozen 1
                have HT8 : Hid (∀ v : Int, v = (j + 1 + 1 : Nat) → TxtW s gp gb w (j + 1 + 1) (L ++ [u[0]]) (w7.setCell ⟨gp, 1, none⟩ (.int .i64 v))) := Lib.hid (fun v hv => HT7.out.next 1 hj2s hgb v hv)
                go_wp2_with fail
                go_roundg (s.size - (j + 1 + 1))
                case measure => omega
                case rel => exact ⟨j + 1 + 1, L ++ [u[0]], by omega, hj2s, rfl, by simp; omega, Lib.hid (HT8.out _ (by omega)), HX2⟩
              | false =>
                cases b2 with
                | true =>
                  obtain ⟨hu0, hu1⟩ := of_decide_eq_true hb2
                  have HX2 : Hid (x = finT (pushL (L ++ [u[0]]) (strS n0 (rem s (j + 1 + 1))))) := Lib.hid (by rw [HX.out, rem_u1 HU.out hu0, esc_two _ _ _ (.inr hu1), pushL_push])
                  clear hb1 hb2 hu1
                  go_wp2_with fail
                  refine (HP1.out _).mono ?_
                  rintro e w5 ⟨rfl, rfl⟩
                  go_wp2_with fail
                  refine (HP2.out _).mono ?_
                  rintro e w6 ⟨rfl, rfl⟩
                  have hj2s : j + 1 + 1 ≤ s.size := by have := HUL.out; omega
                  have hu0i : (0 : Int) < (u.size : Int) := by omega
                  go_wp2_with fail
                  refine (HBP.out u[0] _ HTN.out).mono ?_
                  rintro e w7 ⟨rfl, hput⟩
                  have HT7 : Hid (TxtW s gp gb w (j + 1) (L ++ [u[0]]) w7) := Lib.hid (HTN.out.put hgp hput)
                  clear hput
                  have c1 : w7.cell? ⟨gp, 1, none⟩ = some (.int .i64 ((j + 1 : Nat) : Int)) := HT7.out.pa.blk.cell 1
                  have z1 : w7.frozen? ⟨gp, 1, none⟩ = false := HT7.out.pa.blk.frozen 1
                  have HT8 : Hid (∀ v : Int, v = (j + 1 + 1 : Nat) → TxtW s gp gb w (j + 1 + 1) (L ++ [u[0]]) (w7.setCell ⟨gp, 1, none⟩ (.int .i64 v))) := Lib.hid (fun v hv => HT7.out.next 1 hj2s hgb v hv)
                  go_wp2_with fail
                  go_roundg (s.size - (j + 1 + 1))
                  case measure => omega
                  case rel => exact ⟨j + 1 + 1, L ++ [u[0]], by omega, hj2s, rfl, by simp; omega, Lib.hid (HT8.out _ (by omega)), HX2⟩
                | false =>
                  have hno : ∀ h : 0 < u.size, ¬ (u[0] = 34 ∨ u[0] = 92) := fun h e => e.elim (fun e => of_decide_eq_false hb1 ⟨h, e⟩) (fun e => of_decide_eq_false hb2 ⟨h, e⟩)
                  clear hb1 hb2
                  go_wp2_with fail
                  refine (HP1.out _).mono ?_
                  rintro e w5 ⟨rfl, rfl⟩
                  go_wp2_with fail
                  refine (HP2.out _).mono ?_
                  rintro e w6 ⟨rfl, rfl⟩
                  go_upto_region 19 with fail
                  by_cases h3 : 3 ≤ u.size
                  · have d3 : decide ((3 : Int) ≤ (u.size : Int)) = true := decide_eq_true (by omega)
                    have hu0i : (0 : Int) < (u.size : Int) := by omega
                    have hu1i : (1 : Int) < (u.size : Int) := by omega
                    have hu2i : (2 : Int) < (u.size : Int) := by omega
                    have hu0n : 0 < u.size := by omega
                    have hu1n : 1 < u.size := by omega
                    have hu2n : 2 < u.size := by omega
                    replace HX : Hid (x = finT (pushL L (escS n0 (u[0] :: u[1] :: u[2] :: rem s (j + 1 + 3))))) := Lib.hid (by rw [HX.out, rem_u3 HU.out h3])
                    have HNO := Lib.hid (hno hu0n)
                    have HNB1 := Lib.hid (fun W => nibble_any u[1] W)
                    have HNB2 := Lib.hid (fun W => nibble_any u[2] W)
                    clear hno h3
                    by_cases hx : u[0] = 120
                    · have dx : ((u[0].toNat : Int) == 120) = true := by rw [hx]; rfl
                      obtain ⟨n1, hn1⟩ : ∃ n, nibS u[1] = n := ⟨_, rfl⟩
                      obtain ⟨n2, hn2⟩ : ∃ n, nibS u[2] = n := ⟨_, rfl⟩
                      cases n1 with
                      | none =>
                        have HX2 : Hid (x = .error (n0, 180)) := Lib.hid (by rw [HX.out, esc_bad _ _ _ _ _ HNO.out (.inr (.inl hn1))]; rfl)
                        rw [nibI_none hn1] at HNB1
                        clear hn1 hn2 hx
                        have HWR := Lib.hid (fun W => wrong_any j0 W)
                        go_wp2_with fail
                        refine (HNB1.out _).mono ?_
                        rintro e w7_1 ⟨rfl, rfl⟩
                        go_wp2_with fail
                        refine (HWR.out _).mono ?_
                        rintro e w8 ⟨rfl, rfl⟩
                        refine ⟨rfl, ?_⟩
                        rw [HX2.out]
                        exact ⟨HN0.out, HTN.out.grown⟩
                      | some n1 =>
                        rw [nibI_some hn1] at HNB1
                        have hn1i : (0 : Int) ≤ (n1 : Int) := by omega
                        cases n2 with
                        | none =>
                          have HX2 : Hid (x = .error (n0, 180)) := Lib.hid (by rw [HX.out, esc_bad _ _ _ _ _ HNO.out (.inr (.inr hn2))]; rfl)
                          rw [nibI_none hn2] at HNB2
                          clear hn1 hn2 hx
                          have HWR := Lib.hid (fun W => wrong_any j0 W)
                          go_wp2_with fail
                          refine (HNB1.out _).mono ?_
                          rintro e w7_1 ⟨rfl, rfl⟩
                          go_wp2_with fail
                          refine (HNB2.out _).mono ?_
                          rintro e w7_2 ⟨rfl, rfl⟩
                          go_wp2_with fail
                          refine (HWR.out _).mono ?_
                          rintro e w8 ⟨rfl, rfl⟩
                          refine ⟨rfl, ?_⟩
                          rw [HX2.out]
                          exact ⟨HN0.out, HTN.out.grown⟩
                        | some n2 =>
                          rw [nibI_some hn2] at HNB2
                          have hn2i : (0 : Int) ≤ (n2 : Int) := by omega
                          have hl1 := nib_lt hn1
                          have hl2 := nib_lt hn2
                          have HX2 : Hid (x = finT (pushL (L ++ [UInt8.ofNat (16 * n1 + n2)]) (strS n0 (rem s (j + 1 + 3))))) := Lib.hid (by rw [HX.out, hx, esc_hex _ _ _ _ _ _ hn1 hn2, pushL_push])
                          have hs1 : IntKind.i64.wrap (16 * (n1 : Int)) = 16 * (n1 : Int) := IntWalk.i64_in _ (by omega)
                          have hs2 : IntKind.i64.wrap (16 * (n1 : Int) + (n2 : Int)) = 16 * (n1 : Int) + (n2 : Int) := IntWalk.i64_in _ (by omega)
                          have hby : ((UInt8.ofNat (16 * n1 + n2)).toNat : Int) = 16 * (n1 : Int) + (n2 : Int) := by have h9 : (UInt8.ofNat (16 * n1 + n2)).toNat = (16 * n1 + n2) % 2 ^ 8 := UInt8.toNat_ofNat'; omega
                          have hs3 : IntKind.u8.wrap (16 * (n1 : Int) + (n2 : Int)) = 16 * (n1 : Int) + (n2 : Int) := by unfold IntKind.wrap; simp [IntKind.bits, IntKind.signed]; omega
                          have HBP2 : Hid (∀ W, TxtW s gp gb w (j + 1) L W → Calls Tryd.prog 43 #[.pointer (some ⟨gb, 0, none⟩), .int .u8 (16 * (n1 : Int) + (n2 : Int))] W fun e w' => e = .returned .nilIface ∧ Put w.heap.size gb L [UInt8.ofNat (16 * n1 + n2)] W e w') := Lib.hid (fun W hW => by have h9 := HBP.out (UInt8.ofNat (16 * n1 + n2)) W hW; rw [hby] at h9; exact h9)
                          clear hby
                          clear hn1 hn2
                          go_wp2_with fail
                          refine (HNB1.out _).mono ?_
                          rintro e w7_1 ⟨rfl, rfl⟩
                          go_wp2_with fail
                          refine (HNB2.out _).mono ?_
                          rintro e w7_2 ⟨rfl, rfl⟩
                          go_wp2_with fail
                          refine wp_region_still_tail 9 (by kernel_rfl) (by kernel_rfl) ?_
                          simp only [List.take_succ_cons, List.take_zero, List.drop_succ_cons, List.drop_zero]
                          repeat still_step
                          still_call (HNB1.out _)
                          repeat still_step
                          still_call (HNB2.out _)
                          repeat still_step
                          refine wpStill_nil ?_
                          change wpList _ _ _ _ _ (World.drewN _ 1)
                          go_wp2_with fail
                          refine (HBP2.out _ (HTN.out.drewN 1)).mono ?_
                          rintro e w8 ⟨rfl, hput⟩
                          have HT8 : Hid (TxtW s gp gb w (j + 1) (L ++ [UInt8.ofNat (16 * n1 + n2)]) w8) := Lib.hid ((HTN.out.drewN 1).put hgp hput)
                          clear hput
                          have c1 : w8.cell? ⟨gp, 1, none⟩ = some (.int .i64 ((j + 1 : Nat) : Int)) := HT8.out.pa.blk.cell 1
                          have z1 : w8.frozen? ⟨gp, 1, none⟩ = false := HT8.out.pa.blk.frozen 1
                          have hj4s : j + 1 + 3 ≤ s.size := by have := HUL.out; omega
                          have HT9 : Hid (∀ v : Int, v = (j + 1 + 3 : Nat) → TxtW s gp gb w (j + 1 + 3) (L ++ [UInt8.ofNat (16 * n1 + n2)]) (w8.setCell ⟨gp, 1, none⟩ (.int .i64 v))) := Lib.hid (fun v hv => HT8.out.next 3 hj4s hgb v hv)
                          go_wp2_with fail
                          go_roundg (s.size - (j + 1 + 3))
                          case measure => omega
                          case rel => exact ⟨j + 1 + 3, L ++ [UInt8.ofNat (16 * n1 + n2)], by omega, hj4s, rfl, by simp; omega, Lib.hid (HT9.out _ (by omega)), HX2⟩
                    · have dx : ((u[0].toNat : Int) == 120) = false := by rw [beq_eq_false_iff_ne]; intro e; exact hx (UInt8.toNat_inj.1 (by show u[0].toNat = 120; omega))
                      have HX2 : Hid (x = .error (n0, 180)) := Lib.hid (by rw [HX.out, esc_bad _ _ _ _ _ HNO.out (.inl hx)]; rfl)
                      clear hx
                      have HWR := Lib.hid (fun W => wrong_any j0 W)
                      go_wp2_with fail
                      refine (HWR.out _).mono ?_
                      rintro e w8 ⟨rfl, rfl⟩
                      refine ⟨rfl, ?_⟩
                      rw [HX2.out]
                      exact ⟨HN0.out, HTN.out.grown⟩
                  · have d3 : decide ((3 : Int) ≤ (u.size : Int)) = false := decide_eq_false (by omega)
                    have HX2 : Hid (x = .error (n0, 180)) := Lib.hid (by
                      rw [HX.out, esc_short _ _ ?_ (by rw [rem_len, ← HUL.out]; omega)]
                      · rfl
                      · intro d t hd
                        have hu0 : 0 < u.size := by have h9 := congrArg List.length hd; rw [rem_len, ← HUL.out, List.length_cons] at h9; omega
                        have h9 := rem_u1 HU.out hu0
                        rw [hd] at h9
                        injection h9 with h9 _
                        rw [h9]
                        exact hno hu0)
                    clear hno
                    have HWR := Lib.hid (fun W => wrong_any j0 W)
                    go_wp2_with fail
                    refine (HWR.out _).mono ?_
                    rintro e w8 ⟨rfl, rfl⟩
                    refine ⟨rfl, ?_⟩
                    rw [HX2.out]
                    exact ⟨HN0.out, HTN.out.grown⟩
            · have d92 : ((c.toNat : Int) == 92) = false := by rw [beq_eq_false_iff_ne]; intro e; exact h92 (UInt8.toNat_inj.1 (by show c.toNat = 92; omega))
              have d92n : ((c.toNat : Int) != 92) = true := by rw [bne, d92]; rfl
              have HX2 : Hid (x = finT (pushL (L ++ [c]) (strS n0 (rem s (j + 1))))) := Lib.hid (by rw [HX.out, str_one _ _ _ h34 h10 h92, pushL_push])
              go_upto_region 15 with fail
              generalize wr.setCell ⟨gp, 1, none⟩ (.int .i64 ((j : Int) + 1)) = w4 at *
              go_wp2_with fail
              refine (HBP.out c _ HTN.out).mono ?_
              rintro e w5 ⟨rfl, hput⟩
              have HT5 : Hid (TxtW s gp gb w (j + 1) (L ++ [c]) w5) := Lib.hid (HTN.out.put hgp hput)
              clear hput
              go_wp2_with fail
              go_roundg (s.size - (j + 1))
              case measure => omega
              case rel => exact ⟨j + 1, L ++ [c], by omega, hjn, rfl, by simp; omega, HT5, HX2⟩
      · obtain rfl : j = s.size := by omega
        have HX2 : Hid (x = .error (n0, 180)) := Lib.hid (by rw [HX.out, rem_nil]; rfl)
        have c0 : wr.cell? ⟨gp, 0, none⟩ = some (.string s) := HT.out.pa.blk.cell 0
        have c1 : wr.cell? ⟨gp, 1, none⟩ = some (.int .i64 s.size) := HT.out.pa.blk.cell 1
        have HWR := Lib.hid (fun W => wrong_any j0 W)
        go_upto_region 5 with fail
        go_quiet (fail)
        go_wp2_with fail
        refine (HWR.out _).mono ?_
        rintro e w8 ⟨rfl, rfl⟩
        refine ⟨rfl, ?_⟩
        rw [HX2.out]
        exact ⟨HN0.out, only_drewN HT.out.grown _⟩
end Go.Proofs.YtinmiekbhoemjaaDoor.Qry
