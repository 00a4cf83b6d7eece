/- Contracts: the document's row of keys out of bytes; keys kept (printed by gen_ref4.py). -/
import Derived.Test.YtebagmiclfhelaaDoorOrdRef3
set_option linter.unusedVariables false
namespace Go.Proofs.YtebagmiclfhelaaDoor.OrdLib
open Go.RowKit Go.Lib OrdP Kit OrdRef Words Owned

theorem reads_init {w : World} {B n : Nat} {A : Option Addr} {ks : List KeyD} {k : KeyD} (h : Reads w B 3 A (n + 1) (keyCells (ks ++ [k]))) (hn : n = ks.length) : Reads w B 3 A n (keyCells ks) := by
  subst hn
  refine ⟨keyCells_length ks, fun _ => ?_⟩
  obtain ⟨ad, ha, hb, hc⟩ := h.2 (by omega)
  refine ⟨ad, ha, hb, fun j u hu => hc j u ?_⟩
  rw [keyCells_append, List.getElem?_append_left (List.getElem?_eq_some_iff.1 hu).1]
  exact hu
theorem add_zero_at (g j : Nat) : (⟨g, 0, none⟩ : Addr).add j = ⟨g, j, none⟩ := by unfold Addr.add; split <;> simp_all
set_option maxRecDepth 100000 in
theorem kept_any (g cap : Nat) (ao : Option Addr) (c : Nat) (ks : List KeyD) (w : World) (hcap : ks.length < cap) (hmax : cap ≤ maxLen) (hg : Reads w w.heap.size 3 (some ⟨g, 0, none⟩) (ks.length + 1) (keyCells (ks ++ [⟨71, 0, ⟨#[]⟩⟩]))) (ha : Reads w w.heap.size 3 ao ks.length (keyCells ks)) (hl : ks.length ≤ 4194304) :
    Calls Tryd.prog 29 #[.slice (some ⟨g, 0, none⟩) ks.length cap, .slice ao ks.length c] w (BoolB true w) := by
  unfold maxLen at hmax
  have HC := Lib.hid (keysEq_any (some ⟨g, 0, none⟩) ao cap c ks ks w (reads_init hg rfl) ha hl hl true (by simp))
  obtain ⟨ad, h1, hb, h2, _, _⟩ := reads_key (k := ks.length) hg (by simp)
  obtain rfl := Option.some.inj h1
  rw [add_zero_at] at h2
  have hm : (ks ++ [⟨71, 0, ⟨#[]⟩⟩])[ks.length]'(by simp) = (⟨71, 0, ⟨#[]⟩⟩ : KeyD) := by simp
  rw [hm] at h2
  have hb' : g < w.heap.size := hb
  have HX := Lib.hid h2
  clear hg ha h1 h2 hm hb
  go_enter Tryd.func29, Tryd.ntmps29
  go_wp2_with fail
  refine HC.out.mono ?_
  rintro e w2 ⟨rfl, hb2⟩
  have hx : w2.cell? ⟨g, ks.length * 3, none⟩ = some (.int .i64 71) := (hb2.cell (p := ⟨g, ks.length * 3, none⟩) hb').trans HX.out
  have HB2 := Lib.hid hb2
  clear hb2 HX
  go_wp2_with fail
  go_ret
  exact ⟨ret_bool (by simp), HB2.out⟩

theorem xor_m (m : Nat) (hm : m < 18446744073709551616) : bits BinOp.xor IntKind.u64 (m : Int) 9223372036854775808 = (((m + 9223372036854775808) % 18446744073709551616 : Nat) : Int) := by
  have h := bits_xor_u64_nat m 9223372036854775808 hm (by omega)
  rw [xor_top m hm] at h
  exact h
/-- A row of keys in memory of the call's own. -/
def RefKeysRet (w : World) (l : List UInt8) (e : Ending) (w' : World) : Prop :=
  Below w.heap.size w w' ∧ match keysF l with
    | some ks => ∃ ao cap, e = .returned (.tuple #[.slice ao ks.length cap, .int .i64 0]) ∧ Reads w' w'.heap.size 3 ao ks.length (keyCells ks) ∧ (∀ ad, ao = some ad → w.heap.size ≤ ad.block)
    | none => e = .returned (.tuple #[.slice none 0 0, .int .i64 1])
theorem own3_slice {w : World} {B n : Nat} {v : Value} {e : TypeId} {xs : List Value} (h : w.ownsRow B e 3 v n xs) : ∃ ao cap, v = .slice ao n cap := by
  rcases h.2 with ⟨rfl, h0⟩ | ⟨g, cap, cur, rfl, _⟩
  · exact ⟨none, 0, by rw [h0]⟩
  · exact ⟨_, _, rfl⟩
theorem own_key {w : World} {B n : Nat} {v : Value} {ks : List KeyD} (h : w.ownsRow B 35 3 v n (keyCells ks)) (hn : n = ks.length) : ∃ ao cap, v = .slice ao ks.length cap ∧ Reads w w.heap.size 3 ao ks.length (keyCells ks) ∧ (∀ ad, ao = some ad → B ≤ ad.block) := by
  subst hn
  obtain ⟨ao, cap, rfl⟩ := own3_slice h
  exact ⟨ao, cap, rfl, Reads.of_own h, fun ad e => by subst e; exact (h.lt ad.block rfl).1⟩

set_option maxRecDepth 100000 in
set_option maxHeartbeats 4000000 in
theorem refKeys_any (S : ByteArray) (hl : S.size ≤ 4194304) (w : World) :
    Calls Tryd.prog 25 #[.string S] w (RefKeysRet w S.data.toList) := by
  obtain ⟨i0, hi, hz0, hz1, hz2⟩ := info_parts infoKey
  obtain ⟨j0, ji, jz0, jz1, jz2⟩ := info_parts infoU8
  have HLEN : Hid (S.data.toList.length = S.size) := Lib.hid (by simp)
  go_enter Tryd.func25, Tryd.ntmps25
  go_wp2_with fail
  go_loopg [4, 5] (S.size) (fun gk o i wr => ∃ (p : Nat) (ks : List KeyD), gk + p = S.size ∧ ks.length ≤ p ∧ i = .int .i64 p ∧ Hid (keysF S.data.toList = (keysF (S.data.toList.drop p)).map (fun x => ks ++ x)) ∧
      Hid (wr.ownsRow w.heap.size 35 3 o ks.length (keyCells ks)) ∧ Hid (Below w.heap.size w wr))
  case atStart => exact ⟨0, [], rfl, by simp, rfl, Lib.hid (by simp), Lib.hid (World.ownsRow_nil _ _ _ _), Lib.hid (Below.refl _ _)⟩
  case round =>
    obtain ⟨p, ks, hg, hkp, rfl, HU, HO, HB⟩ := hrel
    by_cases hlt : p < S.size
    · have hd := drop_get S p hlt
      have hrl : (S.data.toList.drop (p + 1)).length = S.size - (p + 1) := by rw [List.length_drop, HLEN.out]
      rw [hd] at HU
      have hcl := S[p].toNat_lt
      obtain ⟨r, hr⟩ : ∃ r, S.data.toList.drop (p + 1) = r := ⟨_, rfl⟩
      rw [hr] at HU hrl
      have HR := Lib.hid hr; have HRL := Lib.hid hrl
      clear hd hr hrl
      go_upto_region 7 with fail
      obtain ⟨W1, hW1⟩ : ∃ W1 : World, wr.alloc (.cells #[.int .i64 S[p].toNat, .int .i64 0, .string ⟨#[]⟩] 35) = W1 := ⟨_, rfl⟩
      rw [hW1]
      obtain ⟨kb, hkb⟩ : ∃ kb, wr.heap.size = kb := ⟨_, rfl⟩
      have HK : Hid (Blk W1 kb 35 #[.int .i64 S[p].toNat, .int .i64 0, .string ⟨#[]⟩]) := Lib.hid (by rw [← hW1, ← hkb]; exact Blk.new _ _ _)
      have HSZ : Hid (w.heap.size ≤ W1.heap.size ∧ w.heap.size ≤ kb) := Lib.hid (by rw [← hW1, ← hkb]; have := HB.out.size; simp; omega)
      replace HB : Hid (Below w.heap.size w W1) := Lib.hid (by rw [← hW1]; exact HB.out.alloc HB.out.size _)
      have HOK : Hid (∀ g, Value.ownBlock u4 = some g → g ≠ kb) := Lib.hid (fun g e h => by
        have := (HO.out.lt g e).2; omega)
      have ho : W1.ownsRow w.heap.size 35 3 u4 ks.length (keyCells ks) := by rw [← hW1]; exact HO.out.alloc _
      rw [hkb]
      clear hW1 hkb HO
      obtain ⟨cv, hcv⟩ : ∃ cv : Int, (S[p].toNat : Int) = cv := ⟨_, rfl⟩
      have HCV := Lib.hid hcv
      rw [hcv] at HK ⊢
      have e0 : W1.cell? ⟨kb, 0, none⟩ = some (.int .i64 cv) := HK.out.cell 0
      have hcases : (cv = 0 ∧ S[p] = 0) ∨ (cv = 1 ∧ S[p] = 1) ∨ (cv = 2 ∧ S[p] = 2) ∨ (2 < cv ∧ keyOne (S[p] :: r) = none) := by
        have h4 : S[p].toNat = 0 ∨ S[p].toNat = 1 ∨ S[p].toNat = 2 ∨ 2 < S[p].toNat := by omega
        rcases h4 with h | h | h | h
        · exact .inl ⟨by omega, UInt8.toNat_inj.1 h⟩
        · exact .inr (.inl ⟨by omega, UInt8.toNat_inj.1 h⟩)
        · exact .inr (.inr (.inl ⟨by omega, UInt8.toNat_inj.1 h⟩))
        · refine .inr (.inr (.inr ⟨by omega, keyOne_x (fun e => ?_) (fun e => ?_) (fun e => ?_) r⟩))
          · rw [e] at h; exact absurd h (by decide)
          · rw [e] at h; exact absurd h (by decide)
          · rw [e] at h; exact absurd h (by decide)
      clear hcv hcl
      rcases hcases with ⟨rfl, h0⟩ | ⟨rfl, h0⟩ | ⟨rfl, h0⟩ | ⟨h0, h1⟩
      · have HN : Hid (keyOne (S[p] :: r) = some (⟨0, 0, ⟨#[]⟩⟩, r)) := Lib.hid (by rw [h0, keyOne_0])
        clear h0
        go_upto_region 33 with fail
        clear e0
        have k0 : W1.cell? ⟨kb, 0, none⟩ = some (.int .i64 0) := HK.out.cell 0
        have k1 : W1.cell? ⟨kb, 1, none⟩ = some (.int .i64 0) := HK.out.cell 1
        have k2 : W1.cell? ⟨kb, 2, none⟩ = some (.string ⟨#[]⟩) := HK.out.cell 2
        have hB2 : w.heap.size ≤ W1.heap.size := HB.out.size
        go_wp2_with (at_builtin; refine wpList_append_own _ rfl (.tmp 117) (.tmp 119) 42 rfl w.heap.size 35 i0 (.agg #[.int .i64 0, .int .i64 0, .string ⟨#[]⟩]) 3 32 Tryd.underlying42 hi hz0 hz1 hz2 rfl (by decide) _ ks.length (keyCells ks) rfl (ho.alloc _) ⟨W1.heap.size, 0, none⟩ 1 1 [.int .i64 0, .int .i64 0, .string ⟨#[]⟩] rfl rfl ?c1a ?c2a ?c3a ?c4a ?c5a ?_)
        try (case c1a => intro j u hu; exact cells_new _ _ _ j u hu)
        case c2a => first | exact ⟨rfl, rfl, rfl⟩ | (intro u hu; simp at hu; rcases hu with rfl | rfl | rfl <;> rfl)
        case c3a => first | omega | (unfold maxLen; omega)
        case c4a => omega
        case c5a => first | omega | (simp; omega)
        intro v1 w3 hown1 hgr _
        have hbw : Below w.heap.size W1 w3 := ((Below.refl _ W1).alloc hB2 _).grown hgr (by simp; omega) (fun r e => (ho.lt r e).1)
        have G1 : Hid (w3.ownsRow w.heap.size 35 3 v1 (ks ++ [(⟨0, 0, ⟨#[]⟩⟩ : KeyD)]).length (keyCells (ks ++ [(⟨0, 0, ⟨#[]⟩⟩ : KeyD)]))) := Lib.hid (by rw [keyCells_append, List.length_append]; exact hown1)
        have G2 := Lib.hid (HB.out.trans hbw)
        clear hown1 hgr hbw ho hB2 k0 k1 k2
        go_wp2_with fail
        go_roundg (S.size - (p + 1))
        case rel => exact ⟨(p + 1), ks ++ [(⟨0, 0, ⟨#[]⟩⟩ : KeyD)], by omega, by simp; omega, by first | rfl | go_num, Lib.hid (by rw [HR.out]; exact keys_step HU.out HN.out), G1, G2⟩
        case measure => omega
      · by_cases h8 : 8 ≤ r.length
        · have hr8 : p + 1 + 8 ≤ S.size := by have := HRL.out; omega
          have hlt8 := valB_lt 8 (r.take 8) (by rw [List.length_take]; omega)
          have HN : Hid (keyOne (S[p] :: r) = some (⟨1, (valB (r.take 8) : Int) - 9223372036854775808, ⟨#[]⟩⟩, r.drop 8)) := Lib.hid (by rw [h0, keyOne_1 h8])
          have HG : Hid (∀ k (h : p + 1 + k < S.size), r[k]? = some S[p + 1 + k]) := Lib.hid (fun k h => by
            rw [← HR.out, List.getElem?_drop, List.getElem?_eq_getElem (by have := HLEN.out; omega)]; rfl)
          have HL8 := Lib.hid h8; have HLT8 := Lib.hid hlt8
          clear h0 h8 hlt8
          go_wp2_with fail
          go_loop [7, 8] (fun u i => ∃ (k : Nat) (n : Int), k ≤ 8 ∧ i = .int .i64 k ∧ u = .int .u64 n ∧ Hid (n = valB (r.take k))) (fun _ i => 8 - (intOf i).toNat)
          case atStart => exact ⟨0, 0, by omega, rfl, rfl, Lib.hid rfl⟩
          case round =>
            obtain ⟨k, n, hk, rfl, rfl, HV⟩ := hrel
            by_cases hk8 : k < 8
            · have hix : p + 1 + k < S.size := by omega
              go_wp2_with fail
              refine ⟨⟨k + 1, _, by omega, by go_num, rfl, Lib.hid ?_⟩, by simp [intOf]; omega⟩
              have hlt := valB_lt 7 (r.take k) (by rw [List.length_take]; omega)
              have hget := HG.out k hix
              have h7 : k < r.length := (List.getElem?_eq_some_iff.1 hget).1
              have hget2 : r[k] = S[p + 1 + k] := (List.getElem?_eq_some_iff.1 hget).2
              rw [HV.out, shl_or _ _ (by omega), List.take_succ_eq_append_getElem h7, valB_snoc, hget2]
            · obtain rfl : k = 8 := by omega
              obtain rfl := HV.out
              have hlt8 := HLT8.out
              obtain ⟨m, hm⟩ : ∃ m, valB (r.take 8) = m := ⟨_, rfl⟩
              rw [hm] at HN hlt8 ⊢
              have hx := xor_m m (by omega)
              have hnb := num_back m (by omega)
              obtain ⟨z, hz⟩ : ∃ z : Int, (((m + 9223372036854775808) % 18446744073709551616 : Nat) : Int) = z := ⟨_, rfl⟩
              rw [hz] at hx hnb
              obtain ⟨nm, hnm⟩ : ∃ nm : Int, (m : Int) - 9223372036854775808 = nm := ⟨_, rfl⟩
              rw [hnm] at hnb HN
              have e1 : W1.cell? ⟨kb, 1, none⟩ = some (.int .i64 0) := HK.out.cell 1
              have e2 : W1.frozen? ⟨kb, 1, none⟩ = false := HK.out.frozen 1
              clear hm hlt8 hz hnm HV HLT8
              go_upto_region 19 with fail
              have hk3 := HK.out.set_ 1 (.int .i64 nm)
              have hb3 : Below w.heap.size w (W1.setCell ⟨kb, 1, none⟩ (.int .i64 nm)) := HB.out.setCell (p := ⟨kb, 1, none⟩) (by have := HSZ.out; show w.heap.size ≤ kb; omega) _
              replace ho := own_setCell_ne (a := ⟨kb, 1, none⟩) ho (fun e => HOK.out kb e rfl) (.int .i64 nm)
              have e0' : (W1.setCell ⟨kb, 1, none⟩ (.int .i64 nm)).cell? ⟨kb, 0, none⟩ = some (.int .i64 1) := hk3.cell 0
              clear e0 e1 e2 hx hnb
              generalize W1.setCell ⟨kb, 1, none⟩ (.int .i64 nm) = W3 at *
              replace HK : Hid (Blk W3 kb 35 #[.int .i64 1, .int .i64 nm, .string ⟨#[]⟩]) := Lib.hid hk3
              replace HB := Lib.hid hb3
              clear hk3 hb3 HOK HSZ
              go_upto_region 33 with fail
              clear e0'
              have k0 : W3.cell? ⟨kb, 0, none⟩ = some (.int .i64 1) := HK.out.cell 0
              have k1 : W3.cell? ⟨kb, 1, none⟩ = some (.int .i64 nm) := HK.out.cell 1
              have k2 : W3.cell? ⟨kb, 2, none⟩ = some (.string ⟨#[]⟩) := HK.out.cell 2
              have hB2 : w.heap.size ≤ W3.heap.size := HB.out.size
              go_wp2_with (at_builtin; refine wpList_append_own _ rfl (.tmp 117) (.tmp 119) 42 rfl w.heap.size 35 i0 (.agg #[.int .i64 0, .int .i64 0, .string ⟨#[]⟩]) 3 32 Tryd.underlying42 hi hz0 hz1 hz2 rfl (by decide) _ ks.length (keyCells ks) rfl (ho.alloc _) ⟨W3.heap.size, 0, none⟩ 1 1 [.int .i64 1, .int .i64 nm, .string ⟨#[]⟩] rfl rfl ?c1b ?c2b ?c3b ?c4b ?c5b ?_)
              try (case c1b => intro j u hu; exact cells_new _ _ _ j u hu)
              case c2b => first | exact ⟨rfl, rfl, rfl⟩ | (intro u hu; simp at hu; rcases hu with rfl | rfl | rfl <;> rfl)
              case c3b => first | omega | (unfold maxLen; omega)
              case c4b => omega
              case c5b => first | omega | (simp; omega)
              intro v1 w3 hown1 hgr _
              have hbw : Below w.heap.size W3 w3 := ((Below.refl _ W3).alloc hB2 _).grown hgr (by simp; omega) (fun r e => (ho.lt r e).1)
              have G1 : Hid (w3.ownsRow w.heap.size 35 3 v1 (ks ++ [(⟨1, nm, ⟨#[]⟩⟩ : KeyD)]).length (keyCells (ks ++ [(⟨1, nm, ⟨#[]⟩⟩ : KeyD)]))) := Lib.hid (by rw [keyCells_append, List.length_append]; exact hown1)
              have G2 := Lib.hid (HB.out.trans hbw)
              clear hown1 hgr hbw ho hB2 k0 k1 k2
              go_wp2_with fail
              go_roundg (S.size - (p + 1 + 8))
              case rel => exact ⟨(p + 1 + 8), ks ++ [(⟨1, nm, ⟨#[]⟩⟩ : KeyD)], by omega, by simp; omega, by first | rfl | go_num, Lib.hid (by have h := keys_step HU.out HN.out; rw [← HR.out, List.drop_drop] at h; exact h), G1, G2⟩
              case measure => omega
        · have HN : Hid (keysF S.data.toList = none) := Lib.hid (keys_fail HU.out (by simp) (by rw [h0]; exact keyOne_1f h8))
          have hr8 : S.size < p + 1 + 8 := by have := HRL.out; omega
          clear h0 h8
          go_wp2_with fail
          go_ret2
          refine ⟨HB.out, ?_⟩
          rw [HN.out]
          exact rfl
      · have HN : Hid (keyOne (S[p] :: r) = (unesc r).map (fun x => (⟨2, 0, str x.1⟩, x.2))) := Lib.hid (by rw [h0, keyOne_2])
        have HFN : Hid (unesc r = none → keysF S.data.toList = none) := Lib.hid (fun h => keys_fail HU.out (by simp) (by rw [HN.out, h]; rfl))
        clear h0
        go_wp2_with fail
        go_loopw [5, 9] (fun a b wr => ∃ (k : Nat) (q : List UInt8), p + 1 ≤ k ∧ k ≤ S.size ∧ a = .int .i64 k ∧ q.length ≤ k ∧ Hid (unesc r = (unesc (S.data.toList.drop k)).map (fun x => (q ++ x.1, x.2))) ∧
            Hid (wr.ownsRow W1.heap.size 5 1 b q.length (byteCells q)) ∧ Hid (Below W1.heap.size W1 wr)) (fun a _ _ => S.size - (RowKit.intOf a).toNat)
        case atStart => exact ⟨p + 1, [], Nat.le_refl _, by omega, by first | rfl | go_num, by simp, Lib.hid (by rw [HR.out]; simp), Lib.hid (World.ownsRow_nil _ _ _ _), Lib.hid (Below.refl _ _)⟩
        case round =>
          obtain ⟨k, q, hk1, hk2, rfl, hql, HQ, HOQ, HB2⟩ := hrel
          have hq := HOQ.out
          have hb2 := HB2.out
          by_cases hks : k < S.size
          · have hd := drop_get S k hks
            have HQ1 := HQ.out
            rw [hd] at HQ1
            by_cases hc0 : S[k] = 0
            · have b0 : ((S[k].toNat : Int) == 0) = true := by rw [hc0]; rfl
              by_cases hks2 : k + 1 < S.size
              · have hd2 := drop_get S (k + 1) hks2
                rw [hc0, hd2] at HQ1
                by_cases hd1 : S[k + 1] = 1
                · have b1 : ((S[k + 1].toNat : Int) == 1) = true := by rw [hd1]; rfl
                  have HE : Hid (unesc r = some (q, S.data.toList.drop (k + 1 + 1))) := Lib.hid (by rw [HQ1, hd1, unesc_end]; simp)
                  clear hd hd2 hc0 hd1 HQ1
                  have hcv := run_convert_own (P := Tryd.prog) wr 66 9 5 Tryd.underlying66 Tryd.underlying5 Tryd.underlying9 rfl hq
                  obtain ⟨T, hT⟩ : ∃ T, str q = T := ⟨_, rfl⟩
                  rw [hT] at hcv
                  have HN2 : Hid (keyOne (S[p] :: r) = some (⟨2, 0, T⟩, S.data.toList.drop (k + 1 + 1))) := Lib.hid (by rw [HN.out, HE.out, ← hT]; rfl)
                  have hkbl : kb < W1.heap.size := HK.out.lt
                  have HK2 : Hid (Blk wr kb 35 #[.int .i64 2, .int .i64 0, .string ⟨#[]⟩]) := Lib.hid (HK.out.below hb2 hkbl)
                  have e3 : wr.cell? ⟨kb, 0, none⟩ = some (.int .i64 2) := HK2.out.cell 0
                  have e1 : wr.cell? ⟨kb, 2, none⟩ = some (.string ⟨#[]⟩) := HK2.out.cell 2
                  have e2 : wr.frozen? ⟨kb, 2, none⟩ = false := HK2.out.frozen 2
                  have ho1 := own_below ho hb2
                  have HB3 : Hid (Below w.heap.size w wr) := Lib.hid (HB.out.trans (hb2.mono HB.out.size))
                  clear e0 hT hq hb2 hkbl ho
                  go_upto_region 33 with fail
                  have hk3 := HK2.out.set_ 2 (.string T)
                  have hb3 : Below w.heap.size w (wr.setCell ⟨kb, 2, none⟩ (.string T)) := HB3.out.setCell (p := ⟨kb, 2, none⟩) (by have := HSZ.out; show w.heap.size ≤ kb; omega) _
                  have ho := own_setCell_ne (a := ⟨kb, 2, none⟩) ho1 (fun e => HOK.out kb e rfl) (.string T)
                  clear e1 e2 e3 hcv ho1 HB HK
                  generalize wr.setCell ⟨kb, 2, none⟩ (.string T) = W3 at *
                  have HK : Hid (Blk W3 kb 35 #[.int .i64 2, .int .i64 0, .string T]) := Lib.hid hk3
                  have HB := Lib.hid hb3
                  clear hk3 hb3
                  have k0 : W3.cell? ⟨kb, 0, none⟩ = some (.int .i64 2) := HK.out.cell 0
                  have k1 : W3.cell? ⟨kb, 1, none⟩ = some (.int .i64 0) := HK.out.cell 1
                  have k2 : W3.cell? ⟨kb, 2, none⟩ = some (.string T) := HK.out.cell 2
                  have hB2 : w.heap.size ≤ W3.heap.size := HB.out.size
                  go_wp2_with (at_builtin; refine wpList_append_own _ rfl (.tmp 117) (.tmp 119) 42 rfl w.heap.size 35 i0 (.agg #[.int .i64 0, .int .i64 0, .string ⟨#[]⟩]) 3 32 Tryd.underlying42 hi hz0 hz1 hz2 rfl (by decide) _ ks.length (keyCells ks) rfl (ho.alloc _) ⟨W3.heap.size, 0, none⟩ 1 1 [.int .i64 2, .int .i64 0, .string T] rfl rfl ?c1c ?c2c ?c3c ?c4c ?c5c ?_)
                  try (case c1c => intro j u hu; exact cells_new _ _ _ j u hu)
                  case c2c => first | exact ⟨rfl, rfl, rfl⟩ | (intro u hu; simp at hu; rcases hu with rfl | rfl | rfl <;> rfl)
                  case c3c => first | omega | (unfold maxLen; omega)
                  case c4c => omega
                  case c5c => first | omega | (simp; omega)
                  intro v1 w3 hown1 hgr _
                  have hbw : Below w.heap.size W3 w3 := ((Below.refl _ W3).alloc hB2 _).grown hgr (by simp; omega) (fun r e => (ho.lt r e).1)
                  have G1 : Hid (w3.ownsRow w.heap.size 35 3 v1 (ks ++ [(⟨2, 0, T⟩ : KeyD)]).length (keyCells (ks ++ [(⟨2, 0, T⟩ : KeyD)]))) := Lib.hid (by rw [keyCells_append, List.length_append]; exact hown1)
                  have G2 := Lib.hid (HB.out.trans hbw)
                  clear hown1 hgr hbw ho hB2 k0 k1 k2
                  go_wp2_with fail
                  go_roundg (S.size - (k + 1 + 1))
                  case rel => exact ⟨(k + 1 + 1), ks ++ [(⟨2, 0, T⟩ : KeyD)], by omega, by simp; omega, by first | rfl | go_num, Lib.hid (by exact keys_step HU.out HN2.out), G1, G2⟩
                  case measure => omega
                · have b1 : ((S[k + 1].toNat : Int) == 1) = false := by rw [beq_eq_false_iff_ne]; intro h; exact hd1 (UInt8.toNat_inj.1 (by rw [show (1 : UInt8).toNat = 1 from rfl]; omega))
                  by_cases hd5 : S[k + 1] = 255
                  · have b2 : ((S[k + 1].toNat : Int) != 255) = false := by rw [hd5]; rfl
                    have HE : Hid (unesc r = (unesc (S.data.toList.drop (k + 1 + 1))).map (fun x => ((q ++ [0]) ++ x.1, x.2))) := Lib.hid (by
                      rw [HQ1, hd5, unesc_255, Option.map_map]
                      congr 1
                      funext x; simp)
                    clear hd hd2 hc0 hd1 hd5 HQ1
                    go_wp2_with (at_builtin; refine wpList_append_own _ rfl (.tmp 97) (.tmp 98) 66 rfl W1.heap.size 5 j0 (.int .u8 0) 1 1 Tryd.underlying66 ji jz0 jz1 jz2 rfl (by decide) _ (q).length (byteCells (q)) rfl (hq.alloc _) ⟨wr.heap.size, 0, none⟩ 1 1 [.int .u8 0] rfl rfl ?c1d ?c2d ?c3d ?c4d ?c5d ?_)
                    case c1d => exact cell_one_new _ _ _
                    case c2d => intro u hu; simp at hu; subst hu; rfl
                    case c3d => unfold maxLen; omega
                    case c4d => omega
                    case c5d => have := hb2.size; simp; omega
                    intro xv xw xo xg _
                    have xb : Below W1.heap.size W1 xw := (hb2.alloc (by have := hb2.size; omega) _).grown xg (by have := hb2.size; simp; omega) (fun r e => (hq.lt r e).1)
                    have G1 : Hid (xw.ownsRow W1.heap.size 5 1 xv (q ++ [0]).length (byteCells (q ++ [0]))) := Lib.hid (by rw [byteCells_append, List.length_append]; exact xo)
                    have G2 := Lib.hid xb
                    clear xo xg xb hq hb2
                    go_wp2_with fail
                    go_roundw
                    case rel => exact ⟨k + 1 + 1, q ++ [0], by omega, by omega, by first | rfl | go_num, by simp; omega, HE, G1, G2⟩
                    case measure => simp [RowKit.intOf]; omega
                  · have b2 : ((S[k + 1].toNat : Int) != 255) = true := by rw [bne_iff_ne]; intro h; exact hd5 (UInt8.toNat_inj.1 (by rw [show (255 : UInt8).toNat = 255 from rfl]; omega))
                    have HF : Hid (keysF S.data.toList = none) := Lib.hid (HFN.out (by rw [HQ1, unesc_bad hd1 hd5]; rfl))
                    clear hd hd2 hc0 hd1 hd5 HQ1
                    have HBW : Hid (Below w.heap.size w wr) := Lib.hid (HB.out.trans (HB2.out.mono HB.out.size))
                    clear hq hb2
                    go_wp2_with fail
                    go_ret2
                    refine ⟨HBW.out, ?_⟩
                    rw [HF.out]
                    exact rfl
              · have hks3 : S.size ≤ k + 1 := by omega
                have HF : Hid (keysF S.data.toList = none) := Lib.hid (HFN.out (by
                  rw [HQ1, hc0, show S.data.toList.drop (k + 1) = [] from List.drop_eq_nil_of_le (by have := HLEN.out; omega), unesc_zero]; rfl))
                clear hd hc0 HQ1
                have HBW : Hid (Below w.heap.size w wr) := Lib.hid (HB.out.trans (HB2.out.mono HB.out.size))
                clear hq hb2
                go_wp2_with fail
                go_ret2
                refine ⟨HBW.out, ?_⟩
                rw [HF.out]
                exact rfl
            · have b0 : ((S[k].toNat : Int) == 0) = false := by rw [beq_eq_false_iff_ne]; intro h; exact hc0 (UInt8.toNat_inj.1 (by rw [show (0 : UInt8).toNat = 0 from rfl]; omega))
              have HE : Hid (unesc r = (unesc (S.data.toList.drop (k + 1))).map (fun x => ((q ++ [S[k]]) ++ x.1, x.2))) := Lib.hid (by
                rw [HQ1, unesc_c hc0, Option.map_map]
                congr 1
                funext x; simp)
              clear hd hc0 HQ1
              go_wp2_with (at_builtin; refine wpList_append_own _ rfl (.tmp 100) (.tmp 104) 66 rfl W1.heap.size 5 j0 (.int .u8 0) 1 1 Tryd.underlying66 ji jz0 jz1 jz2 rfl (by decide) _ (q).length (byteCells (q)) rfl (hq.alloc _) ⟨wr.heap.size, 0, none⟩ 1 1 [.int .u8 (S[k].toNat : Int)] rfl rfl ?c1e ?c2e ?c3e ?c4e ?c5e ?_)
              case c1e => exact cell_one_new _ _ _
              case c2e => intro u hu; simp at hu; subst hu; rfl
              case c3e => unfold maxLen; omega
              case c4e => omega
              case c5e => have := hb2.size; simp; omega
              intro xv xw xo xg _
              have xb : Below W1.heap.size W1 xw := (hb2.alloc (by have := hb2.size; omega) _).grown xg (by have := hb2.size; simp; omega) (fun r e => (hq.lt r e).1)
              have G1 : Hid (xw.ownsRow W1.heap.size 5 1 xv (q ++ [S[k]]).length (byteCells (q ++ [S[k]]))) := Lib.hid (by rw [byteCells_append, List.length_append]; exact xo)
              have G2 := Lib.hid xb
              clear xo xg xb hq hb2
              go_wp2_with fail
              go_roundw
              case rel => exact ⟨k + 1, q ++ [S[k]], by omega, by omega, by first | rfl | go_num, by simp; omega, HE, G1, G2⟩
              case measure => simp [RowKit.intOf]; omega
          · obtain rfl : k = S.size := by omega
            have HF : Hid (keysF S.data.toList = none) := Lib.hid (HFN.out (by
              have := HQ.out
              rw [show S.data.toList.drop S.size = [] from List.drop_eq_nil_of_le (by have := HLEN.out; omega)] at this
              rw [this]; rfl))
            have HBW : Hid (Below w.heap.size w wr) := Lib.hid (HB.out.trans (HB2.out.mono HB.out.size))
            clear hq hb2
            go_wp2_with fail
            go_ret2
            refine ⟨HBW.out, ?_⟩
            rw [HF.out]
            exact rfl
      · have HN : Hid (keysF S.data.toList = none) := Lib.hid (keys_fail HU.out (by simp) h1)
        clear h1
        go_wp2_with fail
        go_ret2
        refine ⟨HB.out, ?_⟩
        rw [HN.out]
        exact rfl
    · obtain rfl : p = S.size := by omega
      have HE : Hid (keysF S.data.toList = some ks) := Lib.hid (by
        rw [HU.out, show S.data.toList.drop S.size = [] from List.drop_eq_nil_of_le (by have := HLEN.out; omega), keysF_nil]; simp)
      obtain ⟨ao, cap, rfl, hrd⟩ := own_key HO.out rfl
      have HRD := Lib.hid hrd
      clear hrd HO
      go_wp2_with fail
      go_ret2
      refine ⟨HB.out, ?_⟩
      rw [HE.out]
      exact ⟨ao, cap, rfl, HRD.out⟩
end Go.Proofs.YtebagmiclfhelaaDoor.OrdLib
