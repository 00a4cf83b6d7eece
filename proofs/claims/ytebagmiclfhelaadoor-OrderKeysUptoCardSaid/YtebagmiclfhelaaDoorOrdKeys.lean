/- Contract: Keys, a row of keys out of bytes. -/
import Derived.Test.YtebagmiclfhelaaDoorOrdKeysP
import Derived.Laws.EntriesVeiled
set_option linter.unusedVariables false
namespace Go.Proofs.YtebagmiclfhelaaDoor.OrdLib
open Go.RowKit Go.Lib OrdP Kit OrdRef Words Owned

theorem infoKey : (Tryd.prog.info? 35).map (fun i => (i.zero, i.size, i.bytes)) = some (some (.agg #[.int .i64 0, .int .i64 0, .string ⟨#[]⟩]), 3, 32) := by kernel_rfl

/-- A row of keys in memory of the call's own; its capacity is its length. -/
def ClipRow (w : World) (B : Nat) (v : Value) (ks : List KeyD) : Prop :=
  (ks = [] ∧ v = .slice none 0 0) ∨ ∃ g cur, v = .slice (some ⟨g, 0, none⟩) ks.length ks.length ∧ B ≤ g ∧ Blk w g 35 cur ∧ ks.length * 3 ≤ cur.size ∧ cur.toList.take (ks.length * 3) = keyCells ks
def KeysRet (w : World) (l : List UInt8) (e : Ending) (w' : World) : Prop :=
  Below w.heap.size w w' ∧ match keysF l with
    | some ks => ∃ v, e = .returned (.tuple #[v, .int .i64 0]) ∧ ClipRow w' w.heap.size v ks
    | none => e = .returned (.tuple #[.slice none 0 0, .int .i64 1])
theorem clip_own {w : World} {B B' : Nat} {v : Value} {ks : List KeyD} (h : w.ownsRow B 35 3 v ks.length (keyCells ks)) : ∃ ao cap, v = .slice ao ks.length cap ∧ ks.length ≤ cap ∧ cap ≤ maxLen ∧ (B' ≤ B → ClipRow w B' (.slice ao ks.length ks.length) ks) := by
  rcases h.2 with ⟨rfl, h0⟩ | ⟨g, cap, cur, rfl, hb, hg, hn, hm, hs, ht⟩
  · have : ks = [] := List.eq_nil_of_length_eq_zero h0
    subst this
    exact ⟨none, 0, rfl, by simp, by simp, fun _ => .inl ⟨rfl, rfl⟩⟩
  · exact ⟨_, cap, rfl, hn, hm, fun hB => .inr ⟨g, cur, rfl, by omega, hg, by rw [hs]; exact Nat.mul_le_mul_right _ hn, ht⟩⟩

set_option maxRecDepth 100000 in
theorem clip_any (ao : Option Addr) (n cap : Nat) (h : n ≤ cap) (hm : cap ≤ maxLen) (w : World) : Calls Tryd.prog 48 #[.slice ao n cap] w (fun e w' => e = .returned (.slice ao n n) ∧ w = w') := by
  unfold maxLen at hm
  go_enter Tryd.func48, Tryd.ntmps48
  go_wp2_with fail
  go_ret
  exact ⟨rfl, rfl⟩

def KeysRel (w : World) (l : List UInt8) (bs bo bn gk : Nat) (b : Value) (wr : World) : Prop :=
  ∃ (ks : List KeyD) (l' : List UInt8), gk = l'.length ∧ ks.length + l'.length ≤ l.length ∧ keysF l = (keysF l').map (fun x => ks ++ x) ∧ Boxes bs bo bn wr l' true ∧
    wr.ownsRow (w.heap.size + 3) 35 3 b ks.length (keyCells ks) ∧ Below w.heap.size w wr
theorem keys_more {w w3 : World} {l : List UInt8} {bs bo bn gk : Nat} {b : Value} (ks : List KeyD) (l' : List UInt8) (h1 : gk = l'.length) (h2 : ks.length + l'.length ≤ l.length) (h3 : keysF l = (keysF l').map (fun x => ks ++ x)) (h4 : Boxes bs bo bn w3 l' true)
    (h5 : w3.ownsRow (w.heap.size + 3) 35 3 b ks.length (keyCells ks)) (h6 : Below w.heap.size w w3) : KeysRel w l bs bo bn gk b w3 := ⟨ks, l', h1, h2, h3, h4, h5, h6⟩
theorem keys_step {l l' r : List UInt8} {ks : List KeyD} {k : KeyD} (h : keysF l = (keysF l').map (fun x => ks ++ x)) (h2 : keyOne l' = some (k, r)) : keysF l = (keysF r).map (fun x => (ks ++ [k]) ++ x) := by
  rw [h, keysF_some h2, Option.map_map]
  congr 1
  funext x; simp
theorem keys_fail {l l' : List UInt8} {ks : List KeyD} (h : keysF l = (keysF l').map (fun x => ks ++ x)) (hl : l' ≠ []) (h2 : keyOne l' = none) : keysF l = none := by
  rw [h, keysF_none hl h2]; rfl
theorem num_back (m : Nat) (h : m < 18446744073709551616) : wrap64 (((m + 9223372036854775808) % 18446744073709551616 : Nat) : Int) = (m : Int) - 9223372036854775808 := by
  unfold wrap64; omega
theorem own_set_ne {w : World} {B n m : Nat} {e t : TypeId} {v : Value} {xs : List Value} {g : Nat} (h : w.ownsRow B e m v n xs) (hg : v.ownBlock ≠ some g) (i : Nat) (u : Value) : (w.setCell ⟨g, i, none⟩ u).ownsRow B e m v n xs := own_setCell_ne h hg u

set_option maxRecDepth 100000 in
set_option maxHeartbeats 2000000 in
theorem keys_any (l : List UInt8) (hl : l.length ≤ 4194304) (w : World) :
    Calls Tryd.prog 19 #[.string (str l)] w (KeysRet w l) := by
  obtain ⟨i0, hi, hz0, hz1, hz2⟩ := info_parts infoKey
  obtain ⟨s, hs⟩ : ∃ s, str l = s := ⟨_, rfl⟩
  rw [hs]
  have HS := Lib.hid hs; clear hs
  go_enter Tryd.func19, Tryd.ntmps19
  go_wp2_with fail
  obtain ⟨W0, hW0⟩ : ∃ W : World, ((w.alloc (.cells #[.string s] 9)).alloc (.cells #[.bool true] 4)).alloc (.cells #[.func (.func 45) #[] #[.pointer (some ⟨w.heap.size, 0, none⟩), .pointer (some ⟨w.heap.size + 1, 0, none⟩)]] 74) = W := ⟨_, rfl⟩
  rw [hW0]
  have hb0 : Below w.heap.size w W0 := by rw [← hW0]; exact (((Below.refl _ w).alloc (Nat.le_refl _) _).alloc (by simp) _).alloc (by simp; omega) _
  have hx0 : Boxes w.heap.size (w.heap.size + 1) (w.heap.size + 1 + 1) W0 l true := by
    rw [← hW0]
    refine ⟨?_, ?_, ?_⟩
    · rw [HS.out]; exact ((Blk.new w _ _).alloc _).alloc _
    · have := (Blk.new (w.alloc (.cells #[.string s] 9)) 4 #[.bool true]).alloc (.cells #[.func (.func 45) #[] #[.pointer (some ⟨w.heap.size, 0, none⟩), .pointer (some ⟨w.heap.size + 1, 0, none⟩)]] 74)
      simpa using this
    · have := Blk.new ((w.alloc (.cells #[.string s] 9)).alloc (.cells #[.bool true] 4)) 74 #[.func (.func 45) #[] #[.pointer (some ⟨w.heap.size, 0, none⟩), .pointer (some ⟨w.heap.size + 1, 0, none⟩)]]
      simpa using this
  clear hW0
  obtain ⟨bn, hbn⟩ : ∃ bn, w.heap.size + 1 + 1 = bn := ⟨_, rfl⟩
  obtain ⟨bo, hbo⟩ : ∃ bo, w.heap.size + 1 = bo := ⟨_, rfl⟩
  obtain ⟨bs, hbs⟩ : ∃ bs, w.heap.size = bs := ⟨_, rfl⟩
  have hb3 : bs < w.heap.size + 3 ∧ bo < w.heap.size + 3 ∧ bn < w.heap.size + 3 ∧ w.heap.size ≤ bs ∧ w.heap.size ≤ bo ∧ w.heap.size + 2 ≤ bn := by omega
  have HB3 := Lib.hid hb3
  rw [hbn, hbo] at hx0
  rw [hbn, hbo]
  have e2 : Boxes bs bo bn W0 l true := by rw [← hbs]; exact hx0
  rw [hbs]
  have X0 := Lib.hid e2; have B0 := Lib.hid hb0
  clear hx0 e2 hb0 hb3 hbn hbo hbs HS
  go_loopg [4] (l.length) (fun gk b wr => KeysRel w l bs bo bn gk b wr)
  case atStart => exact ⟨[], l, rfl, by simp, by simp, X0.out, World.ownsRow_nil _ _ _ _, B0.out⟩
  case round =>
    obtain ⟨ks, l', HG, hq, hu, hx, ho, hb⟩ := hrel
    have HX := Lib.hid hx; have HU := Lib.hid hu; have HB := Lib.hid hb; have HG := Lib.hid HG
    have hsz : w.heap.size + 3 ≤ wr.heap.size := by
      have h1 := hx.s.lt; have h2 := hx.o.lt; have h3 := hx.n.lt; have h4 := HB3.out; have h5 := hx.ne; omega
    clear hx hu hb
    cases l' with
    | nil =>
      have hc : wr.cell? ⟨bs, 0, none⟩ = some (.string ⟨#[]⟩) := HX.out.s.cell 0
      obtain ⟨ao, cap, rfl, hcap, hmax, hclip⟩ := clip_own (B' := w.heap.size) ho
      have HC := Lib.hid hclip
      clear hclip ho
      go_wp2_with fail
      refine (clip_any ao ks.length cap hcap hmax _).mono ?_
      rintro e w1 ⟨rfl, rfl⟩
      go_wp2_with fail
      go_ret2
      refine ⟨HB.out, ?_⟩
      have e : keysF l = some ks := by rw [HU.out, keysF_nil]; simp
      rw [e]
      exact ⟨_, rfl, HC.out (by omega)⟩
    | cons c r =>
      obtain ⟨S, hS⟩ : ∃ S, str (c :: r) = S := ⟨_, rfl⟩
      have h3 : S.toList.isEmpty = false := by rw [← hS]; exact str_ne c r
      have hc : wr.cell? ⟨bs, 0, none⟩ = some (.string S) := by rw [← hS]; exact HX.out.s.cell 0
      have hn : wr.cell? ⟨bn, 0, none⟩ = some (.func (.func 45) #[] #[.pointer (some ⟨bs, 0, none⟩), .pointer (some ⟨bo, 0, none⟩)]) := HX.out.n.cell 0
      clear hS
      go_wp2_with fail
      refine (next_go HX.out (by simp only [List.length_cons] at hq; omega)).mono ?_
      rintro e W ⟨rfl, x1, x2⟩
      clear h3 hc hn
      have hcl := c.toNat_lt
      replace ho := own_touch ho x2 (by have := HB3.out; omega) (by have := HB3.out; omega)
      replace HB := Lib.hid (HB.out.trans (x2.to_below HB3.out.2.2.2.1 HB3.out.2.2.2.2.1 (by omega)))
      replace HX := Lib.hid x1
      replace hsz : w.heap.size + 3 ≤ W.heap.size := by have := x2.size; omega
      clear x1 x2
      have hlt : bo < W.heap.size := HX.out.o.lt
      go_upto_region 8 with fail
      obtain ⟨W1, hW1⟩ : ∃ W1 : World, W.alloc (.cells #[.int .i64 c.toNat, .int .i64 0, .string ⟨#[]⟩] 35) = W1 := ⟨_, rfl⟩
      rw [hW1]
      obtain ⟨kb, hkb⟩ : ∃ kb, W.heap.size = kb := ⟨_, rfl⟩
      have HK : Hid (Blk W1 kb 35 #[.int .i64 c.toNat, .int .i64 0, .string ⟨#[]⟩]) := Lib.hid (by rw [← hW1, ← hkb]; exact Blk.new _ _ _)
      have HSZ : Hid (w.heap.size + 3 ≤ W1.heap.size ∧ w.heap.size + 3 ≤ kb) := Lib.hid (by rw [← hW1, ← hkb]; simp; omega)
      replace HB : Hid (Below w.heap.size w W1) := Lib.hid (by rw [← hW1]; exact HB.out.alloc (by omega) _)
      replace HX : Hid (Boxes bs bo bn W1 r true) := Lib.hid (by rw [← hW1]; exact ⟨HX.out.s.alloc _, HX.out.o.alloc _, HX.out.n.alloc _⟩)
      have hoW := ho
      replace ho : W1.ownsRow (w.heap.size + 3) 35 3 u4 ks.length (keyCells ks) := by rw [← hW1]; exact ho.alloc _
      have HOK : Hid (∀ g, Value.ownBlock u4 = some g → g ≠ kb) := Lib.hid (fun g e h => by
        have h2 : W.ownsRow (w.heap.size + 3) 35 3 u4 ks.length (keyCells ks) := hoW
        have := (h2.lt g e).2; omega)
      rw [hkb]
      clear hW1 hkb hlt hsz hoW
      by_cases h0 : c = 0
      · have b0 : ((c.toNat : Int) == 0) = true := by rw [beq_iff_eq, h0]; rfl
        have HV : Hid ((c.toNat : Int) = 0) := Lib.hid (by rw [h0]; rfl)
        have HN : Hid (keyOne (c :: r) = some (⟨(c.toNat : Int), 0, ⟨#[]⟩⟩, r)) := Lib.hid (by rw [HV.out, h0]; rfl)
        clear h0
        have e0 : W1.cell? ⟨kb, 0, none⟩ = some (.int .i64 (c.toNat : Int)) := HK.out.cell 0
        go_upto_region 15 with fail
        clear e0
        have k0 : W1.cell? ⟨kb, 0, none⟩ = some (.int .i64 (c.toNat : Int)) := HK.out.cell 0
        have k1 : W1.cell? ⟨kb, 1, none⟩ = some (.int .i64 (0)) := HK.out.cell 1
        have k2 : W1.cell? ⟨kb, 2, none⟩ = some (.string (⟨#[]⟩)) := HK.out.cell 2
        have oW : W1.cell? ⟨bo, 0, none⟩ = some (.bool true) := HX.out.o.cell 0
        have hB2 : w.heap.size + 3 ≤ W1.heap.size := by have := HSZ.out; omega
        clear HK
        go_wp2_with (at_builtin; refine wpList_append_own _ rfl (.tmp 36) (.tmp 38) 42 rfl (w.heap.size + 3) 35 i0 (.agg #[.int .i64 0, .int .i64 0, .string ⟨#[]⟩]) 3 32 Tryd.underlying42 hi hz0 hz1 hz2 rfl (by decide) _ ks.length (keyCells ks) rfl (ho.alloc _) ⟨W1.heap.size, 0, none⟩ 1 1 [.int .i64 (c.toNat : Int), .int .i64 (0), .string (⟨#[]⟩)] rfl rfl ?c1 ?c2 ?c3 ?c4 ?c5 ?_)
        case c1 => intro j u hu; exact cells_new _ _ _ j u hu
        case c2 => intro u hu; simp at hu; rcases hu with rfl | rfl | rfl <;> rfl
        case c3 => unfold maxLen; simp only [List.length_cons] at hq; omega
        case c4 => simp only [List.length_cons] at hq; omega
        case c5 => simp; omega
        intro v1 w3 hown1 hg _
        have hbw : Below (w.heap.size + 3) W1 w3 := ((Below.refl _ W1).alloc hB2 _).grown hg (by simp; omega) (fun r e => (ho.lt r e).1)
        have hL3 := HB3.out
        have G1 : Hid (w3.ownsRow (w.heap.size + 3) 35 3 v1 (ks ++ [(⟨(c.toNat : Int), 0, ⟨#[]⟩⟩ : KeyD)]).length (keyCells (ks ++ [(⟨(c.toNat : Int), 0, ⟨#[]⟩⟩ : KeyD)]))) := Lib.hid (by rw [keyCells_append, List.length_append]; exact hown1)
        have G2 := Lib.hid (HB.out.trans (hbw.mono (by omega)))
        have G3 : Hid (Boxes bs bo bn w3 r true) := Lib.hid ⟨HX.out.s.below hbw (by omega), HX.out.o.below hbw (by omega), HX.out.n.below hbw (by omega)⟩
        clear hown1 hg hbw ho hB2 hL3 k0 k1 k2 oW
        go_wp2_with fail
        go_roundg (r.length)
        case rel => exact keys_more (ks ++ [(⟨(c.toNat : Int), 0, ⟨#[]⟩⟩ : KeyD)]) r rfl (by simp only [List.length_append, List.length_cons, List.length_nil] at hq ⊢; omega) (keys_step HU.out HN.out) G3.out G1.out G2.out
        case measure => have := HG.out; simp only [List.length_cons] at this; omega
      by_cases h1 : c = 1
      · have b0 : ((c.toNat : Int) == 0) = false := by rw [beq_eq_false_iff_ne, h1]; decide
        have b1 : ((c.toNat : Int) == 1) = true := by rw [beq_iff_eq, h1]; rfl
        have HV : Hid ((c.toNat : Int) = 1) := Lib.hid (by rw [h1]; rfl)
        have HC := Lib.hid h1
        clear h0 h1
        have e0 : W1.cell? ⟨kb, 0, none⟩ = some (.int .i64 (c.toNat : Int)) := HK.out.cell 0
        go_wp2_with fail
        refine (number_any HX.out (by simp only [List.length_cons] at hq; omega)).mono ?_
        rintro e W2 ⟨n, rfl, x1, x2, hv⟩
        have HVN := Lib.hid hv
        clear hv e0
        have hkb2 := HSZ.out
        replace HK := Lib.hid (x2.blk HK.out (by have := HB3.out; omega) (by have := HB3.out; omega))
        replace ho := own_touch ho x2 (by have := HB3.out; omega) (by have := HB3.out; omega)
        replace HB := Lib.hid (HB.out.trans (x2.to_below HB3.out.2.2.2.1 HB3.out.2.2.2.2.1 (by omega)))
        replace HX := Lib.hid x1
        replace HSZ : Hid (w.heap.size + 3 ≤ W2.heap.size ∧ w.heap.size + 3 ≤ kb) := Lib.hid (by have := x2.size; omega)
        clear x1 x2 hkb2
        have e1 : W2.cell? ⟨kb, 1, none⟩ = some (.int .i64 0) := HK.out.cell 1
        have e2 : W2.frozen? ⟨kb, 1, none⟩ = false := HK.out.frozen 1
        go_upto_region 15 with fail
        have hk3 := HK.out.set_ 1 (.int .i64 (wrap64 n))
        have hx3 : Boxes bs bo bn (W2.setCell ⟨kb, 1, none⟩ (.int .i64 (wrap64 n))) (r.drop 8) (decide (8 ≤ r.length)) := ⟨HX.out.s.far (p := ⟨kb, 1, none⟩) (by have := HB3.out; have := HSZ.out; show bs ≠ kb; omega) _, HX.out.o.far (p := ⟨kb, 1, none⟩) (by have := HB3.out; have := HSZ.out; show bo ≠ kb; omega) _, HX.out.n.far (p := ⟨kb, 1, none⟩) (by have := HB3.out; have := HSZ.out; show bn ≠ kb; omega) _⟩
        have hb3 : Below w.heap.size w (W2.setCell ⟨kb, 1, none⟩ (.int .i64 (wrap64 n))) := HB.out.setCell (p := ⟨kb, 1, none⟩) (by have := HSZ.out; show w.heap.size ≤ kb; omega) _
        replace ho := own_setCell_ne (a := ⟨kb, 1, none⟩) ho (fun e => HOK.out kb e rfl) (.int .i64 (wrap64 n))
        have hz3 : w.heap.size + 3 ≤ (W2.setCell ⟨kb, 1, none⟩ (.int .i64 (wrap64 n))).heap.size := by have := HSZ.out.1; simpa [World.setCell] using this
        clear e1 e2
        generalize W2.setCell ⟨kb, 1, none⟩ (.int .i64 (wrap64 n)) = W3 at *
        replace HK : Hid (Blk W3 kb 35 #[.int .i64 c.toNat, .int .i64 (wrap64 n), .string ⟨#[]⟩]) := Lib.hid hk3
        replace HX := Lib.hid hx3; replace HB := Lib.hid hb3
        replace HSZ : Hid (w.heap.size + 3 ≤ W3.heap.size) := Lib.hid hz3
        clear hk3 hx3 hb3 hz3 HOK
        by_cases h8 : 8 ≤ r.length
        · have hv := HVN.out h8
          have hlt8 := valB_lt 8 (r.take 8) (by rw [List.length_take]; omega)
          have hi64 : wrap64 n = (valB (r.take 8) : Int) - 9223372036854775808 := by rw [hv]; exact num_back _ (by omega)
          rw [hi64] at HK ⊢
          obtain ⟨nm, hnm⟩ : ∃ nm : Int, (valB (r.take 8) : Int) - 9223372036854775808 = nm := ⟨_, rfl⟩
          have HN : Hid (keyOne (c :: r) = some (⟨(c.toNat : Int), nm, ⟨#[]⟩⟩, r.drop 8)) := Lib.hid (by rw [HV.out, HC.out, keyOne_1 h8, hnm])
          have hd8 : decide (8 ≤ r.length) = true := by rw [decide_eq_true_eq]; exact h8
          rw [hd8] at HX
          rw [hnm] at HK ⊢
          have HL8 : Hid (8 ≤ r.length) := Lib.hid h8
          clear hv hlt8 hi64 hnm hd8 h8 HVN
          have k0 : W3.cell? ⟨kb, 0, none⟩ = some (.int .i64 (c.toNat : Int)) := HK.out.cell 0
          have k1 : W3.cell? ⟨kb, 1, none⟩ = some (.int .i64 nm) := HK.out.cell 1
          have k2 : W3.cell? ⟨kb, 2, none⟩ = some (.string (⟨#[]⟩)) := HK.out.cell 2
          have oW : W3.cell? ⟨bo, 0, none⟩ = some (.bool true) := HX.out.o.cell 0
          have hB2 : w.heap.size + 3 ≤ W3.heap.size := by have := HSZ.out; omega
          clear HK
          go_wp2_with (at_builtin; refine wpList_append_own _ rfl (.tmp 36) (.tmp 38) 42 rfl (w.heap.size + 3) 35 i0 (.agg #[.int .i64 0, .int .i64 0, .string ⟨#[]⟩]) 3 32 Tryd.underlying42 hi hz0 hz1 hz2 rfl (by decide) _ ks.length (keyCells ks) rfl (ho.alloc _) ⟨W3.heap.size, 0, none⟩ 1 1 [.int .i64 (c.toNat : Int), .int .i64 nm, .string (⟨#[]⟩)] rfl rfl ?c1 ?c2 ?c3 ?c4 ?c5 ?_)
          case c1 => intro j u hu; exact cells_new _ _ _ j u hu
          case c2 => intro u hu; simp at hu; rcases hu with rfl | rfl | rfl <;> rfl
          case c3 => unfold maxLen; simp only [List.length_cons] at hq; omega
          case c4 => simp only [List.length_cons] at hq; omega
          case c5 => simp; omega
          intro v1 w3 hown1 hg _
          have hbw : Below (w.heap.size + 3) W3 w3 := ((Below.refl _ W3).alloc hB2 _).grown hg (by simp; omega) (fun r e => (ho.lt r e).1)
          have hL3 := HB3.out
          have G1 : Hid (w3.ownsRow (w.heap.size + 3) 35 3 v1 (ks ++ [(⟨(c.toNat : Int), nm, ⟨#[]⟩⟩ : KeyD)]).length (keyCells (ks ++ [(⟨(c.toNat : Int), nm, ⟨#[]⟩⟩ : KeyD)]))) := Lib.hid (by rw [keyCells_append, List.length_append]; exact hown1)
          have G2 := Lib.hid (HB.out.trans (hbw.mono (by omega)))
          have G3 : Hid (Boxes bs bo bn w3 (r.drop 8) true) := Lib.hid ⟨HX.out.s.below hbw (by omega), HX.out.o.below hbw (by omega), HX.out.n.below hbw (by omega)⟩
          clear hown1 hg hbw ho hB2 hL3 k0 k1 k2 oW
          go_wp2_with fail
          go_roundg ((r.drop 8).length)
          case rel => exact keys_more (ks ++ [(⟨(c.toNat : Int), nm, ⟨#[]⟩⟩ : KeyD)]) (r.drop 8) rfl (by simp only [List.length_append, List.length_cons, List.length_nil, List.length_drop] at hq ⊢; omega) (keys_step HU.out HN.out) G3.out G1.out G2.out
          case measure => have := HG.out; simp only [List.length_cons] at this; simp only [List.length_drop]; omega
        · have HN : Hid (keysF l = none) := Lib.hid (keys_fail HU.out (by simp) (by rw [HC.out]; exact keyOne_1f h8))
          have hd8 : decide (8 ≤ r.length) = false := by rw [decide_eq_false_iff_not]; exact h8
          rw [hd8] at HX
          clear hd8 h8 HVN
          have oW : W3.cell? ⟨bo, 0, none⟩ = some (.bool false) := HX.out.o.cell 0
          go_wp2_with fail
          go_ret2
          refine ⟨HB.out, ?_⟩
          rw [HN.out]
          exact rfl
      by_cases h2 : c = 2
      · have b0 : ((c.toNat : Int) == 0) = false := by rw [beq_eq_false_iff_ne, h2]; decide
        have b1 : ((c.toNat : Int) == 1) = false := by rw [beq_eq_false_iff_ne, h2]; decide
        have b2 : ((c.toNat : Int) == 2) = true := by rw [beq_iff_eq, h2]; rfl
        have HV : Hid ((c.toNat : Int) = 2) := Lib.hid (by rw [h2]; rfl)
        have HC := Lib.hid h2
        clear h0 h1 h2
        have e0 : W1.cell? ⟨kb, 0, none⟩ = some (.int .i64 (c.toNat : Int)) := HK.out.cell 0
        go_wp2_with fail
        refine (textK_any HX.out (by simp only [List.length_cons] at hq; omega)).mono ?_
        rintro e W2 ⟨x2, x1⟩
        clear e0
        have hkb2 := HSZ.out
        replace HK := Lib.hid (x2.blk HK.out (by have := HB3.out; omega) (by have := HB3.out; omega))
        replace ho := own_touch ho x2 (by have := HB3.out; omega) (by have := HB3.out; omega)
        replace HB := Lib.hid (HB.out.trans (x2.to_below HB3.out.2.2.2.1 HB3.out.2.2.2.2.1 (by omega)))
        replace HSZ : Hid (w.heap.size + 3 ≤ W2.heap.size ∧ w.heap.size + 3 ≤ kb) := Lib.hid (by have := x2.size; omega)
        clear x2 hkb2 HX
        have e1 : W2.cell? ⟨kb, 2, none⟩ = some (.string ⟨#[]⟩) := HK.out.cell 2
        have e2 : W2.frozen? ⟨kb, 2, none⟩ = false := HK.out.frozen 2
        cases hue : unesc r with
        | none =>
          rw [hue] at x1
          obtain ⟨rfl, r2, x1, _⟩ := x1
          have HX := Lib.hid x1
          have HN : Hid (keysF l = none) := Lib.hid (keys_fail HU.out (by simp) (by rw [HC.out, keyOne_2, hue]; rfl))
          clear x1 hue
          go_upto_region 15 with fail
          have hk3 := HK.out.set_ 2 (.string ⟨#[]⟩)
          have hx3 : Boxes bs bo bn (W2.setCell ⟨kb, 2, none⟩ (.string ⟨#[]⟩)) r2 false := ⟨HX.out.s.far (p := ⟨kb, 2, none⟩) (by have := HB3.out; have := HSZ.out; show bs ≠ kb; omega) _, HX.out.o.far (p := ⟨kb, 2, none⟩) (by have := HB3.out; have := HSZ.out; show bo ≠ kb; omega) _, HX.out.n.far (p := ⟨kb, 2, none⟩) (by have := HB3.out; have := HSZ.out; show bn ≠ kb; omega) _⟩
          have hb3 : Below w.heap.size w (W2.setCell ⟨kb, 2, none⟩ (.string ⟨#[]⟩)) := HB.out.setCell (p := ⟨kb, 2, none⟩) (by have := HSZ.out; show w.heap.size ≤ kb; omega) _
          replace ho := own_setCell_ne (a := ⟨kb, 2, none⟩) ho (fun e => HOK.out kb e rfl) (.string ⟨#[]⟩)
          have hz3 : w.heap.size + 3 ≤ (W2.setCell ⟨kb, 2, none⟩ (.string ⟨#[]⟩)).heap.size := by have := HSZ.out.1; simpa [World.setCell] using this
          clear e1 e2
          generalize W2.setCell ⟨kb, 2, none⟩ (.string ⟨#[]⟩) = W3 at *
          replace HK : Hid (Blk W3 kb 35 #[.int .i64 c.toNat, .int .i64 0, .string ⟨#[]⟩]) := Lib.hid hk3
          replace HX := Lib.hid hx3; replace HB := Lib.hid hb3
          replace HSZ : Hid (w.heap.size + 3 ≤ W3.heap.size) := Lib.hid hz3
          clear hk3 hx3 hb3 hz3 HOK
          have oW : W3.cell? ⟨bo, 0, none⟩ = some (.bool false) := HX.out.o.cell 0
          go_wp2_with fail
          go_ret2
          refine ⟨HB.out, ?_⟩
          rw [HN.out]
          exact rfl
        | some tr =>
          obtain ⟨t, r2⟩ := tr
          rw [hue] at x1
          obtain ⟨rfl, x1⟩ := x1
          obtain ⟨T, hT⟩ : ∃ T, str t = T := ⟨_, rfl⟩
          have HX := Lib.hid x1
          have HN : Hid (keyOne (c :: r) = some (⟨(c.toNat : Int), 0, T⟩, r2)) := Lib.hid (by rw [HV.out, HC.out, keyOne_2, hue, ← hT]; rfl)
          have HLR : Hid (r2.length < r.length) := Lib.hid (unesc_shorter r.length r t r2 (Nat.le_refl _) hue).1
          rw [hT]
          clear x1 hue hT
          go_upto_region 15 with fail
          have hk3 := HK.out.set_ 2 (.string T)
          have hx3 : Boxes bs bo bn (W2.setCell ⟨kb, 2, none⟩ (.string T)) r2 true := ⟨HX.out.s.far (p := ⟨kb, 2, none⟩) (by have := HB3.out; have := HSZ.out; show bs ≠ kb; omega) _, HX.out.o.far (p := ⟨kb, 2, none⟩) (by have := HB3.out; have := HSZ.out; show bo ≠ kb; omega) _, HX.out.n.far (p := ⟨kb, 2, none⟩) (by have := HB3.out; have := HSZ.out; show bn ≠ kb; omega) _⟩
          have hb3 : Below w.heap.size w (W2.setCell ⟨kb, 2, none⟩ (.string T)) := HB.out.setCell (p := ⟨kb, 2, none⟩) (by have := HSZ.out; show w.heap.size ≤ kb; omega) _
          replace ho := own_setCell_ne (a := ⟨kb, 2, none⟩) ho (fun e => HOK.out kb e rfl) (.string T)
          have hz3 : w.heap.size + 3 ≤ (W2.setCell ⟨kb, 2, none⟩ (.string T)).heap.size := by have := HSZ.out.1; simpa [World.setCell] using this
          clear e1 e2
          generalize W2.setCell ⟨kb, 2, none⟩ (.string T) = W3 at *
          replace HK : Hid (Blk W3 kb 35 #[.int .i64 c.toNat, .int .i64 0, .string T]) := Lib.hid hk3
          replace HX := Lib.hid hx3; replace HB := Lib.hid hb3
          replace HSZ : Hid (w.heap.size + 3 ≤ W3.heap.size) := Lib.hid hz3
          clear hk3 hx3 hb3 hz3 HOK
          have k0 : W3.cell? ⟨kb, 0, none⟩ = some (.int .i64 (c.toNat : Int)) := HK.out.cell 0
          have k1 : W3.cell? ⟨kb, 1, none⟩ = some (.int .i64 (0)) := HK.out.cell 1
          have k2 : W3.cell? ⟨kb, 2, none⟩ = some (.string T) := HK.out.cell 2
          have oW : W3.cell? ⟨bo, 0, none⟩ = some (.bool true) := HX.out.o.cell 0
          have hB2 : w.heap.size + 3 ≤ W3.heap.size := by have := HSZ.out; omega
          clear HK
          go_wp2_with (at_builtin; refine wpList_append_own _ rfl (.tmp 36) (.tmp 38) 42 rfl (w.heap.size + 3) 35 i0 (.agg #[.int .i64 0, .int .i64 0, .string ⟨#[]⟩]) 3 32 Tryd.underlying42 hi hz0 hz1 hz2 rfl (by decide) _ ks.length (keyCells ks) rfl (ho.alloc _) ⟨W3.heap.size, 0, none⟩ 1 1 [.int .i64 (c.toNat : Int), .int .i64 (0), .string T] rfl rfl ?c1 ?c2 ?c3 ?c4 ?c5 ?_)
          case c1 => intro j u hu; exact cells_new _ _ _ j u hu
          case c2 => intro u hu; simp at hu; rcases hu with rfl | rfl | rfl <;> rfl
          case c3 => unfold maxLen; simp only [List.length_cons] at hq; omega
          case c4 => simp only [List.length_cons] at hq; omega
          case c5 => simp; omega
          intro v1 w3 hown1 hg _
          have hbw : Below (w.heap.size + 3) W3 w3 := ((Below.refl _ W3).alloc hB2 _).grown hg (by simp; omega) (fun r e => (ho.lt r e).1)
          have hL3 := HB3.out
          have G1 : Hid (w3.ownsRow (w.heap.size + 3) 35 3 v1 (ks ++ [(⟨(c.toNat : Int), 0, T⟩ : KeyD)]).length (keyCells (ks ++ [(⟨(c.toNat : Int), 0, T⟩ : KeyD)]))) := Lib.hid (by rw [keyCells_append, List.length_append]; exact hown1)
          have G2 := Lib.hid (HB.out.trans (hbw.mono (by omega)))
          have G3 : Hid (Boxes bs bo bn w3 r2 true) := Lib.hid ⟨HX.out.s.below hbw (by omega), HX.out.o.below hbw (by omega), HX.out.n.below hbw (by omega)⟩
          clear hown1 hg hbw ho hB2 hL3 k0 k1 k2 oW
          go_wp2_with fail
          go_roundg (r2.length)
          case rel => exact keys_more (ks ++ [(⟨(c.toNat : Int), 0, T⟩ : KeyD)]) r2 rfl (by have := HLR.out; simp only [List.length_append, List.length_cons, List.length_nil] at hq ⊢; omega) (keys_step HU.out HN.out) G3.out G1.out G2.out
          case measure => have := HG.out; have := HLR.out; simp only [List.length_cons] at *; omega
      · have b0 : ((c.toNat : Int) == 0) = false := by rw [beq_eq_false_iff_ne]; intro h; exact h0 (UInt8.toNat_inj.1 (by rw [show (0 : UInt8).toNat = 0 from rfl]; omega))
        have b1 : ((c.toNat : Int) == 1) = false := by rw [beq_eq_false_iff_ne]; intro h; exact h1 (UInt8.toNat_inj.1 (by rw [show (1 : UInt8).toNat = 1 from rfl]; omega))
        have b2 : ((c.toNat : Int) == 2) = false := by rw [beq_eq_false_iff_ne]; intro h; exact h2 (UInt8.toNat_inj.1 (by rw [show (2 : UInt8).toNat = 2 from rfl]; omega))
        have HN : Hid (keysF l = none) := Lib.hid (keys_fail HU.out (by simp) (keyOne_x h0 h1 h2 r))
        clear h0 h1 h2
        have e0 : W1.cell? ⟨kb, 0, none⟩ = some (.int .i64 (c.toNat : Int)) := HK.out.cell 0
        have oW : W1.cell? ⟨bo, 0, none⟩ = some (.bool true) := HX.out.o.cell 0
        have oF : W1.frozen? ⟨bo, 0, none⟩ = false := HX.out.o.frozen 0
        go_upto_region 15 with fail
        have hx3 := HX.out.stop
        have hb3 := HB.out.setCell (p := ⟨bo, 0, none⟩) (show w.heap.size ≤ bo from HB3.out.2.2.2.2.1) (.bool false)
        clear e0 oW oF HX HB ho
        generalize W1.setCell ⟨bo, 0, none⟩ (.bool false) = W3 at *
        have HX := Lib.hid hx3; have HB := Lib.hid hb3
        clear hx3 hb3
        have oW : W3.cell? ⟨bo, 0, none⟩ = some (.bool false) := HX.out.o.cell 0
        go_wp2_with fail
        go_ret2
        refine ⟨HB.out, ?_⟩
        rw [HN.out]
        exact rfl
end Go.Proofs.YtebagmiclfhelaaDoor.OrdLib
