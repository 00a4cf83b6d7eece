/- The walk of OrderKeys. -/
import Derived.Test.YtebagmiclfhelaaDoorOrdAwake2
import Derived.Test.YtebagmiclfhelaaDoorOrdApp
import Derived.Deep.RegionHeld3
set_option linter.unusedVariables false
namespace Go.Proofs.YtebagmiclfhelaaDoor.OrderKeysWalk
open Go.RowKit Go.Lib OrdP Kit OrdRef OrdLib Words Owned

def ksOf (l : List UInt8) : List KeyD := (keysF l).getD []
def kerr (l : List UInt8) : Int := if (keysF l).isSome then 0 else 1
theorem keysF_len : ∀ (n : Nat) (l : List UInt8) (ks : List KeyD), l.length ≤ n → keysF l = some ks → ks.length ≤ l.length
  | 0, l, ks, hn, h => by
    have : l = [] := List.eq_nil_of_length_eq_zero (by omega)
    subst this
    rw [keysF_nil] at h
    cases h; simp
  | n + 1, l, ks, hn, h => by
    cases l with
    | nil => rw [keysF_nil] at h; cases h; simp
    | cons c r =>
      cases hk : keyOne (c :: r) with
      | none => rw [keysF_none (by simp) hk] at h; cases h
      | some x =>
        obtain ⟨k, r2⟩ := x
        have hs := keyOne_shorter hk
        rw [keysF_some hk, Option.map_eq_some_iff] at h
        obtain ⟨t, ht, rfl⟩ := h
        have := keysF_len n r2 t (by omega) ht
        simp at hs ⊢; omega
theorem ksOf_len (l : List UInt8) : (ksOf l).length ≤ l.length := by
  unfold ksOf
  cases h : keysF l with
  | none => simp
  | some ks => exact keysF_len l.length l ks (Nat.le_refl _) h
def KeysU (l : List UInt8) (w : World) (e : Ending) (w' : World) : Prop :=
  ∃ lo, e = .returned (.tuple #[.slice lo (ksOf l).length (ksOf l).length, .int .i64 (kerr l)]) ∧ ClipRow w' w.heap.size (.slice lo (ksOf l).length (ksOf l).length) (ksOf l) ∧ Below w.heap.size w w'
theorem keysU_any (S : ByteArray) (hl : S.size ≤ 4194304) (w : World) : Calls Tryd.prog 19 #[.string S] w (KeysU S.data.toList w) := by
  have h := keys_any S.data.toList (by simp; exact hl) w
  rw [str_data] at h
  refine h.mono ?_
  rintro e w2 ⟨hb, h2⟩
  unfold KeysU ksOf kerr
  cases hk : keysF S.data.toList with
  | none =>
    rw [hk] at h2
    exact ⟨none, h2, .inl ⟨rfl, rfl⟩, hb⟩
  | some ks =>
    rw [hk] at h2
    obtain ⟨v, rfl, hv⟩ := h2
    rcases hv with ⟨rfl, rfl⟩ | ⟨g, cur, rfl, h3⟩
    · exact ⟨none, rfl, .inl ⟨rfl, rfl⟩, hb⟩
    · exact ⟨_, rfl, .inr ⟨g, cur, rfl, h3⟩, hb⟩
def RefKeysU (l : List UInt8) (w : World) (e : Ending) (w' : World) : Prop :=
  ∃ ao cap, e = .returned (.tuple #[.slice ao (ksOf l).length cap, .int .i64 (kerr l)]) ∧ Reads w' w'.heap.size 3 ao (ksOf l).length (keyCells (ksOf l)) ∧ (∀ ad, ao = some ad → w.heap.size ≤ ad.block) ∧ Below w.heap.size w w'
theorem refKeysU_any (S : ByteArray) (hl : S.size ≤ 4194304) (w : World) : Calls Tryd.prog 25 #[.string S] w (RefKeysU S.data.toList w) := by
  refine (refKeys_any S hl w).mono ?_
  rintro e w2 ⟨hb, h2⟩
  unfold RefKeysU ksOf kerr
  cases hk : keysF S.data.toList with
  | none =>
    rw [hk] at h2
    exact ⟨none, 0, h2, Reads.none_, (fun _ h => by cases h), hb⟩
  | some ks =>
    rw [hk] at h2
    obtain ⟨ao, cap, rfl, hr, hq⟩ := h2
    exact ⟨ao, cap, rfl, hr, hq, hb⟩
theorem clip_reads2 {w : World} {B : Nat} {lo : Option Addr} {ks : List KeyD} (h : ClipRow w B (.slice lo ks.length ks.length) ks) : Reads w w.heap.size 3 lo ks.length (keyCells ks) := by
  rcases h with ⟨rfl, hv⟩ | ⟨g, cur, hv, hB, hg, hs, ht⟩
  · injection hv with h1 _ _; subst h1; exact Reads.none_
  · injection hv with h1 _ _
    subst h1
    refine ⟨keyCells_length ks, fun _ => ⟨_, rfl, hg.lt, fun j u hu => ?_⟩⟩
    have hj : j < ks.length * 3 := by rw [← keyCells_length]; exact (List.getElem?_eq_some_iff.1 hu).1
    rw [add_zero_at, hg.cell, ← hu, ← ht, List.getElem?_take_of_lt hj, Array.getElem?_toList]
theorem clip_below {w w' : World} {B : Nat} {v : Value} {ks : List KeyD} (h : ClipRow w B v ks) (hb : Below w.heap.size w w') : ClipRow w' B v ks := by
  rcases h with h0 | ⟨g, cur, hv, hB, hg, hr⟩
  · exact .inl h0
  · exact .inr ⟨g, cur, hv, hB, hg.below hb hg.lt, hr⟩
theorem clip_lt {w : World} {B n : Nat} {lo : Option Addr} {ks : List KeyD} (h : ClipRow w B (.slice lo n n) ks) : ∀ ad, lo = some ad → B ≤ ad.block ∧ ad.block < w.heap.size := by
  rintro ad rfl
  rcases h with ⟨_, hv⟩ | ⟨g, cur, hv, hB, hg, _⟩
  · injection hv with h1 _ _; cases h1
  · injection hv with h1 _ _
    obtain rfl := Option.some.inj h1
    exact ⟨hB, hg.lt⟩
theorem text_le : ∀ (ks : List KeyD) (k : KeyD), k ∈ ks → k.text.size ≤ sumT ks
  | [], _, h => by cases h
  | a :: l, k, h => by
    rw [sumT]
    rcases List.mem_cons.1 h with rfl | h
    · omega
    · have := text_le l k h; omega
theorem reads_on {w w' : World} {m n : Nat} {ao : Option Addr} {xs : List Value} (h : Reads w w.heap.size m ao n xs) (hb : Below w.heap.size w w') : Reads w' w'.heap.size m ao n xs := (h.below hb).more hb.size

set_option maxRecDepth 100000 in
set_option maxHeartbeats 8000000 in
theorem walk (ao bo : Option Addr) (c d : Nat) (xs ys : List KeyD) (S : ByteArray) (w : World) (ha : Reads w w.heap.size 3 ao xs.length (keyCells xs)) (hb : Reads w w.heap.size 3 bo ys.length (keyCells ys)) (hxs : 4 * xs.length + sumT xs ≤ 1048576) (hys : 4 * ys.length + sumT ys ≤ 1048576) (hS : S.size ≤ 1048576) (hT : OTabs w) :
    Calls Tryd.prog 7 #[.slice ao xs.length c, .slice bo ys.length d, .string S] w (BoolB true w) := by
  obtain ⟨i0, hi, hz0, hz1, hz2⟩ := info_parts infoKey
  have hzx : xs.length ≤ 1048576 := by omega
  have hzy : ys.length ≤ 1048576 := by omega
  have HTX : Hid (sumT xs ≤ 4194304 ∧ (∀ k ∈ xs, k.text.size ≤ 4194304)) := Lib.hid ⟨by omega, fun k h => by have := text_le xs k h; omega⟩
  have HTY : Hid (sumT ys ≤ 4194304 ∧ (∀ k ∈ ys, k.text.size ≤ 4194304)) := Lib.hid ⟨by omega, fun k h => by have := text_le ys k h; omega⟩
  have CK : Hid (∀ W, Calls Tryd.prog 19 #[.string S] W (KeysU S.data.toList W)) := Lib.hid (fun W => keysU_any S (by omega) W)
  have CR : Hid (∀ W, Calls Tryd.prog 25 #[.string S] W (RefKeysU S.data.toList W)) := Lib.hid (fun W => refKeysU_any S (by omega) W)
  have hkl : (ksOf S.data.toList).length ≤ 1048576 := by have := ksOf_len S.data.toList; have e : S.data.toList.length = S.size := (by simp); omega
  obtain ⟨kz, hkz⟩ : ∃ kz, ksOf S.data.toList = kz := ⟨_, rfl⟩
  obtain ⟨ke, hke⟩ : ∃ ke, kerr S.data.toList = ke := ⟨_, rfl⟩
  unfold KeysU at CK
  unfold RefKeysU at CR
  rw [hkz, hke] at CK CR
  rw [hkz] at hkl
  have HA := Lib.hid ha; have HB := Lib.hid hb; have HT := Lib.hid hT
  clear ha hb hxs hys hkz hke hT hS
  go_enter Tryd.func7, Tryd.ntmps7
  go_wp2_with fail
  refine (lent_any ao c xs w HA.out (by omega)).mono ?_
  rintro e w1 ⟨xv, rfl, ⟨gx, cx, rfl, hx1, hx2, hx3, hx4⟩, b⟩
  have B1 := Lib.hid b
  have X1 := Lib.hid hx4; have LX := Lib.hid (And.intro hx1 hx2)
  clear b hx1 hx2 hx3 hx4
  go_wp2_with fail
  refine (lent_any bo d ys w1 (reads_on HB.out B1.out) (by omega)).mono ?_
  rintro e w2 ⟨yv, rfl, ⟨gy, cy, rfl, hy1, hy2, hy3, hy4⟩, b⟩
  have B2 := Lib.hid (B1.out.trans (b.mono B1.out.size))
  have X2 := Lib.hid (reads_on X1.out b); have Y2 := Lib.hid hy4; have LY := Lib.hid (And.intro hy1 hy2)
  have A2 := Lib.hid (reads_on HA.out B2.out); have E2 := Lib.hid (reads_on HB.out B2.out); have T2 := Lib.hid (HT.out.next B2.out)
  clear b hy1 hy2 hy3 hy4 X1 HA HB
  obtain ⟨P, hP⟩ : ∃ P : ByteArray, (if xs.all rightF then str (rowB xs) else ⟨#[]⟩) = P := ⟨_, rfl⟩
  obtain ⟨pe, hpe⟩ : ∃ pe : Int, (if xs.all rightF then (0 : Int) else 1) = pe := ⟨_, rfl⟩
  have hret : ∀ e W W', BytesRet xs W e W' → e = .returned (.tuple #[.string P, .int .i64 pe]) ∧ Below W.heap.size W W' := by
    rintro e W W' ⟨h1, h2⟩
    refine ⟨?_, h2⟩
    rw [← hP, ← hpe]
    cases hr : xs.all rightF with
    | true => rw [hr, if_pos rfl] at h1; rw [h1]; rfl
    | false => rw [hr, if_neg (by decide)] at h1; rw [h1]; rfl
  have HRT := Lib.hid hret
  clear hP hpe hret
  go_wp2_with fail
  refine ((bytes_any (some ⟨gx, 0, none⟩) cx xs w2 (reads_init X2.out rfl) HTX.out.1 (by omega)).mono (fun e W' h => HRT.out e w2 W' h)).mono ?_
  rintro e w3 ⟨rfl, b⟩
  have B3 := Lib.hid b; clear b
  go_wp2_with fail
  refine ((refBytes_any ao c xs w3 (reads_on A2.out B3.out) HTX.out.1 (by omega) HTX.out.2).mono (fun e W' h => HRT.out e w3 W' h)).mono ?_
  rintro e w4 ⟨rfl, b⟩
  have B4 := Lib.hid (B3.out.trans (b.mono B3.out.size)); clear b
  go_wp2_with fail
  refine (CK.out w4).mono ?_
  rintro e w5 ⟨lo, rfl, hlo, b⟩
  have B5 := Lib.hid (B4.out.trans (b.mono B4.out.size)); have L5 := Lib.hid hlo; clear b hlo
  go_wp2_with fail
  refine (CK.out w5).mono ?_
  rintro e w6 ⟨mo, rfl, hmo, b⟩
  have B6 := Lib.hid (B5.out.trans (b.mono B5.out.size)); have M6 := Lib.hid hmo; have L6 := Lib.hid (clip_below L5.out b); clear b hmo
  go_wp2_with fail
  refine (CR.out w6).mono ?_
  rintro e w7 ⟨no, nc, rfl, hno, hnb, b⟩
  have B7 := Lib.hid (B6.out.trans (b.mono B6.out.size)); have N7 := Lib.hid hno; have L7 := Lib.hid (clip_below L6.out b); have M7 := Lib.hid (clip_below M6.out b)
  have X7 := Lib.hid (reads_on X2.out B7.out); have Y7 := Lib.hid (reads_on Y2.out B7.out); have A7 := Lib.hid (reads_on A2.out B7.out); have E7 := Lib.hid (reads_on E2.out B7.out); have T7 := Lib.hid (T2.out.next B7.out)
  have W7 := Lib.hid (B2.out.trans (B7.out.mono B2.out.size))
  have HD : Hid (Far w lo mo no) := Lib.hid
    ⟨fun x y h1 h2 => Nat.lt_of_lt_of_le (clip_lt L5.out x h1).2 (clip_lt M6.out y h2).1, fun x y h1 h2 => Nat.lt_of_lt_of_le (clip_lt L6.out x h1).2 (hnb y h2), fun x y h1 h2 => Nat.lt_of_lt_of_le (clip_lt M6.out x h1).2 (hnb y h2),
      fun x h => Nat.le_trans (Nat.le_trans B2.out.size B4.out.size) (clip_lt L5.out x h).1, fun x h => Nat.le_trans (Nat.le_trans B2.out.size B5.out.size) (clip_lt M6.out x h).1⟩
  clear b hno hnb X2 Y2 A2 E2 T2 B1 B2 B3 B4 B5 B6 B7 L5 L6 M6 CK CR HRT
  go_wp2_with fail
  refine (rows_any (some ⟨gx, 0, none⟩) (some ⟨gy, 0, none⟩) cx cy xs ys w7 (reads_init X7.out rfl) (reads_init Y7.out rfl) (by omega) (by omega)).mono ?_
  rintro e w8 ⟨rfl, b⟩
  have B8 := Lib.hid b; clear b
  obtain ⟨R, hR⟩ : ∃ R, rowsF xs ys = R := ⟨_, rfl⟩
  have HRR := Lib.hid hR
  rw [hR]
  clear hR
  go_wp2_with fail
  have hrr := refRows_any ao bo c d xs ys w8 (reads_on A7.out B8.out) (reads_on E7.out B8.out) (by omega) (by omega) HTX.out.2 HTY.out.2
  rw [HRR.out] at hrr
  refine hrr.mono ?_
  clear hrr
  rintro e w9 ⟨rfl, b⟩
  have B9 := Lib.hid (B8.out.trans (b.mono B8.out.size)); clear b
  go_wp2_with fail
  refine (keysEq_any lo no kz.length nc kz kz w9 (reads_on (clip_reads2 L7.out) B9.out) (reads_on N7.out B9.out) (by omega) (by omega) true (by simp)).mono ?_
  rintro e w10 ⟨rfl, b⟩
  have B10 := Lib.hid (B9.out.trans (b.mono B9.out.size)); clear b
  go_wp2_with fail
  refine (keysEq_any mo no kz.length nc kz kz w10 (reads_on (clip_reads2 M7.out) B10.out) (reads_on N7.out B10.out) (by omega) (by omega) true (by simp)).mono ?_
  rintro e w11 ⟨rfl, b⟩
  have B11 := Lib.hid (B10.out.trans (b.mono B10.out.size)); clear b
  go_wp2_with fail
  refine (kept_any gx cx ao c xs w11 LX.out.1 LX.out.2 (reads_on X7.out B11.out) (reads_on A7.out B11.out) (by omega)).mono ?_
  rintro e w12 ⟨rfl, b⟩
  have B12 := Lib.hid (B11.out.trans (b.mono B11.out.size)); clear b
  go_wp2_with fail
  refine (kept_any gy cy bo d ys w12 LY.out.1 LY.out.2 (reads_on Y7.out B12.out) (reads_on E7.out B12.out) (by omega)).mono ?_
  rintro e w13 ⟨rfl, b⟩
  have B13 := Lib.hid (B12.out.trans (b.mono B12.out.size)); clear b
  clear B8 B9 B10 B11 B12 X7 Y7 LX LY
  go_wp2_with fail
  go_loopw [19] (fun i wr => ∃ k : Nat, k ≤ xs.length ∧ i = .int .i64 k ∧ Hid (Below w7.heap.size w7 wr)) (fun i _ => xs.length - (RowKit.intOf i).toNat)
  case atStart => exact ⟨0, by omega, rfl, B13⟩
  case round =>
    obtain ⟨k, hk, rfl, HW⟩ := hrel
    by_cases hlt : k < xs.length
    · obtain ⟨ad, rfl, hba, a0, a1, a2⟩ := reads_key A7.out hlt
      have HCA : Hid (∀ W, Below w7.heap.size w7 W → W.cell? (ad.add (k * 3)) = some (.int .i64 xs[k].kind) ∧ W.cell? ⟨(ad.add (k * 3)).block, (ad.add (k * 3)).off + 1, none⟩ = some (.int .i64 xs[k].num) ∧ W.cell? ⟨(ad.add (k * 3)).block, (ad.add (k * 3)).off + 2, none⟩ = some (.string xs[k].text)) := Lib.hid (fun W h => by
        have e : (ad.add (k * 3)).block < w7.heap.size := by rw [block_of_add]; exact hba
        exact ⟨(h.cell e).trans a0, (h.cell (p := ⟨(ad.add (k * 3)).block, (ad.add (k * 3)).off + 1, none⟩) e).trans a1, (h.cell (p := ⟨(ad.add (k * 3)).block, (ad.add (k * 3)).off + 2, none⟩) e).trans a2⟩)
      have HR1 : Hid (∀ W, Calls Tryd.prog 22 #[xs[k].v] W (BoolB (rightF xs[k]) W)) := Lib.hid (fun W => right_any _ W)
      have HR2 : Hid (∀ W, Calls Tryd.prog 30 #[xs[k].v] W (BoolB (rightF xs[k]) W)) := Lib.hid (fun W => refRight_any _ W)
      have hta := HTX.out.2 _ (List.getElem_mem hlt)
      clear a0 a1 a2 hba
      by_cases hlt2 : k < ys.length
      · obtain ⟨bd, rfl, hbb, b0, b1, b2⟩ := reads_key E7.out hlt2
        have HCB : Hid (∀ W, Below w7.heap.size w7 W → W.cell? (bd.add (k * 3)) = some (.int .i64 ys[k].kind) ∧ W.cell? ⟨(bd.add (k * 3)).block, (bd.add (k * 3)).off + 1, none⟩ = some (.int .i64 ys[k].num) ∧ W.cell? ⟨(bd.add (k * 3)).block, (bd.add (k * 3)).off + 2, none⟩ = some (.string ys[k].text)) := Lib.hid (fun W h => by
          have e : (bd.add (k * 3)).block < w7.heap.size := by rw [block_of_add]; exact hbb
          exact ⟨(h.cell e).trans b0, (h.cell (p := ⟨(bd.add (k * 3)).block, (bd.add (k * 3)).off + 1, none⟩) e).trans b1, (h.cell (p := ⟨(bd.add (k * 3)).block, (bd.add (k * 3)).off + 2, none⟩) e).trans b2⟩)
        have htb := HTY.out.2 _ (List.getElem_mem hlt2)
        have HC1 : Hid (∀ W, Calls Tryd.prog 14 #[xs[k].v, ys[k].v] W (IntB (cmpF xs[k] ys[k]) W)) := Lib.hid (fun W => compare_any _ _ W)
        have HC2 : Hid (∀ W, Calls Tryd.prog 31 #[xs[k].v, ys[k].v] W (IntB (cmpF xs[k] ys[k]) W)) := Lib.hid (fun W => refCompare_any _ _ hta htb W)
        clear b0 b1 b2 hbb htb hta
        generalize xs[k] = x at *
        generalize ys[k] = y at *
        generalize rightF x = rr at *
        generalize cmpF x y = zz at *
        obtain ⟨k1, n1, t1⟩ := x
        obtain ⟨k2, n2, t2⟩ := y
        unfold KeyD.v at HR1 HR2 HC1 HC2
        dsimp only at HCA HCB HR1 HR2 HC1 HC2
        have BW0 : Hid (Below w7.heap.size w7 wr.drew) := Lib.hid HW.out.drew
        go_wp2_with fail
        go_region_held3 (fun w' => Hid (Below w7.heap.size w7 w') ∧ w'.cell? (ad.add (k * 3)) = some (.int .i64 k1) ∧ w'.cell? ⟨(ad.add (k * 3)).block, (ad.add (k * 3)).off + 1, none⟩ = some (.int .i64 n1) ∧ w'.cell? ⟨(ad.add (k * 3)).block, (ad.add (k * 3)).off + 2, none⟩ = some (.string t1) ∧
            w'.cell? (bd.add (k * 3)) = some (.int .i64 k2) ∧ w'.cell? ⟨(bd.add (k * 3)).block, (bd.add (k * 3)).off + 1, none⟩ = some (.int .i64 n2) ∧ w'.cell? ⟨(bd.add (k * 3)).block, (bd.add (k * 3)).off + 2, none⟩ = some (.string t2))
          (first
            | exact ⟨BW4, (HCA.out _ BW4.out).1, (HCA.out _ BW4.out).2.1, (HCA.out _ BW4.out).2.2, (HCB.out _ BW4.out).1, (HCB.out _ BW4.out).2.1, (HCB.out _ BW4.out).2.2⟩
            | exact ⟨BW3, (HCA.out _ BW3.out).1, (HCA.out _ BW3.out).2.1, (HCA.out _ BW3.out).2.2, (HCB.out _ BW3.out).1, (HCB.out _ BW3.out).2.1, (HCB.out _ BW3.out).2.2⟩
            | exact ⟨BW2, (HCA.out _ BW2.out).1, (HCA.out _ BW2.out).2.1, (HCA.out _ BW2.out).2.2, (HCB.out _ BW2.out).1, (HCB.out _ BW2.out).2.1, (HCB.out _ BW2.out).2.2⟩
            | exact ⟨BW1, (HCA.out _ BW1.out).1, (HCA.out _ BW1.out).2.1, (HCA.out _ BW1.out).2.2, (HCB.out _ BW1.out).1, (HCB.out _ BW1.out).2.1, (HCB.out _ BW1.out).2.2⟩
            | exact ⟨BW0, (HCA.out _ BW0.out).1, (HCA.out _ BW0.out).2.1, (HCA.out _ BW0.out).2.2, (HCB.out _ BW0.out).1, (HCB.out _ BW0.out).2.1, (HCB.out _ BW0.out).2.2⟩)
          (first
            | (go_at_call 22; refine (HR1.out _).mono ?_; rintro e W1 ⟨rfl, q⟩; have BW1 := Lib.hid (BW0.out.trans (q.mono BW0.out.size)); clear q)
            | (go_at_call 30; refine (HR2.out _).mono ?_; rintro e W2 ⟨rfl, q⟩; have BW2 := Lib.hid (BW1.out.trans (q.mono BW1.out.size)); clear q)
            | (go_at_call 14; refine (HC1.out _).mono ?_; rintro e W3 ⟨rfl, q⟩; have BW3 := Lib.hid (BW2.out.trans (q.mono BW2.out.size)); clear q)
            | (go_at_call 31; refine (HC2.out _).mono ?_; rintro e W4 ⟨rfl, q⟩; have BW4 := Lib.hid (BW3.out.trans (q.mono BW3.out.size)); clear q))
        clear HCA HCB HR1 HR2 HC1 HC2 BW0 BW1 BW2 BW3
        go_wp2_with fail
        go_roundw
        case rel => exact ⟨k + 1, by omega, by go_num, BW4⟩
        case measure => simp [RowKit.intOf]; omega
      · clear hta
        generalize xs[k] = x at *
        generalize rightF x = rr at *
        obtain ⟨k1, n1, t1⟩ := x
        unfold KeyD.v at HR1 HR2
        dsimp only at HCA HR1 HR2
        have BW0 : Hid (Below w7.heap.size w7 wr.drew) := Lib.hid HW.out.drew
        have hge1 : decide ((k : Int) < (ys.length : Int)) = false := by rw [decide_eq_false_iff_not]; omega
        have hge2 : decide (k < ys.length) = false := by rw [decide_eq_false_iff_not]; exact hlt2
        go_wp2_with fail
        refine wp_region_held_drew (S := fun W => Below w7.heap.size w7 W) (by kernel_rfl) BW0.out (fun hS0 => ?_)
        refine' wpAnyH_take (i := 0) (v := _) (by simp only [List.getElem?_toArray, List.getElem?_cons_zero]; rfl) (by kernel_rfl) (by kernel_rfl) (by kernel_rfl) (by exact fun _ _ _ h => h) (Or.inl ⟨by rfl, ?hy0⟩) hS0 ?rest0
        case hy0 => intro W hSw; clear hSw; go_simp; try with_reducible rfl
        try simp only [Act.put, List.setIfInBounds_toArray, List.set_cons_zero, List.set_cons_succ]
        refine' wpAnyH_take (i := 1) (v := _) (by simp only [List.getElem?_toArray, List.getElem?_cons_succ, List.getElem?_cons_zero]; rfl) (by kernel_rfl) (by kernel_rfl) (by kernel_rfl) (by exact fun _ _ _ h => h) (Or.inl ⟨by rfl, ?hy1⟩) hS0 ?rest1
        case hy1 => intro W hSw; clear hSw; go_simp; try with_reducible rfl
        try simp only [Act.put, List.setIfInBounds_toArray, List.set_cons_zero, List.set_cons_succ]
        refine' wpAnyH_take (i := 2) (v := _) (by simp only [List.getElem?_toArray, List.getElem?_cons_succ, List.getElem?_cons_zero]; rfl) (by kernel_rfl) (by kernel_rfl) (by kernel_rfl) (by exact fun _ _ _ h => h) (Or.inl ⟨by rfl, ?hy2⟩) hS0 ?rest2
        case hy2 => intro W hSw; clear hSw; go_simp; try with_reducible rfl
        try simp only [Act.put, List.setIfInBounds_toArray, List.set_cons_zero, List.set_cons_succ]
        refine' wpAnyH_take (i := 3) (v := _) (by simp only [List.getElem?_toArray, List.getElem?_cons_succ, List.getElem?_cons_zero]; rfl) (by kernel_rfl) (by kernel_rfl) (by kernel_rfl) (by exact fun _ _ _ h => h) (Or.inl ⟨by rfl, ?hy3⟩) hS0 ?rest3
        case hy3 => intro W hSw; obtain ⟨f0, f1, f2⟩ := HCA.out W hSw; clear hSw; go_simp; try with_reducible rfl
        try simp only [Act.put, List.setIfInBounds_toArray, List.set_cons_zero, List.set_cons_succ]
        refine' wpAnyH_take (i := 5) (v := _) (by simp only [List.getElem?_toArray, List.getElem?_cons_succ, List.getElem?_cons_zero]; rfl) (by kernel_rfl) (by kernel_rfl) (by kernel_rfl) (by exact fun _ _ _ h => h) (Or.inl ⟨by rfl, ?hy5⟩) hS0 ?rest5
        case hy5 => intro W hSw; clear hSw; go_simp; try with_reducible rfl
        try simp only [Act.put, List.setIfInBounds_toArray, List.set_cons_zero, List.set_cons_succ]
        refine' wpAnyH_take (i := 6) (v := _) (by simp only [List.getElem?_toArray, List.getElem?_cons_succ, List.getElem?_cons_zero]; rfl) (by kernel_rfl) (by kernel_rfl) (by kernel_rfl) (by exact fun _ _ _ h => h) (Or.inl ⟨by rfl, ?hy6⟩) hS0 ?rest6
        case hy6 => intro W hSw; clear hSw; go_simp; try with_reducible rfl
        try simp only [Act.put, List.setIfInBounds_toArray, List.set_cons_zero, List.set_cons_succ]
        refine' wpAnyH_take (i := 7) (v := _) (by simp only [List.getElem?_toArray, List.getElem?_cons_succ, List.getElem?_cons_zero]; rfl) (by kernel_rfl) (by kernel_rfl) (by kernel_rfl) (by exact fun _ _ _ h => h) (Or.inl ⟨by rfl, ?hy7⟩) hS0 ?rest7
        case hy7 => intro W hSw; clear hSw; go_simp; try with_reducible rfl
        try simp only [Act.put, List.setIfInBounds_toArray, List.set_cons_zero, List.set_cons_succ]
        refine' wpAnyH_take (i := 8) (v := _) (by simp only [List.getElem?_toArray, List.getElem?_cons_succ, List.getElem?_cons_zero]; rfl) (by kernel_rfl) (by kernel_rfl) (by kernel_rfl) (by exact fun _ _ _ h => h) (Or.inl ⟨by rfl, ?hy8⟩) hS0 ?rest8
        case hy8 => intro W hSw; obtain ⟨f0, f1, f2⟩ := HCA.out W hSw; clear hSw; go_simp; try with_reducible rfl
        try simp only [Act.put, List.setIfInBounds_toArray, List.set_cons_zero, List.set_cons_succ]
        refine wpAnyH_ready (rs := [4]) (by kernel_rfl) (by simp) ?_
        refine' AllReadyH.cons (by simp only [List.getElem?_toArray, List.getElem?_cons_succ, List.getElem?_cons_zero]; rfl) (fun K hK => ?_) AllReadyH.nil
        go_simp
        refine (HR1.out _).mono ?_
        rintro e W1 ⟨rfl, q⟩
        have BW1 := Lib.hid (Below.trans hS0 (q.mono (hS0).size)); clear q
        go_simp
        refine hK.out _ _ BW1.out (fun hS1 => ?_)
        try simp only [Act.put, List.setIfInBounds_toArray, List.set_cons_zero, List.set_cons_succ]
        refine wpAnyH_ready (rs := [9]) (by kernel_rfl) (by simp) ?_
        refine' AllReadyH.cons (by simp only [List.getElem?_toArray, List.getElem?_cons_succ, List.getElem?_cons_zero]; rfl) (fun K hK => ?_) AllReadyH.nil
        go_simp
        refine (HR2.out _).mono ?_
        rintro e W2 ⟨rfl, q⟩
        have BW2 := Lib.hid (Below.trans hS1 (q.mono (hS1).size)); clear q
        go_simp
        refine hK.out _ _ BW2.out (fun hS2 => ?_)
        try simp only [Act.put, List.setIfInBounds_toArray, List.set_cons_zero, List.set_cons_succ]
        refine' wpAnyH_take (i := 10) (v := _) (by simp only [List.getElem?_toArray, List.getElem?_cons_succ, List.getElem?_cons_zero]; rfl) (by kernel_rfl) (by kernel_rfl) (by kernel_rfl) (by exact fun _ _ _ h => h) (Or.inl ⟨by rfl, ?hy10⟩) hS2 ?rest10
        case hy10 => intro W hSw; clear hSw; go_simp; try with_reducible rfl
        try simp only [Act.put, List.setIfInBounds_toArray, List.set_cons_zero, List.set_cons_succ]
        refine' wpAnyH_take (i := 11) (v := _) (by simp only [List.getElem?_toArray, List.getElem?_cons_succ, List.getElem?_cons_zero]; rfl) (by kernel_rfl) (by kernel_rfl) (by kernel_rfl) (by exact fun _ _ _ h => h) (Or.inl ⟨by rfl, ?hy11⟩) hS2 ?rest11
        case hy11 => intro W hSw; clear hSw; go_simp; try with_reducible rfl
        try simp only [Act.put, List.setIfInBounds_toArray, List.set_cons_zero, List.set_cons_succ]
        refine' wpAnyH_take (i := 12) (v := _) (by simp only [List.getElem?_toArray, List.getElem?_cons_succ, List.getElem?_cons_zero]; rfl) (by kernel_rfl) (by kernel_rfl) (by kernel_rfl) (by exact fun _ _ _ h => h) (Or.inl ⟨by rfl, ?hy12⟩) hS2 ?rest12
        case hy12 => intro W hSw; clear hSw; go_simp; try with_reducible rfl
        try simp only [Act.put, List.setIfInBounds_toArray, List.set_cons_zero, List.set_cons_succ]
        refine' wpAnyH_take (i := 13) (v := _) (by simp only [List.getElem?_toArray, List.getElem?_cons_succ, List.getElem?_cons_zero]; rfl) (by kernel_rfl) (by kernel_rfl) (by kernel_rfl) (by exact fun _ _ _ h => h) (Or.inl ⟨by rfl, ?hy13⟩) hS2 ?rest13
        case hy13 => intro W hSw; clear hSw; go_simp; try with_reducible rfl
        try simp only [Act.put, List.setIfInBounds_toArray, List.set_cons_zero, List.set_cons_succ]
        refine' wpAnyH_take (i := 14) (v := _) (by simp only [List.getElem?_toArray, List.getElem?_cons_succ, List.getElem?_cons_zero]; rfl) (by kernel_rfl) (by kernel_rfl) (by kernel_rfl) (by exact fun _ _ _ h => h) (Or.inl ⟨by rfl, ?hy14⟩) hS2 ?rest14
        case hy14 => intro W hSw; clear hSw; go_simp; try with_reducible rfl
        try simp only [Act.put, List.setIfInBounds_toArray, List.set_cons_zero, List.set_cons_succ]
        refine' wpAnyH_take (i := 15) (v := _) (by simp only [List.getElem?_toArray, List.getElem?_cons_succ, List.getElem?_cons_zero]; rfl) (by kernel_rfl) (by kernel_rfl) (by kernel_rfl) (by exact fun _ _ _ h => h) (Or.inl ⟨by rfl, ?hy15⟩) hS2 ?rest15
        case hy15 => intro W hSw; clear hSw; go_simp; try with_reducible rfl
        try simp only [Act.put, List.setIfInBounds_toArray, List.set_cons_zero, List.set_cons_succ]
        refine' wpAnyH_take (i := 16) (v := _) (by simp only [List.getElem?_toArray, List.getElem?_cons_succ, List.getElem?_cons_zero]; rfl) (by kernel_rfl) (by kernel_rfl) (by kernel_rfl) (by exact fun _ _ _ h => h) (Or.inl ⟨by rfl, ?hy16⟩) hS2 ?rest16
        case hy16 => intro W hSw; clear hSw; go_simp; try with_reducible rfl
        try simp only [Act.put, List.setIfInBounds_toArray, List.set_cons_zero, List.set_cons_succ]
        refine' wpAnyH_take (i := 17) (v := undef) (by simp only [List.getElem?_toArray, List.getElem?_cons_succ, List.getElem?_cons_zero]; rfl) (by kernel_rfl) (by kernel_rfl) (by kernel_rfl) (by exact fun _ _ _ h => h) (Or.inr ⟨by rfl, rfl⟩) hS2 ?rest17
        try simp only [Act.put, List.setIfInBounds_toArray, List.set_cons_zero, List.set_cons_succ]
        refine' wpAnyH_take (i := 18) (v := undef) (by simp only [List.getElem?_toArray, List.getElem?_cons_succ, List.getElem?_cons_zero]; rfl) (by kernel_rfl) (by kernel_rfl) (by kernel_rfl) (by exact fun _ _ _ h => h) (Or.inr ⟨by rfl, rfl⟩) hS2 ?rest18
        try simp only [Act.put, List.setIfInBounds_toArray, List.set_cons_zero, List.set_cons_succ]
        refine' wpAnyH_take (i := 19) (v := undef) (by simp only [List.getElem?_toArray, List.getElem?_cons_succ, List.getElem?_cons_zero]; rfl) (by kernel_rfl) (by kernel_rfl) (by kernel_rfl) (by exact fun _ _ _ h => h) (Or.inr ⟨by rfl, rfl⟩) hS2 ?rest19
        try simp only [Act.put, List.setIfInBounds_toArray, List.set_cons_zero, List.set_cons_succ]
        refine' wpAnyH_take (i := 20) (v := undef) (by simp only [List.getElem?_toArray, List.getElem?_cons_succ, List.getElem?_cons_zero]; rfl) (by kernel_rfl) (by kernel_rfl) (by kernel_rfl) (by exact fun _ _ _ h => h) (Or.inr ⟨by rfl, rfl⟩) hS2 ?rest20
        try simp only [Act.put, List.setIfInBounds_toArray, List.set_cons_zero, List.set_cons_succ]
        refine' wpAnyH_take (i := 21) (v := undef) (by simp only [List.getElem?_toArray, List.getElem?_cons_succ, List.getElem?_cons_zero]; rfl) (by kernel_rfl) (by kernel_rfl) (by kernel_rfl) (by exact fun _ _ _ h => h) (Or.inr ⟨by rfl, rfl⟩) hS2 ?rest21
        try simp only [Act.put, List.setIfInBounds_toArray, List.set_cons_zero, List.set_cons_succ]
        refine' wpAnyH_take (i := 22) (v := undef) (by simp only [List.getElem?_toArray, List.getElem?_cons_succ, List.getElem?_cons_zero]; rfl) (by kernel_rfl) (by kernel_rfl) (by kernel_rfl) (by exact fun _ _ _ h => h) (Or.inr ⟨by rfl, rfl⟩) hS2 ?rest22
        try simp only [Act.put, List.setIfInBounds_toArray, List.set_cons_zero, List.set_cons_succ]
        refine' wpAnyH_take (i := 23) (v := undef) (by simp only [List.getElem?_toArray, List.getElem?_cons_succ, List.getElem?_cons_zero]; rfl) (by kernel_rfl) (by kernel_rfl) (by kernel_rfl) (by exact fun _ _ _ h => h) (Or.inr ⟨by rfl, rfl⟩) hS2 ?rest23
        try simp only [Act.put, List.setIfInBounds_toArray, List.set_cons_zero, List.set_cons_succ]
        refine' wpAnyH_take (i := 24) (v := undef) (by simp only [List.getElem?_toArray, List.getElem?_cons_succ, List.getElem?_cons_zero]; rfl) (by kernel_rfl) (by kernel_rfl) (by kernel_rfl) (by exact fun _ _ _ h => h) (Or.inr ⟨by rfl, rfl⟩) hS2 ?rest24
        try simp only [Act.put, List.setIfInBounds_toArray, List.set_cons_zero, List.set_cons_succ]
        refine' wpAnyH_take (i := 25) (v := undef) (by simp only [List.getElem?_toArray, List.getElem?_cons_succ, List.getElem?_cons_zero]; rfl) (by kernel_rfl) (by kernel_rfl) (by kernel_rfl) (by exact fun _ _ _ h => h) (Or.inr ⟨by rfl, rfl⟩) hS2 ?rest25
        try simp only [Act.put, List.setIfInBounds_toArray, List.set_cons_zero, List.set_cons_succ]
        refine' wpAnyH_take (i := 26) (v := undef) (by simp only [List.getElem?_toArray, List.getElem?_cons_succ, List.getElem?_cons_zero]; rfl) (by kernel_rfl) (by kernel_rfl) (by kernel_rfl) (by exact fun _ _ _ h => h) (Or.inr ⟨by rfl, rfl⟩) hS2 ?rest26
        try simp only [Act.put, List.setIfInBounds_toArray, List.set_cons_zero, List.set_cons_succ]
        refine' wpAnyH_take (i := 27) (v := undef) (by simp only [List.getElem?_toArray, List.getElem?_cons_succ, List.getElem?_cons_zero]; rfl) (by kernel_rfl) (by kernel_rfl) (by kernel_rfl) (by exact fun _ _ _ h => h) (Or.inr ⟨by rfl, rfl⟩) hS2 ?rest27
        try simp only [Act.put, List.setIfInBounds_toArray, List.set_cons_zero, List.set_cons_succ]
        refine' wpAnyH_take (i := 28) (v := undef) (by simp only [List.getElem?_toArray, List.getElem?_cons_succ, List.getElem?_cons_zero]; rfl) (by kernel_rfl) (by kernel_rfl) (by kernel_rfl) (by exact fun _ _ _ h => h) (Or.inr ⟨by rfl, rfl⟩) hS2 ?rest28
        try simp only [Act.put, List.setIfInBounds_toArray, List.set_cons_zero, List.set_cons_succ]
        refine' wpAnyH_take (i := 29) (v := undef) (by simp only [List.getElem?_toArray, List.getElem?_cons_succ, List.getElem?_cons_zero]; rfl) (by kernel_rfl) (by kernel_rfl) (by kernel_rfl) (by exact fun _ _ _ h => h) (Or.inr ⟨by rfl, rfl⟩) hS2 ?rest29
        try simp only [Act.put, List.setIfInBounds_toArray, List.set_cons_zero, List.set_cons_succ]
        refine' wpAnyH_take (i := 30) (v := undef) (by simp only [List.getElem?_toArray, List.getElem?_cons_succ, List.getElem?_cons_zero]; rfl) (by kernel_rfl) (by kernel_rfl) (by kernel_rfl) (by exact fun _ _ _ h => h) (Or.inr ⟨by rfl, rfl⟩) hS2 ?rest30
        try simp only [Act.put, List.setIfInBounds_toArray, List.set_cons_zero, List.set_cons_succ]
        refine' wpAnyH_take (i := 31) (v := undef) (by simp only [List.getElem?_toArray, List.getElem?_cons_succ, List.getElem?_cons_zero]; rfl) (by kernel_rfl) (by kernel_rfl) (by kernel_rfl) (by exact fun _ _ _ h => h) (Or.inr ⟨by rfl, rfl⟩) hS2 ?rest31
        try simp only [Act.put, List.setIfInBounds_toArray, List.set_cons_zero, List.set_cons_succ]
        refine' wpAnyH_take (i := 32) (v := undef) (by simp only [List.getElem?_toArray, List.getElem?_cons_succ, List.getElem?_cons_zero]; rfl) (by kernel_rfl) (by kernel_rfl) (by kernel_rfl) (by exact fun _ _ _ h => h) (Or.inr ⟨by rfl, rfl⟩) hS2 ?rest32
        try simp only [Act.put, List.setIfInBounds_toArray, List.set_cons_zero, List.set_cons_succ]
        refine' wpAnyH_take (i := 33) (v := undef) (by simp only [List.getElem?_toArray, List.getElem?_cons_succ, List.getElem?_cons_zero]; rfl) (by kernel_rfl) (by kernel_rfl) (by kernel_rfl) (by exact fun _ _ _ h => h) (Or.inr ⟨by rfl, rfl⟩) hS2 ?rest33
        try simp only [Act.put, List.setIfInBounds_toArray, List.set_cons_zero, List.set_cons_succ]
        refine' wpAnyH_take (i := 34) (v := undef) (by simp only [List.getElem?_toArray, List.getElem?_cons_succ, List.getElem?_cons_zero]; rfl) (by kernel_rfl) (by kernel_rfl) (by kernel_rfl) (by exact fun _ _ _ h => h) (Or.inr ⟨by rfl, rfl⟩) hS2 ?rest34
        try simp only [Act.put, List.setIfInBounds_toArray, List.set_cons_zero, List.set_cons_succ]
        refine' wpAnyH_take (i := 35) (v := undef) (by simp only [List.getElem?_toArray, List.getElem?_cons_succ, List.getElem?_cons_zero]; rfl) (by kernel_rfl) (by kernel_rfl) (by kernel_rfl) (by exact fun _ _ _ h => h) (Or.inr ⟨by rfl, rfl⟩) hS2 ?rest35
        try simp only [Act.put, List.setIfInBounds_toArray, List.set_cons_zero, List.set_cons_succ]
        refine' wpAnyH_take (i := 36) (v := _) (by simp only [List.getElem?_toArray, List.getElem?_cons_succ, List.getElem?_cons_zero]; rfl) (by kernel_rfl) (by kernel_rfl) (by kernel_rfl) (by exact fun _ _ _ h => h) (Or.inl ⟨by rfl, ?hy36⟩) hS2 ?rest36
        case hy36 => intro W hSw; clear hSw; go_simp; try with_reducible rfl
        try simp only [Act.put, List.setIfInBounds_toArray, List.set_cons_zero, List.set_cons_succ]
        refine' wpAnyH_take (i := 37) (v := _) (by simp only [List.getElem?_toArray, List.getElem?_cons_succ, List.getElem?_cons_zero]; rfl) (by kernel_rfl) (by kernel_rfl) (by kernel_rfl) (by exact fun _ _ _ h => h) (Or.inl ⟨by rfl, ?hy37⟩) hS2 ?rest37
        case hy37 => intro W hSw; clear hSw; go_simp; try with_reducible rfl
        try simp only [Act.put, List.setIfInBounds_toArray, List.set_cons_zero, List.set_cons_succ]
        refine wpAnyH_done (by kernel_rfl) ?_ _
        clear HCA HR1 HR2 BW0 BW1
        go_wp2_with fail
        go_roundw
        case rel => exact ⟨k + 1, by omega, by go_num, BW2⟩
        case measure => simp [RowKit.intOf]; omega
    · have L8 := Lib.hid (clip_below L7.out HW.out); have M8 := Lib.hid (clip_below M7.out HW.out); have N8 := Lib.hid (reads_on N7.out HW.out)
      have W8 := Lib.hid (W7.out.trans (HW.out.mono W7.out.size))
      clear L7 M7 N7 W7 HW A7 E7 B13 T7
      go_wp2_with fail
      generalize wr = WA at *
      go_loopw [20] (fun i wr => ∃ k : Nat, k ≤ kz.length ∧ i = .int .i64 k ∧ Hid (WA.grownBy wr (lo.map (·.block))) ∧ Hid (Below w.heap.size w wr) ∧ Hid (Full wr lo kz.length)) (fun i _ => kz.length - (RowKit.intOf i).toNat)
      case atStart => exact ⟨0, by omega, rfl, Lib.hid (World.grownBy.refl _ _), W8, Lib.hid (full_start L8.out)⟩
      case round =>
        obtain ⟨j, hj, rfl, HG, HBW, HBK⟩ := hrel
        by_cases hjl : j < kz.length
        · obtain ⟨g, hlo⟩ := clip_some L8.out (by omega)
          subst hlo
          obtain ⟨cur, _, hbk, hcs⟩ := HBK.out _ rfl
          have c0 : wr.cell? ⟨g, j * 3, none⟩ = some (cur[j * 3]'(by omega)) := by rw [hbk.cell]; exact Array.getElem?_eq_getElem _
          have c1 : wr.cell? ⟨g, j * 3 + 1, none⟩ = some (cur[j * 3 + 1]'(by omega)) := by rw [hbk.cell]; exact Array.getElem?_eq_getElem _
          have c2 : wr.cell? ⟨g, j * 3 + 2, none⟩ = some (cur[j * 3 + 2]'(by omega)) := by rw [hbk.cell]; exact Array.getElem?_eq_getElem _
          have f0 := hbk.frozen (j * 3); have f1 := hbk.frozen (j * 3 + 1); have f2 := hbk.frozen (j * 3 + 2)
          clear hbk
          have G1 := Lib.hid (grown_set3 (j := j) HG.out)
          have G2 := Lib.hid (below_set3 (j := j) HBW.out (HD.out.2.2.2.1 _ rfl))
          have G3 := Lib.hid (full_set3 (j := j) HBK.out)
          go_wp2_with fail
          go_roundw
          case rel => exact ⟨j + 1, by omega, by go_num, G1, G2, G3⟩
          case measure => simp [RowKit.intOf]; omega
        · obtain rfl : j = kz.length := by omega
          obtain ⟨xl, hxl, hal, ham, hrn⟩ := loop3_start (w := w) L8.out M8.out N8.out (clip_reads2 M8.out) HG.out HBK.out HD.out
          have HAL := Lib.hid hal; have HAM := Lib.hid ham; have HRN := Lib.hid hrn; have HXL := Lib.hid hxl
          have HDJ := Lib.hid (HD.out.apart kz.length kz.length kz.length kz.length kz.length)
          clear hxl hal ham hrn HBK HG L8 M8 N8 W8 HD
          go_wp2_with fail
          generalize wr = WB at *
          go_loopw [13, 15, 21] (fun lv mv i wr => ∃ k : Nat, k ≤ 30 ∧ i = .int .i64 k ∧ Hid (App wr w.heap.size lv (kz.length + k) (xl ++ keyCells (List.replicate k (keyN (-8))))) ∧ Hid (App wr w.heap.size mv (kz.length + k) (keyCells kz ++ keyCells (List.replicate k (keyN (-9))))) ∧
              Hid (Apart3 w kz.length lv mv no) ∧ Hid (Reads wr wr.heap.size 3 no kz.length (keyCells kz)) ∧ Hid (Below w.heap.size w wr)) (fun _ _ i _ => 30 - (RowKit.intOf i).toNat)
          case atStart => exact ⟨0, by omega, rfl, HAL, HAM, HDJ, HRN, HBW⟩
          case round =>
            clear HAL HAM HDJ HRN HBW
            obtain ⟨k, hk, rfl, HAL, HAM, HDJ, HRN, HBW⟩ := hrel
            by_cases hk30 : k < 30
            · have hal := HAL.out
              have hlen1 : (xl ++ keyCells (List.replicate k (keyN (-8)))).length = (kz.length + k) * 3 := by rw [List.length_append, rep_len, HXL.out]; omega
              have hlen2 : (keyCells kz ++ keyCells (List.replicate k (keyN (-9)))).length = (kz.length + k) * 3 := by rw [List.length_append, rep_len, keyCells_length]; omega
              have HL2 := Lib.hid hlen2
              have hbs := HBW.out.size
              clear hlen2
              go_wp2_with (at_builtin; refine wpList_append_app rfl (.tmp 155) (.tmp 157) rfl w.heap.size _ (kz.length + k) _ rfl (hal.alloc _) hlen1 wr.heap.size 1 (keyN (-8)) rfl (Blk.new wr 35 _) (by omega) (by simp; omega) ?_)
              intro v1 w1 h1 g1 o1
              have S1 := Lib.hid (loop3_left HAL.out HAM.out HDJ.out HRN.out HBW.out h1 g1 o1)
              clear h1 g1 o1 hal hlen1 hbs HAL HAM HDJ HRN HBW
              have ham := S1.out.2.1
              have hbs := S1.out.2.2.2.2.size
              have hlen2 := HL2.out
              clear HL2
              go_wp2_with (at_builtin; refine wpList_append_app rfl (.tmp 159) (.tmp 161) rfl w.heap.size _ (kz.length + k) _ rfl (ham.alloc _) hlen2 w1.heap.size 1 (keyN (-9)) rfl (Blk.new w1 35 _) (by omega) (by simp; omega) ?_)
              intro v2 w2' h2 g2 o2
              have S2 := Lib.hid (loop3_right S1.out h2 g2 o2)
              clear h2 g2 o2 ham hlen2 hbs S1
              go_wp2_with fail
              go_roundw
              case rel => exact ⟨k + 1, by omega, by go_num, Lib.hid S2.out.1, Lib.hid S2.out.2.1, Lib.hid S2.out.2.2.1, Lib.hid S2.out.2.2.2.1, Lib.hid S2.out.2.2.2.2⟩
              case measure => simp [RowKit.intOf]; omega
            · obtain rfl : k = 30 := by omega
              obtain ⟨la, lc, rfl, hlc, hlm, hlr⟩ := HAL.out.form
              obtain ⟨ma, mc, rfl, hmc, hmm, hmr⟩ := HAM.out.form
              obtain ⟨ad, rfl, hab, hc8⟩ := reads_rep (j := 0) hlr HXL.out (by omega)
              obtain ⟨ad2, had2, _, hc9⟩ := reads_rep (j := 29) hlr HXL.out (by omega)
              obtain rfl := Option.some.inj had2
              rw [Nat.add_zero] at hc8
              have HMP := Lib.hid (reads_pre hmr rfl)
              have HC8 := Lib.hid hc8; have HC9 := Lib.hid hc9
              have hadb : ∀ q, (ad.add q).block < wr.heap.size := fun q => by rw [block_of_add]; exact hab
              have HADB := Lib.hid hadb
              unfold maxLen at hlm hmm
              clear hlr hmr hc8 hc9 hadb had2 hab HAL HAM HDJ
              go_wp2_with fail
              refine (keysEq_any ma no mc nc kz kz wr HMP.out HRN.out (by omega) (by omega) true (by simp)).mono ?_
              rintro e W1 ⟨rfl, q⟩
              have d8 : W1.cell? (ad.add (kz.length * 3)) = some (.int .i64 (-8)) := (q.cell (HADB.out _)).trans HC8.out
              have d9 : W1.cell? (ad.add ((kz.length + 29) * 3)) = some (.int .i64 (-8)) := (q.cell (HADB.out _)).trans HC9.out
              have BW1 := Lib.hid (HBW.out.trans (q.mono HBW.out.size))
              clear q HC8 HC9 HADB HMP HRN HBW
              go_wp2_with fail
              refine (awake_any _ (HT.out.next BW1.out)).mono ?_
              rintro e W2 ⟨rfl, q⟩
              have BW2 := Lib.hid (BW1.out.trans (q.mono BW1.out.size))
              clear q d8 d9
              go_wp2_with fail
              go_ret
              exact ⟨ret_bool (by simp), BW2.out⟩
end Go.Proofs.YtebagmiclfhelaaDoor.OrderKeysWalk
