/- The texts that known reads, and what they are read as. Written by gen_knownp.py. Contract: known, of the statements about queries. Written by gen_knownq.py. -/
import Derived.Test.YtinmiekbhoemjaaDoorPack49
import Derived.Test.YtinmiekbhoemjaaDoorPack32
section
set_option linter.unusedVariables false
namespace Go.Proofs.YtinmiekbhoemjaaDoor.Qry
open Go.RowKit Words Tree QryP Kit Sch SchP Owned

def kt0 : ByteArray := ⟨#[98, 111, 111, 108, 40, 43, 116, 101, 114, 109, 40, 98, 111, 100, 121, 44, 32, 34, 102, 111, 120, 34, 41, 44, 32, 45, 114, 97, 110, 103, 101, 40, 110, 44, 32, 49, 44, 32, 53, 41, 41]⟩
def kt1 : ByteArray := ⟨#[119, 101, 105, 103, 104, 40, 109, 117, 108, 44, 110, 44, 48, 44, 98, 111, 111, 115, 116, 40, 51, 44, 97, 108, 108, 41, 41]⟩
def kt2 : ByteArray := ⟨#[114, 97, 110, 103, 101, 40, 110, 44, 32, 49, 44, 32, 50, 32, 51, 41]⟩
def kt3 : ByteArray := ⟨#[98, 111, 111, 115, 116, 40, 49, 44, 32, 98, 111, 111, 115, 116, 40, 49, 44, 32, 98, 111, 111, 115, 116, 40, 49, 44, 32, 98, 111, 111, 115, 116, 40, 49, 44, 32, 98, 111, 111, 115, 116, 40, 49, 44, 32, 98, 111, 111, 115, 116, 40, 49, 44, 32, 97, 108, 108, 41, 41, 41, 41, 41, 41]⟩
def ks1 : ByteArray := ⟨#[119, 101, 105, 103, 104, 40, 109, 117, 108, 44, 32, 110, 44, 32, 48, 44, 32, 98, 111, 111, 115, 116, 40, 51, 44, 32, 97, 108, 108, 41, 41]⟩
def kk0 : QT := (.mk 3 1 ⟨#[98, 111, 100, 121]⟩ ⟨#[102, 111, 120]⟩ ⟨#[]⟩ [] [] 0 0 [])
def kk1 : QT := (.mk 7 3 ⟨#[110]⟩ ⟨#[]⟩ ⟨#[]⟩ [1] [5] 0 0 [])
def kq0 : QT := .mk 8 0 ⟨#[]⟩ ⟨#[]⟩ ⟨#[]⟩ [] [] 0 0 [kk0, kk1]
def kq1 : QT := .mk 10 0 ⟨#[110]⟩ ⟨#[]⟩ ⟨#[]⟩ [0] [] 0 2 [.mk 9 0 ⟨#[]⟩ ⟨#[]⟩ ⟨#[]⟩ [] [] 3 0 [.mk 1 0 ⟨#[]⟩ ⟨#[]⟩ ⟨#[]⟩ [] [] 0 0 []]]
theorem kp0 : parseS numT parT kt0.data.toList = .ok kq0 := by kernel_rfl
theorem kp1 : parseS numT parT kt1.data.toList = .ok kq1 := by kernel_rfl
theorem kp2 : parseS numT parT kt2.data.toList = .error (1, 180) := by kernel_rfl
theorem kp3 : parseS numT parT kt3.data.toList = .error (9, 182) := by kernel_rfl
theorem kw0 : str (textQ numT kq0) = kt0 := by kernel_rfl
theorem kw1 : str (textQ numT kq1) = ks1 := by kernel_rfl
theorem kf0 : formedB 0 kq0 = true := by kernel_rfl
theorem kf1 : formedB 0 kk0 = false := by kernel_rfl
theorem kd0 : depthF kq0 = 2 := by kernel_rfl
end Go.Proofs.YtinmiekbhoemjaaDoor.Qry
end
section
set_option linter.unusedVariables false
namespace Go.Proofs.YtinmiekbhoemjaaDoor.Qry
open Go.RowKit Words Tree QryP Kit Sch SchP Owned

/-- The cells of a query of two kids. -/
theorem OQ.two {w : World} {B : Nat} {k o b op : Int} {f t u : ByteArray} {q1 q2 : QT} {us : List Value} {bs : List Nat} (h : OQ w B (.mk k o f t u [] [] b op [q1, q2]) us bs) :
    ∃ (al : Option Addr) (cl : Nat) (ah : Option Addr) (ch g ck : Nat) (us1 us2 : List Value) (b1 b2 : List Nat), us = [.int .i64 k, .int .i64 o, .string f, .string t, .string u, .slice al 0 cl, .slice ah 0 ch, .int .i64 b, .int .i64 op, .slice (some ⟨g, 0, none⟩) 2 ck] ∧ g < w.heap.size ∧
      OQ w B q1 us1 b1 ∧ OQ w B q2 us2 b2 ∧ ∀ j v, (us1 ++ us2)[j]? = some v → w.cell? ⟨g, j, none⟩ = some v := by
  rw [OQ] at h
  obtain ⟨vl, vh, vk, xs, bk, rfl, h1, h2, h3, h4, rfl⟩ := h
  obtain ⟨al, cl, rfl⟩ := own_slice h1
  obtain ⟨ah, ch, rfl⟩ := own_slice h2
  rcases h3.2 with ⟨_, h0⟩ | ⟨g, cap, cur, rfl, hB, hg, hc, hm, hs, ht⟩
  · simp at h0
  rw [OQL] at h4
  obtain ⟨us1, xs', b1, b2, rfl, rfl, o1, h4⟩ := h4
  rw [OQL] at h4
  obtain ⟨us2, xs2, b3, b4, rfl, rfl, o2, h4⟩ := h4
  rw [OQL] at h4
  obtain ⟨rfl, rfl⟩ := h4
  refine ⟨al, cl, ah, ch, g, cap, us1, us2, b1, b3, rfl, (Array.getElem?_eq_some_iff.1 hg).1, o1, o2, fun j v hj => ?_⟩
  rw [List.append_nil] at ht
  have hlt := (List.getElem?_eq_some_iff.1 hj).1
  have hl1 := OQ.len o1
  have hl2 := OQ.len o2
  rw [List.length_append, hl1, hl2] at hlt
  rw [← ht, List.getElem?_take_of_lt (by simpa using hlt)] at hj
  rw [Blk.cell (cs := cur) hg j, ← Array.getElem?_toList]
  exact hj
theorem ok_of_parse {r : R} {q : QT} (h : parseS numT parT r = .ok q) : Ok q := (got_ok h).1
theorem kk_ok : Ok kk0 ∧ Ok kk1 := by
  have h := ok_of_parse kp0
  unfold kq0 at h
  cases h with
  | mk _ _ _ _ _ _ _ _ _ _ hk => exact ⟨hk _ (by simp), hk _ (by simp)⟩
set_option maxRecDepth 100000 in
set_option maxHeartbeats 4000000 in
theorem known_any (w : World) (hT : PTabs w) : Calls Tryd.prog 16 #[] w (BoolB true w) := by
  have HP0 := Lib.hid (fun (V : World) (hV : Below w.heap.size w V) => (by rw [← kp0]; exact parse_any kt0 V ((PT.of hT).next hV).here : Calls Tryd.prog 17 #[.string kt0] V (ParseV kt0 V (.ok kq0))))
  have HP1 := Lib.hid (fun (V : World) (hV : Below w.heap.size w V) => (by rw [← kp1]; exact parse_any kt1 V ((PT.of hT).next hV).here : Calls Tryd.prog 17 #[.string kt1] V (ParseV kt1 V (.ok kq1))))
  have hp2 := fun (V : World) (hV : Below w.heap.size w V) => (by rw [← kp2]; exact parse_any kt2 V ((PT.of hT).next hV).here : Calls Tryd.prog 17 #[.string kt2] V (ParseV kt2 V (.error (1, 180))))
  have HP2 := Lib.hid (fun (V : World) (hV : Below w.heap.size w V) => (hp2 V hV).mono (fun e w' h => show e = .returned (.tuple #[.agg zeroQ, .int .i64 15, .int .i64 180]) ∧ Below V.heap.size V w' from ⟨h.1.trans (by kernel_rfl), h.2⟩))
  have hp3 := fun (V : World) (hV : Below w.heap.size w V) => (by rw [← kp3]; exact parse_any kt3 V ((PT.of hT).next hV).here : Calls Tryd.prog 17 #[.string kt3] V (ParseV kt3 V (.error (9, 182))))
  have HP3 := Lib.hid (fun (V : World) (hV : Below w.heap.size w V) => (hp3 V hV).mono (fun e w' h => show e = .returned (.tuple #[.agg zeroQ, .int .i64 54, .int .i64 182]) ∧ Below V.heap.size V w' from ⟨h.1.trans (by kernel_rfl), h.2⟩))
  have HTAB := Lib.hid (fun (V : World) (hV : Below w.heap.size w V) => ((PT.of hT).next hV).here.pow)
  unfold kt0 at HP0
  unfold kt1 at HP1
  unfold kt2 at HP2
  unfold kt3 at HP3
  clear hT hp2 hp3
  go_enter Tryd.func16, Tryd.ntmps16
  go_wp2_with fail
  refine (HP0.out w (Below.refl _ _)).mono ?_
  rintro e W1 ⟨us, bs, rfl, hoq, hnd, hb⟩
  have hoq' : OQ W1 w.heap.size (.mk 8 0 ⟨#[]⟩ ⟨#[]⟩ ⟨#[]⟩ [] [] 0 0 [kk0, kk1]) us bs := hoq
  obtain ⟨al, cl, ah, ch, g, ck, us1, us2, b1, b2, rfl, hg, o1, o2, hcell⟩ := hoq'.two
  have HO := Lib.hid hoq; have HO1 := Lib.hid o1; have HO2 := Lib.hid o2; have HC := Lib.hid hcell
  clear hoq hoq' o1 o2 hcell
  go_upto_region 3 with fail
  have hA : Below W1.heap.size W1 (W1.alloc (.cells #[.int .i64 8, .int .i64 0, .string ⟨#[]⟩, .string ⟨#[]⟩, .string ⟨#[]⟩, .slice al 0 cl, .slice ah 0 ch, .int .i64 0, .int .i64 0, .slice (some ⟨g, 0, none⟩) 2 ck] 25)) := (Below.refl _ W1).alloc (Nat.le_refl _) _
  have HB2 := Lib.hid (hb.trans (hA.mono hb.size))
  have HX := Lib.hid (Blk.new W1 25 #[.int .i64 8, .int .i64 0, .string ⟨#[]⟩, .string ⟨#[]⟩, .string ⟨#[]⟩, .slice al 0 cl, .slice ah 0 ch, .int .i64 0, .int .i64 0, .slice (some ⟨g, 0, none⟩) 2 ck])
  have HA2 := Lib.hid hA
  clear hb hA
  generalize (W1.alloc (.cells #[.int .i64 8, .int .i64 0, .string ⟨#[]⟩, .string ⟨#[]⟩, .string ⟨#[]⟩, .slice al 0 cl, .slice ah 0 ch, .int .i64 0, .int .i64 0, .slice (some ⟨g, 0, none⟩) 2 ck] 25)) = W2 at *
  clear hnd
  go_wp2_with fail
  refine (HP1.out W2 HB2.out).mono ?_
  rintro e W3 ⟨us, bs, rfl, hoq, hnd, hb⟩
  obtain ⟨cl1, ch1, ck1, al1, ah1, ak1, hus⟩ : ∃ (cl ch ck : Nat) (al ah ak : Option Addr), us = [.int .i64 10, .int .i64 0, .string ⟨#[110]⟩, .string ⟨#[]⟩, .string ⟨#[]⟩, .slice al 1 cl, .slice ah 0 ch, .int .i64 0, .int .i64 2, .slice ak 1 ck] := OQ.shape (k := 10) (o := 0) (f := ⟨#[110]⟩) (t := ⟨#[]⟩) (u := ⟨#[]⟩) (lo := [0]) (hi := []) (b := 0) (op := 2) hoq
  subst hus
  have HAU := Lib.hid hoq.atw
  have HX3 := Lib.hid (HX.out.below hb HX.out.lt)
  go_upto_region 4 with fail
  have hA : Below W3.heap.size W3 (W3.alloc (.cells #[.int .i64 10, .int .i64 0, .string ⟨#[110]⟩, .string ⟨#[]⟩, .string ⟨#[]⟩, .slice al1 1 cl1, .slice ah1 0 ch1, .int .i64 0, .int .i64 2, .slice ak1 1 ck1] 25)) := (Below.refl _ W3).alloc (Nat.le_refl _) _
  have hAA := hb.trans (hA.mono hb.size)
  have HY := Lib.hid (Blk.new W3 25 #[.int .i64 10, .int .i64 0, .string ⟨#[110]⟩, .string ⟨#[]⟩, .string ⟨#[]⟩, .slice al1 1 cl1, .slice ah1 0 ch1, .int .i64 0, .int .i64 2, .slice ak1 1 ck1])
  have HX4 := Lib.hid (HX3.out.below hA HX3.out.lt)
  have HB4 := Lib.hid (HB2.out.trans (hAA.mono HB2.out.size))
  have HA4 := Lib.hid (HA2.out.trans (hAA.mono HA2.out.size))
  have HAU4 := Lib.hid (atL_ltw HAU.out hA)
  have hn1 : W1.heap.size < W3.heap.size := HX3.out.lt
  clear hb hA hAA hoq hnd HX3 HAU
  generalize (W3.alloc (.cells #[.int .i64 10, .int .i64 0, .string ⟨#[110]⟩, .string ⟨#[]⟩, .string ⟨#[]⟩, .slice al1 1 cl1, .slice ah1 0 ch1, .int .i64 0, .int .i64 2, .slice ak1 1 ck1] 25)) = W4 at *
  go_wp2_with fail
  refine (HP2.out W4 HB4.out).mono ?_
  rintro e W5 ⟨rfl, hb⟩
  have hb5 := (Below.refl W5.heap.size W5).alloc (Nat.le_refl _) (.cells zeroQ 25)
  have hAA := hb.trans (hb5.mono hb.size)
  have HX5 := Lib.hid (HX4.out.below hAA HX4.out.lt)
  have HY5 := Lib.hid (HY.out.below hAA HY.out.lt)
  have HB5 := Lib.hid (HB4.out.trans (hAA.mono HB4.out.size))
  have HA5 := Lib.hid (HA4.out.trans (hAA.mono HA4.out.size))
  have HAU5 := Lib.hid (atL_ltw HAU4.out hAA)
  have hn4 : W3.heap.size < W4.heap.size := HY.out.lt
  unfold zeroQ at hb5 hAA HX5 HY5 HB5 HA5 HAU5 ⊢
  go_upto_region 5 with fail
  clear hb hb5 hAA
  generalize W5.alloc (.cells #[.int .i64 0, .int .i64 0, .string ⟨#[]⟩, .string ⟨#[]⟩, .string ⟨#[]⟩, .slice none 0 0, .slice none 0 0, .int .i64 0, .int .i64 0, .slice none 0 0] 25) = W6 at *
  go_wp2_with fail
  refine (HP3.out W6 HB5.out).mono ?_
  rintro e W7 ⟨rfl, hb⟩
  have hb5 := (Below.refl W7.heap.size W7).alloc (Nat.le_refl _) (.cells zeroQ 25)
  have hAA := hb.trans (hb5.mono hb.size)
  have HX7 := Lib.hid (HX5.out.below hAA HX5.out.lt)
  have HY7 := Lib.hid (HY5.out.below hAA HY5.out.lt)
  have HB7 := Lib.hid (HB5.out.trans (hAA.mono HB5.out.size))
  have HA7 := Lib.hid (HA5.out.trans (hAA.mono HA5.out.size))
  have HAU7 := Lib.hid (atL_ltw HAU5.out hAA)
  unfold zeroQ at hb5 hAA HX7 HY7 HB7 HA7 HAU7 ⊢
  go_upto_region 6 with fail
  clear hb hb5 hAA
  generalize W7.alloc (.cells #[.int .i64 0, .int .i64 0, .string ⟨#[]⟩, .string ⟨#[]⟩, .string ⟨#[]⟩, .slice none 0 0, .slice none 0 0, .int .i64 0, .int .i64 0, .slice none 0 0] 25) = W8 at *
  obtain ⟨k1, k2⟩ := kk_ok
  have HK := Lib.hid (And.intro k1 k2)
  clear k1 k2
  have HT1 := Lib.hid (Qry.text_any kq1 _ W8 (ok_of_parse kp1) HAU7.out (fun V hV => HTAB.out V (HB7.out.trans (hV.mono HB7.out.size))) (by have := (got_ok kp1).2.1; omega))
  rw [kw1] at HT1
  unfold ks1 at HT1
  have p9 : W8.cell? ⟨W1.heap.size, 9, none⟩ = some (.slice (some ⟨g, 0, none⟩) 2 ck) := HX7.out.cell 9
  obtain ⟨y0, y1, y2, y3, y4, y5, y6, y7, y8, y9⟩ := tenB HY7.out
  go_wp2_with fail
  refine HT1.out.mono ?_
  clear HT1
  rintro e W9 ⟨rfl, hb⟩
  have HX9 := Lib.hid (HX7.out.below hb HX7.out.lt)
  have HB9 := Lib.hid (HB7.out.trans (hb.mono HB7.out.size))
  have HA9 := Lib.hid (HA7.out.trans (hb.mono HA7.out.size))
  clear hb p9 y0 y1 y2 y3 y4 y5 y6 y7 y8 y9 HY7 HX7 HB7 HA7 HAU7 HY5 HX5 HB5 HA5 HAU5 HX4 HB4 HA4 HAU4 HY HX HB2 HA2 HP0 HP1 HP2 HP3
  obtain ⟨cl2, ch2, ck2, al2, ah2, ak2, hus⟩ : ∃ (cl ch ck : Nat) (al ah ak : Option Addr), us1 = [.int .i64 3, .int .i64 1, .string ⟨#[98, 111, 100, 121]⟩, .string ⟨#[102, 111, 120]⟩, .string ⟨#[]⟩, .slice al 0 cl, .slice ah 0 ch, .int .i64 0, .int .i64 0, .slice ak 0 ck] := OQ.shape (k := 3) (o := 1) (f := ⟨#[98, 111, 100, 121]⟩) (t := ⟨#[102, 111, 120]⟩) (u := ⟨#[]⟩) (lo := []) (hi := []) (b := 0) (op := 0) (ks := []) HO1.out
  subst hus
  obtain ⟨cl3, ch3, ck3, al3, ah3, ak3, hus⟩ : ∃ (cl ch ck : Nat) (al ah ak : Option Addr), us2 = [.int .i64 7, .int .i64 3, .string ⟨#[110]⟩, .string ⟨#[]⟩, .string ⟨#[]⟩, .slice al 1 cl, .slice ah 1 ch, .int .i64 0, .int .i64 0, .slice ak 0 ck] := OQ.shape (k := 7) (o := 3) (f := ⟨#[110]⟩) (t := ⟨#[]⟩) (u := ⟨#[]⟩) (lo := [1]) (hi := [5]) (b := 0) (op := 0) (ks := []) HO2.out
  subst hus
  have HRD : Hid (Reads W1 W1.heap.size 1 ah3 1 [.int .i64 5]) := Lib.hid (by
    obtain ⟨vl, vh, vk, e, h1, h2, h3⟩ := at_cells (kd := 7) (oc := 3) (f := ⟨#[110]⟩) (t := ⟨#[]⟩) (u := ⟨#[]⟩) (lo := [1]) (hi := [5]) (b := 0) (op := 0) (ks := []) HO2.out.atw
    obtain ⟨A, c, rfl, _, _, hr⟩ := at_ints h2
    simp only [List.cons.injEq] at e
    obtain ⟨_, _, _, _, _, _, e, _⟩ := e
    injection e with e1 e2 e3
    subst e1
    exact hr)
  have HCB := Lib.hid (fun (V : World) (hV : Below W1.heap.size W1 V) (j : Nat) (v : Value) (hj : _) => (hV.cell hg).trans (HC.out j v hj))
  have c0 : W9.cell? ⟨g, 0, none⟩ = some (.int .i64 3) := HCB.out W9 HA9.out 0 _ rfl
  have c3 : W9.cell? ⟨g, 3, none⟩ = some (.string ⟨#[102, 111, 120]⟩) := HCB.out W9 HA9.out 3 _ rfl
  have c11 : W9.cell? ⟨g, 11, none⟩ = some (.int .i64 3) := HCB.out W9 HA9.out 11 _ rfl
  have c16 : W9.cell? ⟨g, 16, none⟩ = some (.slice ah3 1 ch3) := HCB.out W9 HA9.out 16 _ rfl
  obtain ⟨p0, p1, p2, p3, p4, p5, p6, p7, p8, p9⟩ := tenB HX9.out
  have hA : Below W9.heap.size W9 (W9.alloc (.cells #[.int .i64 5] 2)) := (Below.refl _ W9).alloc (Nat.le_refl _) _
  have HIN := Lib.hid (int64s_any ah3 (some ⟨W9.heap.size, 0, none⟩) ch3 1 [5] [5] (W9.alloc (.cells #[.int .i64 5] 2)) ((HRD.out.below (HA9.out.trans (hA.mono HA9.out.size))).more (Nat.le_trans HA9.out.size hA.size)) (by rw [World.size_alloc]; exact reads_newP W9 2 [.int .i64 5] 1 rfl) (by decide) (by decide) true (by simp))
  have HX10 := Lib.hid (HX9.out.below hA HX9.out.lt)
  have HB10 := Lib.hid (HB9.out.trans (hA.mono HB9.out.size))
  have HA10 := Lib.hid (HA9.out.trans (hA.mono HA9.out.size))
  clear hA
  go_wp2_with fail
  refine HIN.out.mono ?_
  clear HIN
  rintro e W11 ⟨rfl, hb⟩
  have HX11 := Lib.hid (HX10.out.below hb HX10.out.lt)
  have HB11 := Lib.hid (HB10.out.trans (hb.mono HB10.out.size))
  have HA11 := Lib.hid (HA10.out.trans (hb.mono HA10.out.size))
  clear hb c0 c3 c11 c16 p0 p1 p2 p3 p4 p5 p6 p7 p8 p9 HX9 HB9 HA9 HX10 HB10 HA10
  obtain ⟨p0, p1, p2, p3, p4, p5, p6, p7, p8, p9⟩ := tenB HX11.out
  have HT0 := Lib.hid (Qry.text_any kq0 _ W11 (ok_of_parse kp0) (atL_ltw HO.out.atw HA11.out) (fun V hV => HTAB.out V (HB11.out.trans (hV.mono HB11.out.size))) (by have := (got_ok kp0).2.1; omega))
  rw [kw0] at HT0
  unfold kt0 at HT0
  go_wp2_with fail
  refine HT0.out.mono ?_
  clear HT0
  rintro e W12 ⟨rfl, hb⟩
  have HX12 := Lib.hid (HX11.out.below hb HX11.out.lt)
  have HB12 := Lib.hid (HB11.out.trans (hb.mono HB11.out.size))
  have HA12 := Lib.hid (HA11.out.trans (hb.mono HA11.out.size))
  clear hb p0 p1 p2 p3 p4 p5 p6 p7 p8 p9 HX11 HB11 HA11
  obtain ⟨p0, p1, p2, p3, p4, p5, p6, p7, p8, p9⟩ := tenB HX12.out
  have HF0 := Lib.hid (formed_any kq0 _ W12 (ok_of_parse kp0) (atL_ltw HO.out.atw HA12.out))
  rw [kf0] at HF0
  go_wp2_with fail
  refine HF0.out.mono ?_
  clear HF0
  rintro e W13 ⟨rfl, hb⟩
  have HX13 := Lib.hid (HX12.out.below hb HX12.out.lt)
  have HB13 := Lib.hid (HB12.out.trans (hb.mono HB12.out.size))
  have HA13 := Lib.hid (HA12.out.trans (hb.mono HA12.out.size))
  clear hb p0 p1 p2 p3 p4 p5 p6 p7 p8 p9 HX12 HB12 HA12
  obtain ⟨p0, p1, p2, p3, p4, p5, p6, p7, p8, p9⟩ := tenB HX13.out
  have HD0 := Lib.hid (depth_any _ kq0 _ W13 (Nat.le_refl _) (atL_ltw HO.out.atw HA13.out) (by rw [kd0]; decide))
  rw [kd0] at HD0
  go_wp2_with fail
  refine HD0.out.mono ?_
  clear HD0
  rintro e W14 ⟨rfl, hb⟩
  have HX14 := Lib.hid (HX13.out.below hb HX13.out.lt)
  have HB14 := Lib.hid (HB13.out.trans (hb.mono HB13.out.size))
  have HA14 := Lib.hid (HA13.out.trans (hb.mono HA13.out.size))
  clear hb p0 p1 p2 p3 p4 p5 p6 p7 p8 p9 HX13 HB13 HA13
  have p9 : W14.cell? ⟨W1.heap.size, 9, none⟩ = some (.slice (some ⟨g, 0, none⟩) 2 ck) := HX14.out.cell 9
  have c0 : W14.cell? ⟨g, 0, none⟩ = some (.int .i64 3) := HCB.out W14 HA14.out 0 _ rfl
  have c1 : W14.cell? ⟨g, 1, none⟩ = some (.int .i64 1) := HCB.out W14 HA14.out 1 _ rfl
  have c2 : W14.cell? ⟨g, 2, none⟩ = some (.string ⟨#[98, 111, 100, 121]⟩) := HCB.out W14 HA14.out 2 _ rfl
  have c3 : W14.cell? ⟨g, 3, none⟩ = some (.string ⟨#[102, 111, 120]⟩) := HCB.out W14 HA14.out 3 _ rfl
  have c4 : W14.cell? ⟨g, 4, none⟩ = some (.string ⟨#[]⟩) := HCB.out W14 HA14.out 4 _ rfl
  have c5 : W14.cell? ⟨g, 5, none⟩ = some (.slice al2 0 cl2) := HCB.out W14 HA14.out 5 _ rfl
  have c6 : W14.cell? ⟨g, 6, none⟩ = some (.slice ah2 0 ch2) := HCB.out W14 HA14.out 6 _ rfl
  have c7 : W14.cell? ⟨g, 7, none⟩ = some (.int .i64 0) := HCB.out W14 HA14.out 7 _ rfl
  have c8 : W14.cell? ⟨g, 8, none⟩ = some (.int .i64 0) := HCB.out W14 HA14.out 8 _ rfl
  have c9 : W14.cell? ⟨g, 9, none⟩ = some (.slice ak2 0 ck2) := HCB.out W14 HA14.out 9 _ rfl
  have HF1 := Lib.hid (formed_any kk0 _ W14 HK.out.1 (atL_ltw HO1.out.atw HA14.out))
  rw [kf1] at HF1
  go_wp2_with fail
  refine HF1.out.mono ?_
  clear HF1
  rintro e W15 ⟨rfl, hb⟩
  have HB15 := Lib.hid (HB14.out.trans (hb.mono HB14.out.size))
  clear hb
  go_wp2_with fail
  go_ret
  exact ⟨rfl, HB15.out⟩
end Go.Proofs.YtinmiekbhoemjaaDoor.Qry
end
