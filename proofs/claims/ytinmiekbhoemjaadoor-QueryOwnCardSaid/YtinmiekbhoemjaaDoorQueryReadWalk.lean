/- The walk of QueryRead. Written by gen_qread.py. -/
import Derived.Test.YtinmiekbhoemjaaDoorPack53
set_option linter.unusedVariables false
namespace Go.Proofs.YtinmiekbhoemjaaDoor.Qry
open Go.RowKit Words Tree QryP Kit Sch SchP Owned

/-- What is read is read again from its text, unless that is too long. -/
theorem read_two {r : R} {q : QT} (h : parseS numT parT r = .ok q) : (4096 < (str (textQ numT q)).size → parseS numT parT (str (textQ numT q)).data.toList = .error ((str (textQ numT q)).size, 3)) ∧ ((str (textQ numT q)).size ≤ 4096 → parseS numT parT (str (textQ numT q)).data.toList = .ok q) := by
  obtain ⟨_, _, h1, h2, h3⟩ := got_ok h
  have e : textQ numT q = writeF numT q := by unfold textQ; rw [if_pos h2]
  have e2 : (str (textQ numT q)).data.toList = writeF numT q := by rw [e]; simp [str]
  have e3 : (str (textQ numT q)).size = (writeF numT q).length := by rw [e]; simp [str, ByteArray.size]
  rw [e2, e3]
  refine ⟨fun hl => ?_, fun hl => (parse_text num_law q h2 h3 hl).1 h1⟩
  unfold parseS
  rw [if_pos hl]
end Go.Proofs.YtinmiekbhoemjaaDoor.Qry
namespace Go.Proofs.YtinmiekbhoemjaaDoor.QueryReadWalk
open Go.RowKit Words Tree QryP Kit Sch SchP Owned Qry
set_option maxRecDepth 100000 in
set_option maxHeartbeats 4000000 in
theorem walk (s : ByteArray) (w : World) (hT : PTabs w) : Calls Tryd.prog 5 #[.string s] w (BoolB true w) := by
  have HTAB := Lib.hid (fun (V : World) (hV : Below w.heap.size w V) => ((PT.of hT).next hV).here)
  obtain ⟨x, hx⟩ : ∃ x, parseS numT parT s.data.toList = x := ⟨_, rfl⟩
  have HP0 := Lib.hid (fun (V : World) (hV : Below w.heap.size w V) => (by rw [← hx]; exact parse_any s V (HTAB.out V hV) : Calls Tryd.prog 17 #[.string s] V (ParseV s V x)))
  have HKN := Lib.hid (known_any w hT)
  have HX := Lib.hid hx
  clear hT hx
  go_enter Tryd.func5, Tryd.ntmps5
  go_wp2_with fail
  refine HKN.out.mono ?_
  clear HKN
  rintro e W1 ⟨rfl, hb⟩
  have HB1 := Lib.hid hb
  clear hb
  go_wp2_with fail
  refine (HP0.out W1 HB1.out).mono ?_
  clear HP0
  match x with
  | .error (p, c) =>
    rintro e W2 ⟨rfl, hb⟩
    have HB2 := Lib.hid (HB1.out.trans (hb.mono HB1.out.size))
    have hbad := parse_bad HX.out
    have hp : p ≤ s.size := by simpa using hbad.1
    have hc : (c != 0) = true := by rcases hbad.2 with rfl | rfl | rfl <;> rfl
    have h1 : decide ((0 : Int) ≤ ((s.size - p : Nat) : Int)) = true := decide_eq_true (by omega)
    have h2 : decide (((s.size - p : Nat) : Int) ≤ (s.size : Int)) = true := decide_eq_true (by omega)
    have hb2 := HB2.out.trans (((Below.refl W2.heap.size W2).alloc (Nat.le_refl _) (.cells zeroQ 25)).mono HB2.out.size)
    have HB3 := Lib.hid hb2
    have hq := (Blk.new W2 25 zeroQ).cell 0
    unfold zeroQ at hq HB3 ⊢
    clear hb hb2 hbad hp HX
    generalize ((s.size - p : Nat) : Int) = at_ at *
    go_upto_region 4 with fail
    generalize (W2.alloc (.cells #[.int .i64 0, .int .i64 0, .string ⟨#[]⟩, .string ⟨#[]⟩, .string ⟨#[]⟩, .slice none 0 0, .slice none 0 0, .int .i64 0, .int .i64 0, .slice none 0 0] 25)) = W3 at *
    have hq0 : W3.cell? ⟨W2.heap.size, 0, none⟩ = some (.int .i64 0) := hq
    clear hq
    go_wp2_with fail
    go_ret
    exact ⟨rfl, HB3.out⟩
  | .ok q =>
    rintro e W2 ⟨us, bs, rfl, hoq, hnd, hb⟩
    have HB2 := Lib.hid (HB1.out.trans (hb.mono HB1.out.size))
    obtain ⟨hok, hlen, hd, hf, hn⟩ := got_ok HX.out
    obtain ⟨hr1, hr2⟩ := read_two HX.out
    have HAU := Lib.hid hoq.atw
    have HOK := Lib.hid hok
    have HTX := Lib.hid (fun (V : World) (us : List Value) (hV : Below w.heap.size w V) (ha : T.AtL bare V (fun g => g < V.heap.size) (cells q) us) => Qry.text_any q us V hok ha (fun U hU => (HTAB.out U (hV.trans (hU.mono hV.size))).pow) (by omega))
    have HFM := Lib.hid (fun (V : World) (us : List Value) (ha : T.AtL bare V (fun g => g < V.heap.size) (cells q) us) => hf ▸ formed_any q us V hok ha)
    have HDP := Lib.hid (fun (V : World) (us : List Value) (ha : T.AtL bare V (fun g => g < V.heap.size) (cells q) us) => depth_any _ q us V (Nat.le_refl _) ha (by omega))
    have HSM := Lib.hid (fun (V : World) (us vs : List Value) (ha : T.AtL bare V (fun g => g < V.heap.size) (cells q) us) (hb : T.AtL bare V (fun g => g < V.heap.size) (cells q) vs) => kitQuery_any _ q q us vs V (Nat.le_refl _) hok hok ha hb true (by simp))
    have HSH := Lib.hid (fun (V : World) (B : Nat) (us : List Value) (bs : List Nat) (h : OQ V B q us bs) => h)
    generalize str (textQ numT q) = tx at *
    have hdd : decide ((depthF q : Int) ≤ 6) = true := decide_eq_true (by omega)
    generalize depthF q = dq at *
    have HR1 := Lib.hid hr1; have HR2 := Lib.hid hr2
    clear hok hlen hd hf hn hr1 hr2 hnd hb HX
    obtain ⟨kd, oc, f, t, u, lo, hi, b, op, ks⟩ := q
    obtain ⟨cl1, ch1, ck1, al1, ah1, ak1, hus⟩ := OQ.shape hoq
    subst hus
    clear hoq
    have HX3 := Lib.hid (Blk.new W2 25 #[.int .i64 kd, .int .i64 oc, .string f, .string t, .string u, .slice al1 lo.length cl1, .slice ah1 hi.length ch1, .int .i64 b, .int .i64 op, .slice ak1 ks.length ck1])
    have hA : Below W2.heap.size W2 (W2.alloc (.cells #[.int .i64 kd, .int .i64 oc, .string f, .string t, .string u, .slice al1 lo.length cl1, .slice ah1 hi.length ch1, .int .i64 b, .int .i64 op, .slice ak1 ks.length ck1] 25)) := (Below.refl _ W2).alloc (Nat.le_refl _) _
    have HAU3 := Lib.hid (atL_ltw HAU.out hA)
    have HB3 := Lib.hid (HB2.out.trans (hA.mono HB2.out.size))
    clear hA HAU
    go_upto_region 4 with fail
    generalize (W2.alloc (.cells #[.int .i64 kd, .int .i64 oc, .string f, .string t, .string u, .slice al1 lo.length cl1, .slice ah1 hi.length ch1, .int .i64 b, .int .i64 op, .slice ak1 ks.length ck1] 25)) = W3 at *
    obtain ⟨p0, p1, p2, p3, p4, p5, p6, p7, p8, p9⟩ := tenB HX3.out
    have HT3 := Lib.hid (HTX.out W3 _ HB3.out HAU3.out)
    go_wp2_with fail
    refine HT3.out.mono ?_
    clear HT3 HTX
    rintro e W4 ⟨rfl, hb⟩
    have HB4 := Lib.hid (HB3.out.trans (hb.mono HB3.out.size))
    have HX4 := Lib.hid (HX3.out.below hb HX3.out.lt)
    have HAU4 := Lib.hid (atL_ltw HAU3.out hb)
    have hlt3 : W2.heap.size < W3.heap.size := HX3.out.lt
    have hsz4 : W3.heap.size ≤ W4.heap.size := hb.size
    clear hb p0 p1 p2 p3 p4 p5 p6 p7 p8 p9 HX3 HB3 HAU3
    by_cases hlong : 4096 < tx.size
    · have HP4 := Lib.hid (by have := parse_any tx W4 (HTAB.out W4 HB4.out); rw [HR1.out hlong] at this; exact this)
      have dl : decide ((4096 : Int) < (tx.size : Int)) = true := decide_eq_true (by omega)
      go_wp2_with fail
      refine HP4.out.mono ?_
      clear HP4
      rintro e W5 ⟨rfl, hb⟩
      have hb5 := (Below.refl W5.heap.size W5).alloc (Nat.le_refl _) (.cells zeroQ 25)
      have hAA := hb.trans (hb5.mono hb.size)
      have HB6 := Lib.hid (HB4.out.trans (hAA.mono HB4.out.size))
      have HX6 := Lib.hid (HX4.out.below hAA HX4.out.lt)
      have HAU6 := Lib.hid (atL_ltw HAU4.out hAA)
      have hn5 : W2.heap.size ≠ W5.heap.size := by have := hb.size; omega
      unfold zeroQ at hb5 hAA HB6 HX6 HAU6 ⊢
      go_upto_region 8 with fail
      clear hb hb5 hAA
      generalize (W5.alloc (.cells #[.int .i64 0, .int .i64 0, .string ⟨#[]⟩, .string ⟨#[]⟩, .string ⟨#[]⟩, .slice none 0 0, .slice none 0 0, .int .i64 0, .int .i64 0, .slice none 0 0] 25)) = W6 at *
      obtain ⟨p0, p1, p2, p3, p4, p5, p6, p7, p8, p9⟩ := tenB HX6.out
      have HF6 := Lib.hid (HFM.out W6 _ HAU6.out)
      go_wp2_with fail
      refine HF6.out.mono ?_
      clear HF6
      rintro e W7 ⟨rfl, hb⟩
      have HB7 := Lib.hid (HB6.out.trans (hb.mono HB6.out.size))
      have HX7 := Lib.hid (HX6.out.below hb HX6.out.lt)
      have HAU7 := Lib.hid (atL_ltw HAU6.out hb)
      clear hb p0 p1 p2 p3 p4 p5 p6 p7 p8 p9
      obtain ⟨p0, p1, p2, p3, p4, p5, p6, p7, p8, p9⟩ := tenB HX7.out
      have HD7 := Lib.hid (HDP.out W7 _ HAU7.out)
      go_wp2_with fail
      refine HD7.out.mono ?_
      clear HD7
      rintro e W8 ⟨rfl, hb⟩
      have HB8 := Lib.hid (HB7.out.trans (hb.mono HB7.out.size))
      clear hb p0 p1 p2 p3 p4 p5 p6 p7 p8 p9
      go_wp2_with fail
      go_ret
      exact ⟨rfl, HB8.out⟩
    · have HP4 := Lib.hid (by have := parse_any tx W4 (HTAB.out W4 HB4.out); rw [HR2.out (by omega)] at this; exact this)
      have dl : decide ((4096 : Int) < (tx.size : Int)) = false := decide_eq_false (by omega)
      go_wp2_with fail
      refine HP4.out.mono ?_
      clear HP4
      rintro e W5 ⟨us, bs, rfl, hoq, hnd, hb⟩
      obtain ⟨cl2, ch2, ck2, al2, ah2, ak2, hus⟩ := OQ.shape hoq
      subst hus
      have hb5 : Below W5.heap.size W5 (W5.alloc (.cells #[.int .i64 kd, .int .i64 oc, .string f, .string t, .string u, .slice al2 lo.length cl2, .slice ah2 hi.length ch2, .int .i64 b, .int .i64 op, .slice ak2 ks.length ck2] 25)) := (Below.refl _ W5).alloc (Nat.le_refl _) _
      have hAA := hb.trans (hb5.mono hb.size)
      have HB6 := Lib.hid (HB4.out.trans (hAA.mono HB4.out.size))
      have HX6 := Lib.hid (HX4.out.below hAA HX4.out.lt)
      have HY6 := Lib.hid (Blk.new W5 25 #[.int .i64 kd, .int .i64 oc, .string f, .string t, .string u, .slice al2 lo.length cl2, .slice ah2 hi.length ch2, .int .i64 b, .int .i64 op, .slice ak2 ks.length ck2])
      have HAU6 := Lib.hid (atL_ltw HAU4.out hAA)
      have HAV6 := Lib.hid (atL_ltw hoq.atw hb5)
      have hn5 : W2.heap.size ≠ W5.heap.size := by have := hb.size; omega
      go_upto_region 8 with fail
      clear hb hb5 hAA hoq hnd
      generalize (W5.alloc (.cells #[.int .i64 kd, .int .i64 oc, .string f, .string t, .string u, .slice al2 lo.length cl2, .slice ah2 hi.length ch2, .int .i64 b, .int .i64 op, .slice ak2 ks.length ck2] 25)) = W6 at *
      obtain ⟨p0, p1, p2, p3, p4, p5, p6, p7, p8, p9⟩ := tenB HX6.out
      have HF6 := Lib.hid (HFM.out W6 _ HAU6.out)
      go_wp2_with fail
      refine HF6.out.mono ?_
      clear HF6
      rintro e W7 ⟨rfl, hb⟩
      have HB7 := Lib.hid (HB6.out.trans (hb.mono HB6.out.size))
      have HX7 := Lib.hid (HX6.out.below hb HX6.out.lt)
      have HY7 := Lib.hid (HY6.out.below hb HY6.out.lt)
      have HAU7 := Lib.hid (atL_ltw HAU6.out hb)
      have HAV7 := Lib.hid (atL_ltw HAV6.out hb)
      clear hb p0 p1 p2 p3 p4 p5 p6 p7 p8 p9
      obtain ⟨p0, p1, p2, p3, p4, p5, p6, p7, p8, p9⟩ := tenB HX7.out
      have HD7 := Lib.hid (HDP.out W7 _ HAU7.out)
      go_wp2_with fail
      refine HD7.out.mono ?_
      clear HD7
      rintro e W8 ⟨rfl, hb⟩
      have HB8 := Lib.hid (HB7.out.trans (hb.mono HB7.out.size))
      have HX8 := Lib.hid (HX7.out.below hb HX7.out.lt)
      have HY8 := Lib.hid (HY7.out.below hb HY7.out.lt)
      have HAU8 := Lib.hid (atL_ltw HAU7.out hb)
      have HAV8 := Lib.hid (atL_ltw HAV7.out hb)
      clear hb p0 p1 p2 p3 p4 p5 p6 p7 p8 p9
      obtain ⟨p0, p1, p2, p3, p4, p5, p6, p7, p8, p9⟩ := tenB HX8.out
      obtain ⟨y0, y1, y2, y3, y4, y5, y6, y7, y8, y9⟩ := tenB HY8.out
      have HS8 := Lib.hid (HSM.out W8 _ _ HAV8.out HAU8.out)
      go_wp2_with fail
      refine HS8.out.mono ?_
      clear HS8
      rintro e W9 ⟨rfl, hb⟩
      have HB9 := Lib.hid (HB8.out.trans (hb.mono HB8.out.size))
      clear hb p0 p1 p2 p3 p4 p5 p6 p7 p8 p9 y0 y1 y2 y3 y4 y5 y6 y7 y8 y9
      go_wp2_with fail
      go_ret
      exact ⟨rfl, HB9.out⟩
end Go.Proofs.YtinmiekbhoemjaaDoor.QueryReadWalk
