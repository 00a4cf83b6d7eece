/- The walk of QueryBack. Written by gen_qback.py. -/
import Derived.Test.YtinmiekbhoemjaaDoorQueryReadWalk
import Derived.Test.YtinmiekbhoemjaaDoorPack20
set_option linter.unusedVariables false
namespace Go.Proofs.YtinmiekbhoemjaaDoor.Qry
open Go.RowKit Words Tree QryP Kit Sch SchP Owned
theorem numsL_of {I : Int → Prop} : ∀ {ks : List QT}, (∀ k ∈ ks, numsIn I k) → numsInL I ks
  | [], _ => by rw [numsInL]; trivial
  | a :: l, h => by rw [numsInL]; exact ⟨h a (by simp), numsL_of fun k hk => h k (by simp [hk])⟩
theorem nums_of_ok : ∀ (m : Nat) (q : QT), q.sz ≤ m → Ok q → numsIn I64 q := by
  intro m
  induction m with
  | zero => intro q h; have := q.sz_pos; omega
  | succ m ih =>
    intro q hm hq
    cases hq with
    | @mk kd oc f t u lo hi b op ks h1 h2 h3 h4 h5 h6 h7 h8 h9 h10 hk =>
    rw [numsIn]
    refine ⟨h6.2, h7.2, h8, numsL_of fun k hkm => ih k ?_ (hk k hkm)⟩
    have := QT.sz_kid (kd := kd) (oc := oc) (f := f) (t := t) (u := u) (lo := lo) (hi := hi) (b := b) (op := op) hkm
    omega
/-- A formed query's text is read again, unless that is too long or too deep. -/
theorem back_two {q : QT} (hok : Ok q) (hf : formedB 0 q = true) : (4096 < (str (textQ numT q)).size → ∃ p, parseS numT parT (str (textQ numT q)).data.toList = .error (p, 3)) ∧
    ((str (textQ numT q)).size ≤ 4096 → (6 < depthF q → ∃ p, parseS numT parT (str (textQ numT q)).data.toList = .error (p, 182)) ∧ (depthF q ≤ 6 → parseS numT parT (str (textQ numT q)).data.toList = .ok q)) := by
  have e : textQ numT q = writeF numT q := by unfold textQ; rw [if_pos hf]
  have e2 : (str (textQ numT q)).data.toList = writeF numT q := by rw [e]; simp [str]
  have e3 : (str (textQ numT q)).size = (writeF numT q).length := by rw [e]; simp [str, ByteArray.size]
  rw [e2, e3]
  refine ⟨fun hl => ⟨(writeF numT q).length, ?_⟩, fun hl => ?_⟩
  · unfold parseS
    rw [if_pos hl]
  · have := parse_text num_law q hf (nums_of_ok _ q (Nat.le_refl _) hok) hl
    exact ⟨this.2, this.1⟩
end Go.Proofs.YtinmiekbhoemjaaDoor.Qry
namespace Go.Proofs.YtinmiekbhoemjaaDoor.QueryBackWalk
open Go.RowKit Words Tree QryP Kit Sch SchP Owned Qry
set_option maxRecDepth 100000 in
set_option maxHeartbeats 4000000 in
theorem walk (q : QT) (va : List Value) (w : World) (okq : Ok q) (ha : T.AtL bare w (fun g => g < w.heap.size) (cells q) va) (hl : (writeF numT q).length + 400 ≤ maxW) (hd : depthF q ≤ 1000000000) (hT : PTabs w) :
    Calls Tryd.prog 4 #[.agg va.toArray] w (BoolB true w) := by
  have HTAB := Lib.hid (fun (V : World) (hV : Below w.heap.size w V) => ((PT.of hT).next hV).here)
  have HKN := Lib.hid (fun (V : World) (hV : Below w.heap.size w V) => known_any V (HTAB.out V hV))
  have HL := Lib.hid (fun (V : World) (us : List Value) (ha : T.AtL bare V (fun g => g < V.heap.size) (cells q) us) => lentQ_any _ q us V (Nat.le_refl _) okq ha)
  have HTX := Lib.hid (fun (V : World) (us : List Value) (hV : Below w.heap.size w V) (ha : T.AtL bare V (fun g => g < V.heap.size) (cells q) us) => Qry.text_any q us V okq ha (fun U hU => (HTAB.out U (hV.trans (hU.mono hV.size))).pow) (by omega))
  have HFM := Lib.hid (fun (V : World) (us : List Value) (ha : T.AtL bare V (fun g => g < V.heap.size) (cells q) us) => formed_any q us V okq ha)
  have HDP := Lib.hid (fun (V : World) (us : List Value) (ha : T.AtL bare V (fun g => g < V.heap.size) (cells q) us) => depth_any _ q us V (Nat.le_refl _) ha hd)
  have HSM := Lib.hid (fun (V : World) (us vs : List Value) (ha : T.AtL bare V (fun g => g < V.heap.size) (cells q) us) (hb : T.AtL bare V (fun g => g < V.heap.size) (cells q) vs) => kitQuery_any _ q q us vs V (Nat.le_refl _) okq okq ha hb true (by simp))
  have HTW := Lib.hid (fun hf : formedB 0 q = true => back_two okq hf)
  have HTE : Hid (formedB 0 q = false → str (textQ numT q) = ⟨#[]⟩) := Lib.hid (fun hf => by unfold textQ; rw [hf]; rfl)
  have HAU := Lib.hid ha
  generalize str (textQ numT q) = tx at *
  generalize depthF q = dq at *
  generalize formedB 0 q = fm at *
  clear hT okq hl hd ha
  obtain ⟨kd, oc, f, t, u, lo, hi, b, op, ks⟩ := q
  obtain ⟨vl, vh, vk, rfl, hvl, hvh, hvk⟩ := at_cells HAU.out
  obtain ⟨al1, cl1, rfl⟩ := at_form' hvl
  obtain ⟨ah1, ch1, rfl⟩ := at_form' hvh
  obtain ⟨ak1, ck1, rfl⟩ := at_form' hvk
  clear hvl hvh hvk
  have HX0 := Lib.hid (Blk.new w 25 #[.int .i64 kd, .int .i64 oc, .string f, .string t, .string u, .slice al1 lo.length cl1, .slice ah1 hi.length ch1, .int .i64 b, .int .i64 op, .slice ak1 ks.length ck1])
  have HB0 : Hid (Below w.heap.size w (w.alloc (.cells #[.int .i64 kd, .int .i64 oc, .string f, .string t, .string u, .slice al1 lo.length cl1, .slice ah1 hi.length ch1, .int .i64 b, .int .i64 op, .slice ak1 ks.length ck1] 25))) := Lib.hid ((Below.refl _ w).alloc (Nat.le_refl _) _)
  have HAU0 := Lib.hid (atL_ltw HAU.out HB0.out)
  go_enter Tryd.func4, Tryd.ntmps4
  go_upto_region 1 with fail
  generalize (w.alloc (.cells #[.int .i64 kd, .int .i64 oc, .string f, .string t, .string u, .slice al1 lo.length cl1, .slice ah1 hi.length ch1, .int .i64 b, .int .i64 op, .slice ak1 ks.length ck1] 25)) = W0 at *
  have HK0 := Lib.hid (HKN.out W0 HB0.out)
  go_wp2_with fail
  refine HK0.out.mono ?_
  clear HK0 HKN
  rintro e W1 ⟨rfl, hb⟩
  have HB1 := Lib.hid (HB0.out.trans (hb.mono HB0.out.size))
  have HX1 := Lib.hid (HX0.out.below hb HX0.out.lt)
  have HAU1 := Lib.hid (atL_ltw HAU0.out hb)
  clear hb
  obtain ⟨p0, p1, p2, p3, p4, p5, p6, p7, p8, p9⟩ := tenB HX1.out
  have HL1 := Lib.hid (HL.out W1 _ HAU1.out)
  go_wp2_with fail
  refine HL1.out.mono ?_
  clear HL1 HL
  rintro e W2 ⟨us, rfl, au, hb⟩
  have HB2 := Lib.hid (HB1.out.trans (hb.mono HB1.out.size))
  have HX2 := Lib.hid (HX1.out.below hb HX1.out.lt)
  have HAU2 := Lib.hid (atL_ltw HAU1.out hb)
  have HT2 := Lib.hid (HTX.out W2 us HB2.out (AtL.keep (fun _ _ => rfl) (fun g hg => hg.2) (AtL.bare au)))
  clear hb p0 p1 p2 p3 p4 p5 p6 p7 p8 p9 au
  go_wp2_with fail
  refine HT2.out.mono ?_
  clear HT2 HTX
  rintro e W3 ⟨rfl, hb⟩
  have HB3 := Lib.hid (HB2.out.trans (hb.mono HB2.out.size))
  have HX3 := Lib.hid (HX2.out.below hb HX2.out.lt)
  have HAU3 := Lib.hid (atL_ltw HAU2.out hb)
  clear hb HB0 HX0 HAU0 HB1 HX1 HAU1 HB2 HX2 HAU2
  obtain ⟨p0, p1, p2, p3, p4, p5, p6, p7, p8, p9⟩ := tenB HX3.out
  have HF3 := Lib.hid (HFM.out W3 _ HAU3.out)
  go_wp2_with fail
  refine HF3.out.mono ?_
  clear HF3
  rintro e W4 ⟨rfl, hb⟩
  have HB4 := Lib.hid (HB3.out.trans (hb.mono HB3.out.size))
  have HX4 := Lib.hid (HX3.out.below hb HX3.out.lt)
  have HAU4 := Lib.hid (atL_ltw HAU3.out hb)
  clear hb p0 p1 p2 p3 p4 p5 p6 p7 p8 p9 HB3 HX3 HAU3
  cases fm with
  | false =>
    obtain rfl := HTE.out rfl
    go_wp2_with fail
    go_ret
    exact ⟨rfl, HB4.out⟩
  | true =>
    obtain ⟨htl, hts⟩ := HTW.out rfl
    clear HTW HTE
    have hlt4 : w.heap.size < W4.heap.size := HX4.out.lt
    by_cases hlong : 4096 < tx.size
    · obtain ⟨p, hp⟩ := htl hlong
      have HP4 := Lib.hid (by have := parse_any tx W4 (HTAB.out W4 HB4.out); rw [hp] at this; exact this)
      have dl : decide ((4096 : Int) < (tx.size : Int)) = true := decide_eq_true (by omega)
      clear htl hts hp
      go_wp2_with fail
      refine HP4.out.mono ?_
      clear HP4
      rintro e W5 ⟨rfl, hb⟩
      have hb5 := (Below.refl W5.heap.size W5).alloc (Nat.le_refl _) (.cells zeroQ 25)
      have HB6 := Lib.hid (HB4.out.trans ((hb.trans (hb5.mono hb.size)).mono HB4.out.size))
      unfold zeroQ at hb5 HB6 ⊢
      generalize ((tx.size - p : Nat) : Int) = at_ at *
      go_wp2_with fail
      go_ret
      exact ⟨rfl, HB6.out⟩
    · have dl : decide ((4096 : Int) < (tx.size : Int)) = false := decide_eq_false (by omega)
      obtain ⟨htd, hto⟩ := hts (by omega)
      clear htl hts
      by_cases hdeep : 6 < dq
      · obtain ⟨p, hp⟩ := htd hdeep
        have HP4 := Lib.hid (by have := parse_any tx W4 (HTAB.out W4 HB4.out); rw [hp] at this; exact this)
        have dd : decide ((6 : Int) < (dq : Int)) = true := decide_eq_true (by omega)
        clear htd hto hp
        go_wp2_with fail
        refine HP4.out.mono ?_
        clear HP4
        rintro e W5 ⟨rfl, hb⟩
        have hb5 := (Below.refl W5.heap.size W5).alloc (Nat.le_refl _) (.cells zeroQ 25)
        have hAA := hb.trans (hb5.mono hb.size)
        have HB6 := Lib.hid (HB4.out.trans (hAA.mono HB4.out.size))
        have HX6 := Lib.hid (HX4.out.below hAA HX4.out.lt)
        have HAU6 := Lib.hid (atL_ltw HAU4.out hAA)
        have hn5 : w.heap.size ≠ W5.heap.size := by have := hb.size; omega
        unfold zeroQ at hb5 hAA HB6 HX6 HAU6 ⊢
        generalize ((tx.size - p : Nat) : Int) = at_ at *
        go_upto_region 7 with fail
        clear hb hb5 hAA
        generalize (W5.alloc (.cells #[.int .i64 0, .int .i64 0, .string ⟨#[]⟩, .string ⟨#[]⟩, .string ⟨#[]⟩, .slice none 0 0, .slice none 0 0, .int .i64 0, .int .i64 0, .slice none 0 0] 25)) = W6 at *
        obtain ⟨p0, p1, p2, p3, p4, p5, p6, p7, p8, p9⟩ := tenB HX6.out
        have HD6 := Lib.hid (HDP.out W6 _ HAU6.out)
        go_wp2_with fail
        refine HD6.out.mono ?_
        clear HD6
        rintro e W7 ⟨rfl, hb⟩
        have HB7 := Lib.hid (HB6.out.trans (hb.mono HB6.out.size))
        clear hb p0 p1 p2 p3 p4 p5 p6 p7 p8 p9
        go_wp2_with fail
        go_ret
        exact ⟨rfl, HB7.out⟩
      · have hp := hto (by omega)
        have HP4 := Lib.hid (by have := parse_any tx W4 (HTAB.out W4 HB4.out); rw [hp] at this; exact this)
        have dd : decide ((6 : Int) < (dq : Int)) = false := decide_eq_false (by omega)
        clear htd hto hp
        go_wp2_with fail
        refine HP4.out.mono ?_
        clear HP4
        rintro e W5 ⟨us, bs, rfl, hoq, hnd, hb⟩
        obtain ⟨cl2, ch2, ck2, al2, ah2, ak2, hus⟩ := OQ.shape hoq
        subst hus
        have hb5 : Below W5.heap.size W5 (W5.alloc (.cells #[.int .i64 kd, .int .i64 oc, .string f, .string t, .string u, .slice al2 lo.length cl2, .slice ah2 hi.length ch2, .int .i64 b, .int .i64 op, .slice ak2 ks.length ck2] 25)) := (Below.refl _ W5).alloc (Nat.le_refl _) _
        have hAA := hb.trans (hb5.mono hb.size)
        have HB6 := Lib.hid (HB4.out.trans (hAA.mono HB4.out.size))
        have HX6 := Lib.hid (HX4.out.below hAA HX4.out.lt)
        have HY6 := Lib.hid (Blk.new W5 25 #[.int .i64 kd, .int .i64 oc, .string f, .string t, .string u, .slice al2 lo.length cl2, .slice ah2 hi.length ch2, .int .i64 b, .int .i64 op, .slice ak2 ks.length ck2])
        have HAU6 := Lib.hid (atL_ltw HAU4.out hAA)
        have HAV6 := Lib.hid (atL_ltw hoq.atw hb5)
        have hn5 : w.heap.size ≠ W5.heap.size := by have := hb.size; omega
        go_upto_region 7 with fail
        clear hb hb5 hAA hoq hnd
        generalize (W5.alloc (.cells #[.int .i64 kd, .int .i64 oc, .string f, .string t, .string u, .slice al2 lo.length cl2, .slice ah2 hi.length ch2, .int .i64 b, .int .i64 op, .slice ak2 ks.length ck2] 25)) = W6 at *
        obtain ⟨p0, p1, p2, p3, p4, p5, p6, p7, p8, p9⟩ := tenB HX6.out
        have HD6 := Lib.hid (HDP.out W6 _ HAU6.out)
        go_wp2_with fail
        refine HD6.out.mono ?_
        clear HD6
        rintro e W7 ⟨rfl, hb⟩
        have HB7 := Lib.hid (HB6.out.trans (hb.mono HB6.out.size))
        have HX7 := Lib.hid (HX6.out.below hb HX6.out.lt)
        have HY7 := Lib.hid (HY6.out.below hb HY6.out.lt)
        have HAU7 := Lib.hid (atL_ltw HAU6.out hb)
        have HAV7 := Lib.hid (atL_ltw HAV6.out hb)
        clear hb p0 p1 p2 p3 p4 p5 p6 p7 p8 p9
        obtain ⟨p0, p1, p2, p3, p4, p5, p6, p7, p8, p9⟩ := tenB HX7.out
        obtain ⟨y0, y1, y2, y3, y4, y5, y6, y7, y8, y9⟩ := tenB HY7.out
        have HS7 := Lib.hid (HSM.out W7 _ _ HAV7.out HAU7.out)
        go_wp2_with fail
        refine HS7.out.mono ?_
        clear HS7
        rintro e W8 ⟨rfl, hb⟩
        have HB8 := Lib.hid (HB7.out.trans (hb.mono HB7.out.size))
        clear hb p0 p1 p2 p3 p4 p5 p6 p7 p8 p9 y0 y1 y2 y3 y4 y5 y6 y7 y8 y9
        go_wp2_with fail
        go_ret
        exact ⟨rfl, HB8.out⟩
end Go.Proofs.YtinmiekbhoemjaaDoor.QueryBackWalk
