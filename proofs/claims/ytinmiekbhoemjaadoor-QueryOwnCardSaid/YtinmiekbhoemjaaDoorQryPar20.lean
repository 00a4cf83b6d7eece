/- Contract: query.Parse. Written by gen_parse.py. -/
import Derived.Test.YtinmiekbhoemjaaDoorPack37
set_option linter.unusedVariables false
namespace Go.Proofs.YtinmiekbhoemjaaDoor.Qry
open Go.RowKit Words Tree QryP Kit Sch SchP Owned

/-- What Parse answers. -/
def ParseV (s : ByteArray) (w : World) (x : E QT) (e : Ending) (w' : World) : Prop := match x with
  | .ok q => ∃ us bs, e = .returned (.tuple #[.agg us.toArray, .int .i64 0, .int .i64 0]) ∧ OQ w' w.heap.size q us bs ∧ bs.Nodup ∧ Below w.heap.size w w'
  | .error (p, c) => e = .returned (.tuple #[.agg zeroQ, .int .i64 ((s.size - p : Nat) : Int), .int .i64 c]) ∧ Below w.heap.size w w'
theorem load_int (w : World) (g : Nat) (x : Int) (h : Blk w g 3 #[.int .i64 x]) : (Go.loadVar 3 ⟨g, 0, none⟩).run Tryd.prog w = .ok (.int .i64 x) w := by
  have hc := h.cell 0
  simp at hc
  go_simp
theorem load_err (w : World) (g : Nat) (x : Int) (h : Blk w g 32 #[.int .i64 x]) : (Go.loadVar 32 ⟨g, 0, none⟩).run Tryd.prog w = .ok (.int .i64 x) w := by
  have hc := h.cell 0
  simp at hc
  go_simp
set_option maxRecDepth 100000 in
set_option maxHeartbeats 4000000 in
theorem parse_long (s : ByteArray) (w : World) (hs : 4096 < s.size) : Calls Tryd.prog 17 #[.string s] w (ParseV s w (parseS numT parT s.data.toList)) := by
  have hx : parseS numT parT s.data.toList = .error (s.size, 3) := by
    unfold parseS
    have hl : s.data.toList.length = s.size := by simp
    rw [if_pos (by omega), hl]
  rw [hx]
  clear hx
  go_enter_defers Tryd.func17, Tryd.ntmps17
  go_wp2_with fail
  have hb : Below w.heap.size w (((w.alloc (.cells zeroQ 25)).alloc (.cells #[.int .i64 0] 3)).alloc (.cells #[.int .i64 3] 32)) := (((Below.refl _ w).alloc (Nat.le_refl _) _).alloc (by first | (simp; done) | (simp; omega)) _).alloc (by first | (simp; done) | (simp; omega)) _
  have b0 : Blk (((w.alloc (.cells zeroQ 25)).alloc (.cells #[.int .i64 0] 3)).alloc (.cells #[.int .i64 3] 32)) w.heap.size 25 zeroQ := ((Blk.new w _ _).alloc _).alloc _
  have b1 : Blk (((w.alloc (.cells zeroQ 25)).alloc (.cells #[.int .i64 0] 3)).alloc (.cells #[.int .i64 3] 32)) (w.heap.size + 1) 3 #[.int .i64 0] := by rw [← show (w.alloc (.cells zeroQ 25)).heap.size = w.heap.size + 1 by simp]; exact (Blk.new _ _ _).alloc _
  have b2 : Blk (((w.alloc (.cells zeroQ 25)).alloc (.cells #[.int .i64 0] 3)).alloc (.cells #[.int .i64 3] 32)) (w.heap.size + 1 + 1) 32 #[.int .i64 3] := by rw [← show ((w.alloc (.cells zeroQ 25)).alloc (.cells #[.int .i64 0] 3)).heap.size = w.heap.size + 1 + 1 by simp]; exact Blk.new _ _ _
  exact ⟨_, results_cell3 rfl _ _ w.heap.size (w.heap.size + 1) (w.heap.size + 1 + 1) _ _ _ _ rfl rfl rfl b0 b1 b2 Tryd.underlying25 rfl (by kernel_rfl) (load_int _ _ _ b1) (load_err _ _ _ b2), by rw [Nat.sub_self]; rfl, hb⟩
/-- A fault is caught. -/
theorem caught {s : ByteArray} {w V : World} {p : Nat} {c : Int} {T : Array Value} {c0 c1 c2 c3 c4 c5 c6 c7 c8 c9 x y : Value} (hq : Blk V w.heap.size 25 #[c0, c1, c2, c3, c4, c5, c6, c7, c8, c9]) (ha : Blk V (w.heap.size + 1) 3 #[x]) (he : Blk V (w.heap.size + 1 + 1) 32 #[y]) (hb : Below w.heap.size w V)
    (h2 : T.getD 2 undef = .pointer (some ⟨w.heap.size, 0, none⟩)) (h3 : T.getD 3 undef = .pointer (some ⟨w.heap.size + 1, 0, none⟩)) (h4 : T.getD 4 undef = .pointer (some ⟨w.heap.size + 1 + 1, 0, none⟩)) :
    bodyPostD Tryd.prog Tryd.f17 (ParseV s w (.error (p, c))) (Exit.panic [{ v := faultV ((s.size - p : Nat) : Int) c, recovered := false }]) { tmps := T, defers := [{ target := .fn (.func 31) #[.pointer (some ⟨w.heap.size, 0, none⟩), .pointer (some ⟨w.heap.size + 1, 0, none⟩), .pointer (some ⟨w.heap.size + 1 + 1, 0, none⟩)], args := #[] }] } V := by
  refine leaves_cons (f := 31) (args := #[.pointer (some ⟨w.heap.size, 0, none⟩), .pointer (some ⟨w.heap.size + 1, 0, none⟩), .pointer (some ⟨w.heap.size + 1 + 1, 0, none⟩)]) (by simp) (by simp [go_sem]) ?_
  refine (catch_fault _ _ _ _ _ [] V hq ha he (by omega) (by omega)).mono ?_
  rintro e u' w2 ⟨rfl, rfl, b0, b1, b2, hbel⟩
  exact ⟨_, results_cell3 rfl _ _ _ _ _ _ _ _ _ h2 h3 h4 b0 b1 b2 Tryd.underlying25 rfl (by kernel_rfl) (load_int _ _ _ b1) (load_err _ _ _ b2), rfl, hb.trans hbel⟩
/-- Reading is done. -/
theorem parsed {s : ByteArray} {w V : World} {q : QT} {us : List Value} {bs : List Nat} {T : Array Value} (b0 : Blk V w.heap.size 25 us.toArray) (b1 : Blk V (w.heap.size + 1) 3 #[.int .i64 0]) (b2 : Blk V (w.heap.size + 1 + 1) 32 #[.int .i64 0]) (hb : Below w.heap.size w V)
    (hoq : OQ V w.heap.size q us bs) (hnd : bs.Nodup)
    (h2 : T.getD 2 undef = .pointer (some ⟨w.heap.size, 0, none⟩)) (h3 : T.getD 3 undef = .pointer (some ⟨w.heap.size + 1, 0, none⟩)) (h4 : T.getD 4 undef = .pointer (some ⟨w.heap.size + 1 + 1, 0, none⟩)) :
    bodyPostD Tryd.prog Tryd.f17 (ParseV s w (.ok q)) Exit.ret { tmps := T, defers := [{ target := .fn (.func 31) #[.pointer (some ⟨w.heap.size, 0, none⟩), .pointer (some ⟨w.heap.size + 1, 0, none⟩), .pointer (some ⟨w.heap.size + 1 + 1, 0, none⟩)], args := #[] }] } V := by
  refine leaves_cons (f := 31) (args := #[.pointer (some ⟨w.heap.size, 0, none⟩), .pointer (some ⟨w.heap.size + 1, 0, none⟩), .pointer (some ⟨w.heap.size + 1 + 1, 0, none⟩)]) (by simp) (by simp [go_sem]) ?_
  refine (catch_idle _ _ _ V).mono ?_
  rintro e u' w2 ⟨rfl, rfl, hbel⟩
  have c0 := b0.below hbel b0.lt
  have c1 := b1.below hbel b1.lt
  have c2 := b2.below hbel b2.lt
  have hl := OQ.len hoq
  exact ⟨_, results_cell3 rfl _ _ _ _ _ _ _ _ _ h2 h3 h4 c0 c1 c2 Tryd.underlying25 rfl (by rw [List.size_toArray, hl]; kernel_rfl) (load_int _ _ _ c1) (load_err _ _ _ c2), us, bs, rfl, hoq.below hbel (Nat.le_refl _), hnd, hb.trans (hbel.mono hb.size)⟩
set_option maxRecDepth 100000 in
set_option maxHeartbeats 4000000 in
theorem parse_short (B : Nat) (s : ByteArray) (w : World) (hs : s.size ≤ 4096) (hB : B ≤ w.heap.size) (hT : PT B w) : Calls Tryd.prog 17 #[.string s] w (ParseV s w (parseS numT parT s.data.toList)) := by
  obtain ⟨x, hx⟩ : ∃ x, parseS numT parT s.data.toList = x := ⟨_, rfl⟩
  rw [hx]
  have HX : Hid (x = match queryS numT parT 6 (rem s 0) with
    | .error e => .error e
    | .ok (q, r1) => match skipS r1 with
      | [] => .ok q
      | c :: t => .error (t.length + 1, 180)) := Lib.hid (by
    have hl : s.data.toList.length = s.size := by simp
    rw [← hx, show rem s 0 = s.data.toList from rfl]
    unfold parseS
    rw [if_neg (by omega)]
    cases queryS numT parT 6 s.data.toList with
    | error e => rfl
    | ok p =>
      obtain ⟨q, r1⟩ := p
      dsimp only
      cases skipS r1 <;> rfl)
  clear hx
  have hA : Below w.heap.size w ((((w.alloc (.cells zeroQ 25)).alloc (.cells #[.int .i64 0] 3)).alloc (.cells #[.int .i64 0] 32)).alloc (.cells #[.string s, .int .i64 0] 55)) := ((((Below.refl _ w).alloc (Nat.le_refl _) _).alloc (by first | (simp; done) | (simp; omega)) _).alloc (by first | (simp; done) | (simp; omega)) _).alloc (by first | (simp; done) | (simp; omega)) _
  have hb0 : Blk ((((w.alloc (.cells zeroQ 25)).alloc (.cells #[.int .i64 0] 3)).alloc (.cells #[.int .i64 0] 32)).alloc (.cells #[.string s, .int .i64 0] 55)) w.heap.size 25 zeroQ := (((Blk.new w _ _).alloc _).alloc _).alloc _
  have hb1 : Blk ((((w.alloc (.cells zeroQ 25)).alloc (.cells #[.int .i64 0] 3)).alloc (.cells #[.int .i64 0] 32)).alloc (.cells #[.string s, .int .i64 0] 55)) (w.heap.size + 1) 3 #[.int .i64 0] := by rw [← show (w.alloc (.cells zeroQ 25)).heap.size = w.heap.size + 1 by simp]; exact ((Blk.new _ _ _).alloc _).alloc _
  have hb2 : Blk ((((w.alloc (.cells zeroQ 25)).alloc (.cells #[.int .i64 0] 3)).alloc (.cells #[.int .i64 0] 32)).alloc (.cells #[.string s, .int .i64 0] 55)) (w.heap.size + 1 + 1) 32 #[.int .i64 0] := by rw [← show ((w.alloc (.cells zeroQ 25)).alloc (.cells #[.int .i64 0] 3)).heap.size = w.heap.size + 1 + 1 by simp]; exact (Blk.new _ _ _).alloc _
  have hb3 : Blk ((((w.alloc (.cells zeroQ 25)).alloc (.cells #[.int .i64 0] 3)).alloc (.cells #[.int .i64 0] 32)).alloc (.cells #[.string s, .int .i64 0] 55)) (w.heap.size + 1 + 1 + 1) 55 #[.string s, .int .i64 0] := by rw [← show (((w.alloc (.cells zeroQ 25)).alloc (.cells #[.int .i64 0] 3)).alloc (.cells #[.int .i64 0] 32)).heap.size = w.heap.size + 1 + 1 + 1 by simp]; exact Blk.new _ _ _
  have hsz : ((((w.alloc (.cells zeroQ 25)).alloc (.cells #[.int .i64 0] 3)).alloc (.cells #[.int .i64 0] 32)).alloc (.cells #[.string s, .int .i64 0] 55)).heap.size = w.heap.size + 1 + 1 + 1 + 1 := by simp
  have HB := Lib.hid hA; have HB0 := Lib.hid hb0; have HB1 := Lib.hid hb1; have HB2 := Lib.hid hb2; have HB3 := Lib.hid hb3
  have HT4 := Lib.hid (hT.next (hA.mono hB))
  have HSZ := Lib.hid hsz
  clear hA hb0 hb1 hb2 hb3 hsz hT
  unfold zeroQ at HB HB0 HB1 HB2 HB3 HT4 HSZ
  have hmf : ∀ (fn : Fn) (first cap : Array Value) (w : World), (Instr.makeFunc fn first cap).run Tryd.prog w = .ok (.func fn first cap) w := fun _ _ _ _ => rfl
  go_enter_defers Tryd.func17, Tryd.ntmps17
  go_upto_region 5 with fail
  generalize ((((w.alloc (.cells #[.int .i64 0, .int .i64 0, .string ⟨#[]⟩, .string ⟨#[]⟩, .string ⟨#[]⟩, .slice none 0 0, .slice none 0 0, .int .i64 0, .int .i64 0, .slice none 0 0] 25)).alloc (.cells #[.int .i64 0] 3)).alloc (.cells #[.int .i64 0] 32)).alloc (.cells #[.string s, .int .i64 0] 55)) = W at *
  have HPA : Hid (Pa s (w.heap.size + 1 + 1 + 1) 0 W) := Lib.hid ⟨HB3.out, Nat.zero_le _⟩
  have hgB : B ≤ w.heap.size + 1 + 1 + 1 := by omega
  have HQ := Lib.hid (query_any B s hs 6 0 rfl (w.heap.size + 1 + 1 + 1) 0 W HPA.out hgB HT4.out)
  obtain ⟨y, hy⟩ : ∃ y, queryS numT parT 6 (rem s 0) = y := ⟨_, rfl⟩
  rw [hy] at HX
  rw [show (6 - 0 : Nat) = 6 from rfl, hy] at HQ
  clear hy
  go_wp2_with fail
  refine HQ.out.mono ?_
  clear HQ
  match y with
  | .error (p, c) =>
    intro e w5 ho
    obtain ⟨rfl, hg⟩ := ho
    have hb5 := HB.out.trans (below_grown (B := w.heap.size) hg (by have := HSZ.out; omega) (by omega))
    have hx : x = .error (p, c) := HX.out
    subst hx
    exact caught (HB0.out.grown hg (fun e => by injection e with e; omega)) (HB1.out.grown hg (fun e => by injection e with e; omega)) (HB2.out.grown hg (fun e => by injection e with e; omega)) hb5 rfl rfl rfl
  | .ok (q, r1) =>
    intro e w5 ho
    obtain ⟨v, rfl, ⟨us, bs, rfl, hoq, hnd⟩, hg, j1, hj1, hpa, hr⟩ := ho
    subst hr
    have HQ5 := Lib.hid (HB0.out.grown hg (fun e => by injection e with e; omega))
    have HA5 := Lib.hid (HB1.out.grown hg (fun e => by injection e with e; omega))
    have HE5 := Lib.hid (HB2.out.grown hg (fun e => by injection e with e; omega))
    have HW5 := Lib.hid (HB.out.trans (below_grown (B := w.heap.size) hg (by have := HSZ.out; omega) (by omega)))
    have HP5 := Lib.hid hpa
    have HOQ := Lib.hid hoq
    have HND := Lib.hid hnd
    have hszW := HSZ.out
    have hbs : Hid (∀ g ∈ bs, w.heap.size + 1 + 1 + 1 < g) := Lib.hid (fun g hm => by have := (hoq.mem g hm).1; omega)
    clear hg hpa hoq hnd hszW
    generalize hqa : q = qa at HX HOQ
    clear hqa
    obtain ⟨kq, oq, fq, tq, uq, loq, hiq, bq, opq, ksq⟩ := qa
    obtain ⟨cl, ch, ck, al, ah, ak, hus⟩ := OQ.shape HOQ.out
    subst hus
    have q0 : w5.cell? ⟨w.heap.size, 0, none⟩ = some (.int .i64 0) := HQ5.out.cell 0
    have q1 : w5.cell? ⟨w.heap.size, 1, none⟩ = some (.int .i64 0) := HQ5.out.cell 1
    have q2 : w5.cell? ⟨w.heap.size, 2, none⟩ = some (.string ⟨#[]⟩) := HQ5.out.cell 2
    have q3 : w5.cell? ⟨w.heap.size, 3, none⟩ = some (.string ⟨#[]⟩) := HQ5.out.cell 3
    have q4 : w5.cell? ⟨w.heap.size, 4, none⟩ = some (.string ⟨#[]⟩) := HQ5.out.cell 4
    have q5 : w5.cell? ⟨w.heap.size, 5, none⟩ = some (.slice none 0 0) := HQ5.out.cell 5
    have q6 : w5.cell? ⟨w.heap.size, 6, none⟩ = some (.slice none 0 0) := HQ5.out.cell 6
    have q7 : w5.cell? ⟨w.heap.size, 7, none⟩ = some (.int .i64 0) := HQ5.out.cell 7
    have q8 : w5.cell? ⟨w.heap.size, 8, none⟩ = some (.int .i64 0) := HQ5.out.cell 8
    have q9 : w5.cell? ⟨w.heap.size, 9, none⟩ = some (.slice none 0 0) := HQ5.out.cell 9
    have z0 : w5.frozen? ⟨w.heap.size, 0, none⟩ = false := HQ5.out.frozen 0
    have z1 : w5.frozen? ⟨w.heap.size, 1, none⟩ = false := HQ5.out.frozen 1
    have z2 : w5.frozen? ⟨w.heap.size, 2, none⟩ = false := HQ5.out.frozen 2
    have z3 : w5.frozen? ⟨w.heap.size, 3, none⟩ = false := HQ5.out.frozen 3
    have z4 : w5.frozen? ⟨w.heap.size, 4, none⟩ = false := HQ5.out.frozen 4
    have z5 : w5.frozen? ⟨w.heap.size, 5, none⟩ = false := HQ5.out.frozen 5
    have z6 : w5.frozen? ⟨w.heap.size, 6, none⟩ = false := HQ5.out.frozen 6
    have z7 : w5.frozen? ⟨w.heap.size, 7, none⟩ = false := HQ5.out.frozen 7
    have z8 : w5.frozen? ⟨w.heap.size, 8, none⟩ = false := HQ5.out.frozen 8
    have z9 : w5.frozen? ⟨w.heap.size, 9, none⟩ = false := HQ5.out.frozen 9
    have HQ6 := Lib.hid (set10_blk (W := w5) (g := w.heap.size) HQ5.out (.int .i64 kq) (.int .i64 oq) (.string fq) (.string tq) (.string uq) (.slice al loq.length cl) (.slice ah hiq.length ch) (.int .i64 bq) (.int .i64 opq) (.slice ak ksq.length ck))
    have hg6 := set10_grown w5 (w.heap.size) (.int .i64 kq) (.int .i64 oq) (.string fq) (.string tq) (.string uq) (.slice al loq.length cl) (.slice ah hiq.length ch) (.int .i64 bq) (.int .i64 opq) (.slice ak ksq.length ck)
    have HA6 := Lib.hid (HA5.out.grown hg6 (fun e => by injection e with e; omega))
    have HE6 := Lib.hid (HE5.out.grown hg6 (fun e => by injection e with e; omega))
    have HW6 := Lib.hid (HW5.out.trans (below_grown (B := w.heap.size) hg6 (by have := HQ5.out.lt; omega) (Nat.le_refl _)))
    have HP6 := Lib.hid (HP5.out.grown hg6 (fun e => by injection e with e; omega))
    have HO6 := Lib.hid ((HOQ.out.grown hg6 (fun g hm e => by injection e with e; have := hbs.out g hm; omega)).le (by have := HSZ.out; omega : w.heap.size ≤ W.heap.size))
    clear hg6
    go_upto_region 6 with fail
    generalize ((((((((((w5.setCell ⟨w.heap.size, 0, none⟩ (.int .i64 kq)).setCell ⟨w.heap.size, 1, none⟩ (.int .i64 oq)).setCell ⟨w.heap.size, 2, none⟩ (.string fq)).setCell ⟨w.heap.size, 3, none⟩ (.string tq)).setCell ⟨w.heap.size, 4, none⟩ (.string uq)).setCell ⟨w.heap.size, 5, none⟩ (.slice al loq.length cl)).setCell ⟨w.heap.size, 6, none⟩ (.slice ah hiq.length ch)).setCell ⟨w.heap.size, 7, none⟩ (.int .i64 bq)).setCell ⟨w.heap.size, 8, none⟩ (.int .i64 opq)).setCell ⟨w.heap.size, 9, none⟩ (.slice ak ksq.length ck)) = w6 at *
    clear q0 z0 q1 z1 q2 z2 q3 z3 q4 z4 q5 z5 q6 z6 q7 z7 q8 z8 q9 z9 HQ5 HA5 HE5 HW5 HP5 HOQ
    have HSK := Lib.hid (skip_any s (w.heap.size + 1 + 1 + 1) j1 w6 HP6.out hs)
    go_wp2_with fail
    refine HSK.out.mono ?_
    clear HSK
    rintro e w7 ⟨rfl, hg, j2, hj2, hpa, hr⟩
    have HQ7 := Lib.hid (HQ6.out.grown hg (fun e => by injection e with e; omega))
    have HA7 := Lib.hid (HA6.out.grown hg (fun e => by injection e with e; omega))
    have HE7 := Lib.hid (HE6.out.grown hg (fun e => by injection e with e; omega))
    have HW7 := Lib.hid (HW6.out.trans (below_grown (B := w.heap.size) hg (by have := HQ6.out.lt; omega) (by omega)))
    have HO7 := Lib.hid (HO6.out.grown hg (fun g hm e => by injection e with e; have := hbs.out g hm; omega))
    have HP7 := Lib.hid hpa
    have HR := Lib.hid hr
    have hj2s := hpa.le
    clear hg hpa hr HQ6 HA6 HE6 HW6 HP6 HO6
    have c1 : w7.cell? ⟨w.heap.size + 1 + 1 + 1, 1, none⟩ = some (.int .i64 j2) := HP7.out.blk.cell 1
    by_cases hlt : j2 < s.size
    · have h2 : (j2 : Int) < (s.size : Int) := by omega
      have hx : x = .error ((rem s j2).length, 180) := by
        have h9 := HX.out
        try dsimp only at h9
        rw [← HR.out, rem_cons hlt] at h9
        rw [h9, rem_cons hlt]; rfl
      subst hx
      have HWR := Lib.hid (wrong_any j2 w7)
      go_wp2_with fail
      refine HWR.out.mono ?_
      rintro e w8 ⟨rfl, rfl⟩
      rw [show faultE (j2 : Int) 180 = faultE ((s.size - (s.size - j2) : Nat) : Int) 180 by rw [show s.size - (s.size - j2) = j2 by omega]]
      exact caught HQ7.out HA7.out HE7.out HW7.out rfl rfl rfl
    · obtain rfl : j2 = s.size := by omega
      have hx : x = .ok (.mk kq oq fq tq uq loq hiq bq opq ksq) := by
        have h9 := HX.out
        try dsimp only at h9
        rw [← HR.out, rem_nil] at h9
        exact h9
      subst hx
      have q0 : w7.cell? ⟨w.heap.size, 0, none⟩ = some (.int .i64 kq) := HQ7.out.cell 0
      have q1 : w7.cell? ⟨w.heap.size, 1, none⟩ = some (.int .i64 oq) := HQ7.out.cell 1
      have q2 : w7.cell? ⟨w.heap.size, 2, none⟩ = some (.string fq) := HQ7.out.cell 2
      have q3 : w7.cell? ⟨w.heap.size, 3, none⟩ = some (.string tq) := HQ7.out.cell 3
      have q4 : w7.cell? ⟨w.heap.size, 4, none⟩ = some (.string uq) := HQ7.out.cell 4
      have q5 : w7.cell? ⟨w.heap.size, 5, none⟩ = some (.slice al loq.length cl) := HQ7.out.cell 5
      have q6 : w7.cell? ⟨w.heap.size, 6, none⟩ = some (.slice ah hiq.length ch) := HQ7.out.cell 6
      have q7 : w7.cell? ⟨w.heap.size, 7, none⟩ = some (.int .i64 bq) := HQ7.out.cell 7
      have q8 : w7.cell? ⟨w.heap.size, 8, none⟩ = some (.int .i64 opq) := HQ7.out.cell 8
      have q9 : w7.cell? ⟨w.heap.size, 9, none⟩ = some (.slice ak ksq.length ck) := HQ7.out.cell 9
      have z0 : w7.frozen? ⟨w.heap.size, 0, none⟩ = false := HQ7.out.frozen 0
      have z1 : w7.frozen? ⟨w.heap.size, 1, none⟩ = false := HQ7.out.frozen 1
      have z2 : w7.frozen? ⟨w.heap.size, 2, none⟩ = false := HQ7.out.frozen 2
      have z3 : w7.frozen? ⟨w.heap.size, 3, none⟩ = false := HQ7.out.frozen 3
      have z4 : w7.frozen? ⟨w.heap.size, 4, none⟩ = false := HQ7.out.frozen 4
      have z5 : w7.frozen? ⟨w.heap.size, 5, none⟩ = false := HQ7.out.frozen 5
      have z6 : w7.frozen? ⟨w.heap.size, 6, none⟩ = false := HQ7.out.frozen 6
      have z7 : w7.frozen? ⟨w.heap.size, 7, none⟩ = false := HQ7.out.frozen 7
      have z8 : w7.frozen? ⟨w.heap.size, 8, none⟩ = false := HQ7.out.frozen 8
      have z9 : w7.frozen? ⟨w.heap.size, 9, none⟩ = false := HQ7.out.frozen 9
      have a0 : w7.cell? ⟨w.heap.size + 1, 0, none⟩ = some (.int .i64 0) := HA7.out.cell 0
      have e0 : w7.cell? ⟨w.heap.size + 1 + 1, 0, none⟩ = some (.int .i64 0) := HE7.out.cell 0
      have za : w7.frozen? ⟨w.heap.size + 1, 0, none⟩ = false := HA7.out.frozen 0
      have ze : w7.frozen? ⟨w.heap.size + 1 + 1, 0, none⟩ = false := HE7.out.frozen 0
      have n1 : w.heap.size ≠ w.heap.size + 1 := by omega
      have n2 : w.heap.size ≠ w.heap.size + 1 + 1 := by omega
      have n3 : w.heap.size + 1 ≠ w.heap.size + 1 + 1 := by omega
      obtain ⟨b0, b1, b2, b3⟩ := boxes_put HQ7.out HA7.out HE7.out (by omega) (by omega) (Nat.le_refl _) (.int .i64 kq) (.int .i64 oq) (.string fq) (.string tq) (.string uq) (.slice al loq.length cl) (.slice ah hiq.length ch) (.int .i64 bq) (.int .i64 opq) (.slice ak ksq.length ck) (.int .i64 0) (.int .i64 0)
      have HB8 := Lib.hid b0; have HB81 := Lib.hid b1; have HB82 := Lib.hid b2
      have HW8 := Lib.hid (HW7.out.trans b3)
      have HO8 := Lib.hid (HO7.out.keep (w' := ((((((((((((w7.setCell ⟨w.heap.size, 0, none⟩ (.int .i64 kq)).setCell ⟨w.heap.size, 1, none⟩ (.int .i64 oq)).setCell ⟨w.heap.size, 2, none⟩ (.string fq)).setCell ⟨w.heap.size, 3, none⟩ (.string tq)).setCell ⟨w.heap.size, 4, none⟩ (.string uq)).setCell ⟨w.heap.size, 5, none⟩ (.slice al loq.length cl)).setCell ⟨w.heap.size, 6, none⟩ (.slice ah hiq.length ch)).setCell ⟨w.heap.size, 7, none⟩ (.int .i64 bq)).setCell ⟨w.heap.size, 8, none⟩ (.int .i64 opq)).setCell ⟨w.heap.size, 9, none⟩ (.slice ak ksq.length ck)).setCell ⟨w.heap.size + 1, 0, none⟩ (.int .i64 0)).setCell ⟨w.heap.size + 1 + 1, 0, none⟩ (.int .i64 0))) fun g hm => (Below.heap_setCell _ _ _ _ (by have := hbs.out g hm; show g ≠ w.heap.size + 1 + 1; omega)).trans ((Below.heap_setCell _ _ _ _ (by have := hbs.out g hm; show g ≠ w.heap.size + 1; omega)).trans ((set10_grown w7 (w.heap.size) (.int .i64 kq) (.int .i64 oq) (.string fq) (.string tq) (.string uq) (.slice al loq.length cl) (.slice ah hiq.length ch) (.int .i64 bq) (.int .i64 opq) (.slice ak ksq.length ck)).block g (HO7.out.mem g hm).2 (fun e => by injection e with e; have := hbs.out g hm; omega))))
      clear b0 b1 b2 b3
      go_wp2_with fail
      exact parsed HB8.out HB81.out HB82.out HW8.out HO8.out HND.out rfl rfl rfl
/-- Parse, at whatever text. -/
theorem parse_any (s : ByteArray) (w : World) (hT : PTabs w) : Calls Tryd.prog 17 #[.string s] w (ParseV s w (parseS numT parT s.data.toList)) := by
  by_cases hs : s.size ≤ 4096
  · exact parse_short w.heap.size s w hs (Nat.le_refl _) (PT.of hT)
  · exact parse_long s w (by omega)
end Go.Proofs.YtinmiekbhoemjaaDoor.Qry
