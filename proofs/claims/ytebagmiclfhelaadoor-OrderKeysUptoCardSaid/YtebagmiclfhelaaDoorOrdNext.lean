/- Contracts: the closures of Keys: the next byte, a number's eight bytes, a text. -/
import Derived.Test.YtebagmiclfhelaaDoorOrdRow
import Derived.Deep.LoopGhost
import Derived.Outline
import Derived.Laws.Bits64b
set_option linter.unusedVariables false
namespace OrdP
open Go.Lib Go
/-- What is read of a text of keys: the text, and what is left. -/
def unesc : List UInt8 → Option (List UInt8 × List UInt8)
  | [] => none
  | c :: r => if c = 0 then (match r with
      | [] => none
      | d :: r' => if d = 1 then some ([], r') else if d = 255 then (unesc r').map (fun x => (0 :: x.1, x.2)) else none)
    else (unesc r).map (fun x => (c :: x.1, x.2))
theorem unesc_c {c : UInt8} (h : c ≠ 0) (r : List UInt8) : unesc (c :: r) = (unesc r).map (fun x => (c :: x.1, x.2)) := by
  rw [unesc.eq_def]; dsimp only; rw [if_neg h]
theorem unesc_end (r : List UInt8) : unesc (0 :: 1 :: r) = some ([], r) := by
  rw [unesc.eq_def]; simp
theorem unesc_255 (r : List UInt8) : unesc (0 :: 255 :: r) = (unesc r).map (fun x => (0 :: x.1, x.2)) := by
  rw [unesc.eq_def]; simp
theorem unesc_bad {d : UInt8} (h1 : d ≠ 1) (h2 : d ≠ 255) (r : List UInt8) : unesc (0 :: d :: r) = none := by
  rw [unesc.eq_def]; simp [h1, h2]
theorem unesc_zero : unesc [0] = none := by rw [unesc.eq_def]; simp
end OrdP
namespace Go.Proofs.YtebagmiclfhelaaDoor.OrdLib
open Go.RowKit Go.Lib OrdP Kit OrdRef Words Owned

theorem str_tail (c : UInt8) (r : List UInt8) : (str (c :: r)).extract 1 (str (c :: r)).size = str r := by
  apply ByteArray.ext
  rw [ByteArray.data_extract]
  unfold str
  apply Array.toList_inj.1
  simp [ByteArray.size]
theorem str_get (c : UInt8) (r : List UInt8) (h : 0 < (str (c :: r)).size) : (str (c :: r))[0] = c := rfl
theorem str_ne (c : UInt8) (r : List UInt8) : (str (c :: r)).toList.isEmpty = false := by rw [ByteArray.toList_eq]; rfl
theorem str_len (l : List UInt8) : (str l).size = l.length := by unfold str; show l.toArray.size = _; simp

set_option maxRecDepth 100000 in
theorem next_cons (c : UInt8) (r : List UInt8) (hl : r.length < 9223372036854775807) (bs bo : Nat) (w : World) (hs : Blk w bs 9 #[.string (str (c :: r))]) :
    Calls Tryd.prog 45 #[.pointer (some ⟨bs, 0, none⟩), .pointer (some ⟨bo, 0, none⟩)] w (fun e w' => e = .returned (.int .u8 c.toNat) ∧ w' = w.setCell ⟨bs, 0, none⟩ (.string (str r))) := by
  obtain ⟨s, h⟩ : ∃ s, str (c :: r) = s := ⟨_, rfl⟩
  have h1 : 1 ≤ s.size := by rw [← h, str_len]; simp
  have hm : s.size ≤ 9223372036854775807 := by rw [← h, str_len]; simp; omega
  have h2 : s.extract 1 s.size = str r := by rw [← h]; exact str_tail c r
  have h3 : s.toList.isEmpty = false := by rw [← h]; exact str_ne c r
  have h4 : ∀ (hh : 0 < s.size), s[0] = c := by subst h; exact fun _ => rfl
  rw [h] at hs
  clear h
  have hc := hs.cell 0
  have hf := hs.frozen 0
  have hc0 : w.cell? ⟨bs, 0, none⟩ = some (.string s) := hc
  have H2 := Lib.hid h2; have H4 := Lib.hid h4
  clear h2 h4 hc hs
  go_enter Tryd.func45, Tryd.ntmps45
  go_wp2_with fail
  go_ret
  exact ⟨ret_int (by rw [H4.out]), by rw [H2.out]⟩
set_option maxRecDepth 100000 in
theorem next_nil (bs bo : Nat) (w : World) (hs : Blk w bs 9 #[.string (str [])]) (ho : ∃ v, Blk w bo 4 #[v]) :
    Calls Tryd.prog 45 #[.pointer (some ⟨bs, 0, none⟩), .pointer (some ⟨bo, 0, none⟩)] w (fun e w' => e = .returned (.int .u8 0) ∧ w' = w.setCell ⟨bo, 0, none⟩ (.bool false)) := by
  obtain ⟨v, ho⟩ := ho
  have hc : w.cell? ⟨bs, 0, none⟩ = some (.string ⟨#[]⟩) := hs.cell 0
  have hf := ho.frozen 0
  have hc0 : w.cell? ⟨bo, 0, none⟩ = some v := ho.cell 0
  clear hs ho
  go_enter Tryd.func45, Tryd.ntmps45
  go_wp2_with fail
  go_ret
  exact ⟨rfl, rfl⟩

/-- Nothing but two blocks has turned. -/
structure Touch (bs bo : Nat) (w w' : World) : Prop where
  os : w'.os = w.os
  tape : w'.tape = w.tape
  output : w'.output = w.output
  size : w.heap.size ≤ w'.heap.size
  block : ∀ k, k < w.heap.size → k ≠ bs → k ≠ bo → w'.heap[k]? = w.heap[k]?
theorem Touch.refl (bs bo : Nat) (w : World) : Touch bs bo w w := ⟨rfl, rfl, rfl, Nat.le_refl _, fun _ _ _ _ => rfl⟩
theorem Touch.trans {bs bo : Nat} {a b c : World} (h : Touch bs bo a b) (k : Touch bs bo b c) : Touch bs bo a c :=
  ⟨k.os.trans h.os, k.tape.trans h.tape, k.output.trans h.output, Nat.le_trans h.size k.size, fun i hi h1 h2 => (k.block i (Nat.lt_of_lt_of_le hi h.size) h1 h2).trans (h.block i hi h1 h2)⟩
theorem Touch.set {bs bo : Nat} {a w : World} (h : Touch bs bo a w) {p : Addr} (hp : p.block = bs ∨ p.block = bo) (u : Value) : Touch bs bo a (w.setCell p u) :=
  h.trans ⟨rfl, rfl, rfl, by simp [World.setCell], fun k _ h1 h2 => Below.heap_setCell _ _ _ _ (by rcases hp with e | e <;> omega)⟩
theorem Touch.below {bs bo : Nat} {a w w' : World} (h : Touch bs bo a w) (hb : Below a.heap.size w w') : Touch bs bo a w' :=
  ⟨hb.os.trans h.os, hb.tape.trans h.tape, hb.output.trans h.output, Nat.le_trans h.size hb.size, fun k hk h1 h2 => (hb.block k hk).trans (h.block k hk h1 h2)⟩
theorem Touch.blk {bs bo : Nat} {a w : World} (h : Touch bs bo a w) {g : Nat} {t : TypeId} {cs : Array Value} (hg : Blk a g t cs) (h1 : g ≠ bs) (h2 : g ≠ bo) : Blk w g t cs := (h.block g hg.lt h1 h2).trans hg
theorem Touch.to_below {bs bo B : Nat} {a w : World} (h : Touch bs bo a w) (h1 : B ≤ bs) (h2 : B ≤ bo) (h3 : B ≤ a.heap.size) : Below B a w :=
  ⟨h.os, h.tape, h.output, h.size, fun k hk => h.block k (by omega) (by omega) (by omega)⟩

/-- The three boxes of Keys: what is left, whether all is well, the function that gives the next byte. -/
structure Boxes (bs bo bn : Nat) (w : World) (l : List UInt8) (ok : Bool) : Prop where
  s : Blk w bs 9 #[.string (str l)]
  o : Blk w bo 4 #[.bool ok]
  n : Blk w bn 74 #[.func (.func 45) #[] #[.pointer (some ⟨bs, 0, none⟩), .pointer (some ⟨bo, 0, none⟩)]]
theorem Boxes.ne {bs bo bn : Nat} {w : World} {l : List UInt8} {ok : Bool} (h : Boxes bs bo bn w l ok) : bs ≠ bo ∧ bs ≠ bn ∧ bo ≠ bn :=
  ⟨h.s.ne_ h.o (by decide), h.s.ne_ h.n (by decide), h.o.ne_ h.n (by decide)⟩
theorem Boxes.below {bs bo bn B : Nat} {w w' : World} {l : List UInt8} {ok : Bool} (h : Boxes bs bo bn w l ok) (hb : Below w.heap.size w w') : Boxes bs bo bn w' l ok :=
  ⟨h.s.below hb h.s.lt, h.o.below hb h.o.lt, h.n.below hb h.n.lt⟩
theorem Boxes.grown {bs bo bn : Nat} {w w' : World} {l : List UInt8} {ok : Bool} {row : Option Nat} (h : Boxes bs bo bn w l ok) (hg : w.grownBy w' row) (h1 : some bs ≠ row) (h2 : some bo ≠ row) (h3 : some bn ≠ row) : Boxes bs bo bn w' l ok :=
  ⟨h.s.grown hg h1, h.o.grown hg h2, h.n.grown hg h3⟩
theorem Boxes.step {bs bo bn : Nat} {w : World} {l : List UInt8} {ok : Bool} (h : Boxes bs bo bn w l ok) (r : List UInt8) : Boxes bs bo bn (w.setCell ⟨bs, 0, none⟩ (.string (str r))) r ok :=
  ⟨h.s.set_ 0 _, h.o.far (Ne.symm h.ne.1) _, h.n.far (Ne.symm h.ne.2.1) _⟩
theorem Boxes.stop {bs bo bn : Nat} {w : World} {l : List UInt8} {ok : Bool} (h : Boxes bs bo bn w l ok) : Boxes bs bo bn (w.setCell ⟨bo, 0, none⟩ (.bool false)) l false :=
  ⟨h.s.far h.ne.1 _, h.o.set_ 0 _, h.n.far (Ne.symm h.ne.2.2) _⟩

def NextRet (bs bo bn : Nat) (w : World) (l : List UInt8) (ok : Bool) (e : Ending) (w' : World) : Prop :=
  e = .returned (.int .u8 (l.headD 0).toNat) ∧ Boxes bs bo bn w' (l.drop 1) (ok && !l.isEmpty) ∧ Touch bs bo w w'
theorem next_any {bs bo bn : Nat} {w : World} {l : List UInt8} {ok : Bool} (h : Boxes bs bo bn w l ok) (hl : l.length ≤ 9223372036854775807) :
    Calls Tryd.prog 45 #[.pointer (some ⟨bs, 0, none⟩), .pointer (some ⟨bo, 0, none⟩)] w (NextRet bs bo bn w l ok) := by
  cases l with
  | nil => exact (next_nil bs bo w h.s ⟨_, h.o⟩).mono fun e w' ⟨he, hw⟩ => ⟨he, by subst hw; simpa using h.stop, by subst hw; exact (Touch.refl bs bo w).set (p := ⟨bo, 0, none⟩) (.inr rfl) _⟩
  | cons c r => exact (next_cons c r (by simp at hl; omega) bs bo w h.s).mono fun e w' ⟨he, hw⟩ => ⟨he, by subst hw; simpa using h.step r, by subst hw; exact (Touch.refl bs bo w).set (p := ⟨bs, 0, none⟩) (.inl rfl) _⟩

/-- Eight bytes as a number. -/
def valB (l : List UInt8) : Nat := l.foldl (fun a c => a * 256 + c.toNat) 0
theorem valB_snoc (l : List UInt8) (c : UInt8) : valB (l ++ [c]) = valB l * 256 + c.toNat := by unfold valB; rw [List.foldl_append]; rfl
theorem valB_lt : ∀ (k : Nat) (l : List UInt8), l.length ≤ k → valB l < 256 ^ k
  | 0, l, h => by
    have : l = [] := List.eq_nil_of_length_eq_zero (by omega)
    subst this; decide
  | k + 1, l, h => by
    rcases List.eq_nil_or_concat l with rfl | ⟨m, c, rfl⟩
    · exact Nat.pow_pos (by decide)
    · rw [List.concat_eq_append] at h ⊢
      rw [valB_snoc]
      have := valB_lt k m (by simp at h; omega)
      have hc := c.toNat_lt
      rw [Nat.pow_succ]; omega
theorem shl_or (n : Nat) (c : UInt8) (h : n < 72057594037927936) : bits BinOp.or IntKind.u64 (IntKind.u64.wrap ((n : Int) * 256)) (IntKind.u64.wrap (c.toNat : Int)) = ((n * 256 + c.toNat : Nat) : Int) := by
  have hc := c.toNat_lt
  have e : ∀ m : Int, IntKind.u64.wrap m = m % 18446744073709551616 := fun m => by simp [IntKind.wrap, IntKind.signed, IntKind.bits]
  have e1 : IntKind.u64.wrap ((n : Int) * 256) = ((n * 256 : Nat) : Int) := by rw [e]; omega
  have e2 : IntKind.u64.wrap (c.toNat : Int) = (c.toNat : Int) := by rw [e]; omega
  rw [e1, e2, bits_or_u64_nat _ _ (by omega) (by omega)]
  have h2 := Nat.shiftLeft_add_eq_or_of_lt (i := 8) (b := c.toNat) (by omega) n
  rw [Nat.shiftLeft_eq] at h2
  rw [← h2]

def NumRet (bs bo bn : Nat) (w : World) (l : List UInt8) (e : Ending) (w' : World) : Prop :=
  ∃ n : Int, e = .returned (.int .u64 n) ∧ Boxes bs bo bn w' (l.drop 8) (decide (8 ≤ l.length)) ∧ Touch bs bo w w' ∧ (8 ≤ l.length → n = ((valB (l.take 8) + 9223372036854775808) % 18446744073709551616 : Nat))
set_option maxRecDepth 100000 in
theorem number_any {bs bo bn : Nat} {w : World} {l : List UInt8} (h : Boxes bs bo bn w l true) (hl : l.length ≤ 4194304) :
    Calls Tryd.prog 46 #[.pointer (some ⟨bn, 0, none⟩)] w (NumRet bs bo bn w l) := by
  have HB := Lib.hid h
  go_enter Tryd.func46, Tryd.ntmps46
  go_wp2_with fail
  go_loopw [1, 2] (fun u i wr => ∃ (k : Nat) (n : Int), k ≤ 8 ∧ i = .int .i64 k ∧ u = .int .u64 n ∧ Hid (Boxes bs bo bn wr (l.drop k) (decide (k ≤ l.length))) ∧ Hid (Touch bs bo w wr) ∧ Hid (k ≤ l.length → n = valB (l.take k))) (fun _ i _ => 8 - (intOf i).toNat)
  case atStart => exact ⟨0, 0, by omega, rfl, rfl, Lib.hid (by simpa using HB.out), Lib.hid (Touch.refl _ _ _), Lib.hid (fun _ => rfl)⟩
  case round =>
    obtain ⟨k, n, hk, rfl, rfl, HX, HT, HV⟩ := hrel
    by_cases h8 : k < 8
    · have hc : wr.cell? ⟨bn, 0, none⟩ = some (.func (.func 45) #[] #[.pointer (some ⟨bs, 0, none⟩), .pointer (some ⟨bo, 0, none⟩)]) := HX.out.n.cell 0
      go_wp2_with fail
      refine (next_any HX.out (by simp; omega)).mono ?_
      rintro e w1 ⟨rfl, x1, x2⟩
      have X1 := Lib.hid x1; have X2 := Lib.hid x2
      clear x1 x2
      go_wp2_with fail
      refine ⟨⟨k + 1, _, by omega, by go_num, rfl, ?_, Lib.hid (HT.out.trans X2.out), ?_⟩, by simp [intOf]; omega⟩
      · have := X1.out
        rw [List.drop_drop] at this
        have hb : (decide (k ≤ l.length) && !(List.drop k l).isEmpty) = decide (k + 1 ≤ l.length) := by
          rw [Bool.eq_iff_iff]; simp; omega
        rw [hb] at this
        exact Lib.hid this
      · refine Lib.hid (fun hk1 => ?_)
        have hv := HV.out (by omega)
        have hlt := valB_lt 7 (l.take k) (by rw [List.length_take]; omega)
        have hget : l[k]? = some l[k] := List.getElem?_eq_getElem (by omega)
        rw [hv, hget, Option.getD_some, shl_or _ _ (by omega), List.take_succ_eq_append_getElem (by omega), valB_snoc]
    · obtain rfl : k = 8 := by omega
      go_wp2_with fail
      go_ret
      refine ⟨_, rfl, HX.out, HT.out, fun h => ?_⟩
      have hv := HV.out h
      have e : ∀ m : Int, IntKind.u64.wrap m = m % 18446744073709551616 := fun m => by simp [IntKind.wrap, IntKind.signed, IntKind.bits]
      rw [e, hv]; omega

def TextKRet (bs bo bn : Nat) (w : World) (l : List UInt8) (e : Ending) (w' : World) : Prop :=
  Touch bs bo w w' ∧ match unesc l with
    | some (t, r) => e = .returned (.string (str t)) ∧ Boxes bs bo bn w' r true
    | none => e = .returned (.string ⟨#[]⟩) ∧ ∃ r, Boxes bs bo bn w' r false ∧ r.length ≤ l.length
def TextRel (bs bo bn : Nat) (w : World) (l : List UInt8) (gk : Nat) (b : Value) (wr : World) : Prop :=
  ∃ (q l' : List UInt8) (ok : Bool), gk = l'.length + ok.toNat ∧ q.length + l'.length + ok.toNat ≤ l.length + 1 ∧ l'.length ≤ l.length ∧ (unesc l = if ok then (unesc l').map (fun x => (q ++ x.1, x.2)) else none) ∧ Boxes bs bo bn wr l' ok ∧
    wr.ownsRow w.heap.size 5 1 b q.length (byteCells q) ∧ Touch bs bo w wr
theorem next_end {bs bo bn : Nat} {w : World} {ok : Bool} (h : Boxes bs bo bn w [] ok) :
    Calls Tryd.prog 45 #[.pointer (some ⟨bs, 0, none⟩), .pointer (some ⟨bo, 0, none⟩)] w (fun e w' => e = .returned (.int .u8 0) ∧ Boxes bs bo bn w' [] false ∧ Touch bs bo w w') :=
  (next_any h (by simp)).mono fun e w' ⟨h1, h2, h3⟩ => ⟨h1, by simpa using h2, h3⟩
theorem next_go {bs bo bn : Nat} {w : World} {c : UInt8} {r : List UInt8} {ok : Bool} (h : Boxes bs bo bn w (c :: r) ok) (hl : r.length < 9223372036854775807) :
    Calls Tryd.prog 45 #[.pointer (some ⟨bs, 0, none⟩), .pointer (some ⟨bo, 0, none⟩)] w (fun e w' => e = .returned (.int .u8 c.toNat) ∧ Boxes bs bo bn w' r ok ∧ Touch bs bo w w') :=
  (next_any h (by simp; omega)).mono fun e w' ⟨h1, h2, h3⟩ => ⟨h1, by simpa using h2, h3⟩
theorem own_touch {bs bo B n m : Nat} {e : TypeId} {w w' : World} {v : Value} {xs : List Value} (h : w.ownsRow B e m v n xs) (ht : Touch bs bo w w') (h1 : bs < B) (h2 : bo < B) : w'.ownsRow B e m v n xs := by
  refine ⟨h.1, ?_⟩
  rcases h.2 with h0 | ⟨g, cap, cur, hv, hb, hg, hr⟩
  · exact .inl h0
  · exact .inr ⟨g, cap, cur, hv, hb, (ht.block g (Array.getElem?_eq_some_iff.1 hg).1 (by omega) (by omega)).trans hg, hr⟩
theorem u8_beq (c d : UInt8) : ((c.toNat : Int) == (d.toNat : Int)) = decide (c = d) := by
  rw [Bool.eq_iff_iff, beq_iff_eq, decide_eq_true_eq, ← UInt8.toNat_inj]; omega
/-- What the walk's end owes behind a byte more. -/
theorem text_more {bs bo bn : Nat} {w w3 : World} {l q : List UInt8} {gk : Nat} {b : Value} (l' : List UInt8) (ok : Bool) (hg : gk = l'.length + ok.toNat) (h1 : q.length + l'.length + ok.toNat ≤ l.length + 1) (h2 : l'.length ≤ l.length)
    (h3 : unesc l = if ok then (unesc l').map (fun x => (q ++ x.1, x.2)) else none) (h4 : Boxes bs bo bn w3 l' ok) (h5 : w3.ownsRow w.heap.size 5 1 b q.length (byteCells q)) (h6 : Touch bs bo w w3) : TextRel bs bo bn w l gk b w3 :=
  ⟨q, l', ok, hg, h1, h2, h3, h4, h5, h6⟩

set_option maxRecDepth 100000 in
set_option maxHeartbeats 1000000 in
theorem textK_any {bs bo bn : Nat} {w : World} {l : List UInt8} (h : Boxes bs bo bn w l true) (hl : l.length ≤ 4194304) :
    Calls Tryd.prog 47 #[.pointer (some ⟨bo, 0, none⟩), .pointer (some ⟨bn, 0, none⟩)] w (TextKRet bs bo bn w l) := by
  obtain ⟨i0, hi, hz0, hz1, hz2⟩ := info_parts infoU8
  have HB := Lib.hid h; clear h
  go_enter Tryd.func47, Tryd.ntmps47
  go_wp2_with fail
  go_loopg [3] (l.length + 1) (fun gk b wr => TextRel bs bo bn w l gk b wr)
  case atStart => exact ⟨[], l, true, by simp, by simp, Nat.le_refl _, by simp, HB.out, World.ownsRow_nil _ _ _ _, Touch.refl _ _ _⟩
  case round =>
    obtain ⟨q, l', ok, HG, hq, hll, hu, hx, ho, ht⟩ := hrel
    have HX := Lib.hid hx; have HU := Lib.hid hu; have HT := Lib.hid ht
    have HG := Lib.hid HG
    clear hx hu ht
    have o0 : wr.cell? ⟨bo, 0, none⟩ = some (.bool ok) := HX.out.o.cell 0
    cases ok with
    | false =>
      go_wp2_with fail
      go_ret
      refine ⟨HT.out, ?_⟩
      rw [HU.out]
      exact ⟨rfl, _, HX.out, hll⟩
    | true =>
      have hc : wr.cell? ⟨bn, 0, none⟩ = some (.func (.func 45) #[] #[.pointer (some ⟨bs, 0, none⟩), .pointer (some ⟨bo, 0, none⟩)]) := HX.out.n.cell 0
      have HU2 : unesc l = (unesc l').map (fun x => (q ++ x.1, x.2)) := HU.out
      replace HU := Lib.hid HU2; clear HU2
      cases l' with
      | nil =>
        have HN : Hid (unesc l = none) := Lib.hid (by rw [HU.out]; rfl)
        go_wp2_with fail
        refine (next_end HX.out).mono ?_
        rintro e W ⟨rfl, x1, x2⟩
        replace ho := own_touch ho x2 HB.out.s.lt HB.out.o.lt
        replace HT := Lib.hid (HT.out.trans x2); replace HX := Lib.hid x1
        clear x1 x2
        clear hc o0
        have hc : W.cell? ⟨bn, 0, none⟩ = some (.func (.func 45) #[] #[.pointer (some ⟨bs, 0, none⟩), .pointer (some ⟨bo, 0, none⟩)]) := HX.out.n.cell 0
        go_wp2_with fail
        refine (next_end HX.out).mono ?_
        rintro e W2 ⟨rfl, x1, x2⟩
        replace ho := own_touch ho x2 HB.out.s.lt HB.out.o.lt
        replace HT := Lib.hid (HT.out.trans x2); replace HX := Lib.hid x1
        clear x1 x2
        clear hc
        have oW : W2.cell? ⟨bo, 0, none⟩ = some (.bool false) := HX.out.o.cell 0
        have oF : W2.frozen? ⟨bo, 0, none⟩ = false := HX.out.o.frozen 0
        go_upto_region 11 with fail
        have hx3 := HX.out.stop
        have ht3 : Touch bs bo w (W2.setCell ⟨bo, 0, none⟩ (.bool false)) := HT.out.set (p := ⟨bo, 0, none⟩) (.inr rfl) _
        replace ho := own_setCell ho (a := ⟨bo, 0, none⟩) HB.out.o.lt (.bool false)
        clear oW oF HX HT
        generalize W2.setCell ⟨bo, 0, none⟩ (.bool false) = W3 at *
        have HX := Lib.hid hx3; have HT := Lib.hid ht3
        clear hx3 ht3
        have hBlt := HB.out.s.lt; have hBo := HB.out.o.lt; have hBn := HB.out.n.lt
        have hB2 : w.heap.size ≤ W3.heap.size := HT.out.size
        go_wp2_with (at_builtin; refine wpList_append_own _ rfl (.tmp 20) (.tmp 22) 66 rfl w.heap.size 5 i0 (.int .u8 0) 1 1 Tryd.underlying66 hi hz0 hz1 hz2 rfl (by decide) _ q.length (byteCells q) rfl (ho.alloc _) ⟨W3.heap.size, 0, none⟩ 1 1 [.int .u8 0] rfl rfl ?c1 ?c2 ?c3 ?c4 ?c5 ?_)
        case c1 => exact cell_one_new _ _ _
        case c2 => intro u hu; simp at hu; subst hu; rfl
        case c3 => unfold maxLen; omega
        case c4 => omega
        case c5 => simp; omega
        intro v1 w3 hown1 hg _
        have hbw : Below w.heap.size W3 w3 := ((Below.refl _ W3).alloc hB2 _).grown hg (by simp; omega) (fun r e => (ho.lt r e).1)
        have G1 : Hid (w3.ownsRow w.heap.size 5 1 v1 (q ++ [0]).length (byteCells (q ++ [0]))) := Lib.hid (by rw [byteCells_append, List.length_append]; exact hown1)
        have G2 := Lib.hid (HT.out.below hbw)
        have G3 : Hid (Boxes bs bo bn w3 [] false) := Lib.hid ⟨HX.out.s.below hbw hBlt, HX.out.o.below hbw hBo, HX.out.n.below hbw hBn⟩
        clear hown1 hg hbw ho hB2 hBlt hBo hBn
        go_wp2_with fail
        go_roundg (0)
        case rel => exact text_more [] false (by simp) (by simp at hq ⊢; try omega) (by simp at hll ⊢; try omega) (by rw [HN.out]; rfl) G3.out G1.out G2.out
        case measure => have := HG.out; simp at this; try omega
      | cons c r =>
        by_cases h0 : c = 0
        · have b0 : ((c.toNat : Int) == 0) = true := by rw [beq_iff_eq, h0]; rfl
          cases r with
          | nil =>
            have HN : Hid (unesc l = none) := Lib.hid (by rw [HU.out, h0, unesc_zero]; rfl)
            clear h0
            go_wp2_with fail
            refine (next_go HX.out (by simp only [List.length_cons] at hll ⊢; omega)).mono ?_
            rintro e W ⟨rfl, x1, x2⟩
            replace ho := own_touch ho x2 HB.out.s.lt HB.out.o.lt
            replace HT := Lib.hid (HT.out.trans x2); replace HX := Lib.hid x1
            clear x1 x2
            clear hc o0
            have hc : W.cell? ⟨bn, 0, none⟩ = some (.func (.func 45) #[] #[.pointer (some ⟨bs, 0, none⟩), .pointer (some ⟨bo, 0, none⟩)]) := HX.out.n.cell 0
            go_wp2_with fail
            refine (next_end HX.out).mono ?_
            rintro e W2 ⟨rfl, x1, x2⟩
            replace ho := own_touch ho x2 HB.out.s.lt HB.out.o.lt
            replace HT := Lib.hid (HT.out.trans x2); replace HX := Lib.hid x1
            clear x1 x2
            clear hc
            have oW : W2.cell? ⟨bo, 0, none⟩ = some (.bool false) := HX.out.o.cell 0
            have oF : W2.frozen? ⟨bo, 0, none⟩ = false := HX.out.o.frozen 0
            go_upto_region 11 with fail
            have hx3 := HX.out.stop
            have ht3 : Touch bs bo w (W2.setCell ⟨bo, 0, none⟩ (.bool false)) := HT.out.set (p := ⟨bo, 0, none⟩) (.inr rfl) _
            replace ho := own_setCell ho (a := ⟨bo, 0, none⟩) HB.out.o.lt (.bool false)
            clear oW oF HX HT
            generalize W2.setCell ⟨bo, 0, none⟩ (.bool false) = W3 at *
            have HX := Lib.hid hx3; have HT := Lib.hid ht3
            clear hx3 ht3
            have hBlt := HB.out.s.lt; have hBo := HB.out.o.lt; have hBn := HB.out.n.lt
            have hB2 : w.heap.size ≤ W3.heap.size := HT.out.size
            go_wp2_with (at_builtin; refine wpList_append_own _ rfl (.tmp 20) (.tmp 22) 66 rfl w.heap.size 5 i0 (.int .u8 0) 1 1 Tryd.underlying66 hi hz0 hz1 hz2 rfl (by decide) _ q.length (byteCells q) rfl (ho.alloc _) ⟨W3.heap.size, 0, none⟩ 1 1 [.int .u8 (c.toNat : Int)] rfl rfl ?c1 ?c2 ?c3 ?c4 ?c5 ?_)
            case c1 => exact cell_one_new _ _ _
            case c2 => intro u hu; simp at hu; subst hu; rfl
            case c3 => unfold maxLen; omega
            case c4 => omega
            case c5 => simp; omega
            intro v1 w3 hown1 hg _
            have hbw : Below w.heap.size W3 w3 := ((Below.refl _ W3).alloc hB2 _).grown hg (by simp; omega) (fun r e => (ho.lt r e).1)
            have G1 : Hid (w3.ownsRow w.heap.size 5 1 v1 (q ++ [c]).length (byteCells (q ++ [c]))) := Lib.hid (by rw [byteCells_append, List.length_append]; exact hown1)
            have G2 := Lib.hid (HT.out.below hbw)
            have G3 : Hid (Boxes bs bo bn w3 [] false) := Lib.hid ⟨HX.out.s.below hbw hBlt, HX.out.o.below hbw hBo, HX.out.n.below hbw hBn⟩
            clear hown1 hg hbw ho hB2 hBlt hBo hBn
            go_wp2_with fail
            go_roundg (0)
            case rel => exact text_more [] false (by simp) (by simp at hq ⊢; try omega) (by simp at hll ⊢; try omega) (by rw [HN.out]; rfl) G3.out G1.out G2.out
            case measure => have := HG.out; simp at this; try omega
          | cons d r2 =>
            by_cases h1 : d = 1
            · have b1 : ((d.toNat : Int) == 1) = true := by rw [beq_iff_eq, h1]; rfl
              have HN : Hid (unesc l = some (q, r2)) := Lib.hid (by rw [HU.out, h0, h1, unesc_end]; simp)
              clear h0 h1
              go_wp2_with fail
              refine (next_go HX.out (by simp only [List.length_cons] at hll ⊢; omega)).mono ?_
              rintro e W ⟨rfl, x1, x2⟩
              replace ho := own_touch ho x2 HB.out.s.lt HB.out.o.lt
              replace HT := Lib.hid (HT.out.trans x2); replace HX := Lib.hid x1
              clear x1 x2
              clear hc o0
              have hc : W.cell? ⟨bn, 0, none⟩ = some (.func (.func 45) #[] #[.pointer (some ⟨bs, 0, none⟩), .pointer (some ⟨bo, 0, none⟩)]) := HX.out.n.cell 0
              go_wp2_with fail
              refine (next_go HX.out (by simp only [List.length_cons] at hll ⊢; omega)).mono ?_
              rintro e W2 ⟨rfl, x1, x2⟩
              replace ho := own_touch ho x2 HB.out.s.lt HB.out.o.lt
              replace HT := Lib.hid (HT.out.trans x2); replace HX := Lib.hid x1
              clear x1 x2
              clear hc
              have hcv := run_convert_own (P := Tryd.prog) W2 66 9 5 Tryd.underlying66 Tryd.underlying5 Tryd.underlying9 rfl ho
              clear ho
              go_wp2_with fail
              go_ret
              refine ⟨HT.out, ?_⟩
              rw [HN.out]
              exact ⟨rfl, HX.out⟩
            · have b1 : ((d.toNat : Int) == 1) = false := by
                rw [beq_eq_false_iff_ne]; intro h; exact h1 (UInt8.toNat_inj.1 (by rw [show (1 : UInt8).toNat = 1 from rfl]; omega))
              by_cases h2 : d = 255
              · have b2 : ((d.toNat : Int) == 255) = true := by rw [beq_iff_eq, h2]; rfl
                have HN : Hid (unesc l = (unesc r2).map (fun x => (q ++ [c] ++ x.1, x.2))) := Lib.hid (by
                  rw [HU.out, h0, h2, unesc_255, Option.map_map]
                  congr 1
                  funext x; simp)
                clear h0 h1 h2
                go_wp2_with fail
                refine (next_go HX.out (by simp only [List.length_cons] at hll ⊢; omega)).mono ?_
                rintro e W ⟨rfl, x1, x2⟩
                replace ho := own_touch ho x2 HB.out.s.lt HB.out.o.lt
                replace HT := Lib.hid (HT.out.trans x2); replace HX := Lib.hid x1
                clear x1 x2
                clear hc o0
                have hc : W.cell? ⟨bn, 0, none⟩ = some (.func (.func 45) #[] #[.pointer (some ⟨bs, 0, none⟩), .pointer (some ⟨bo, 0, none⟩)]) := HX.out.n.cell 0
                go_wp2_with fail
                refine (next_go HX.out (by simp only [List.length_cons] at hll ⊢; omega)).mono ?_
                rintro e W2 ⟨rfl, x1, x2⟩
                replace ho := own_touch ho x2 HB.out.s.lt HB.out.o.lt
                replace HT := Lib.hid (HT.out.trans x2); replace HX := Lib.hid x1
                clear x1 x2
                clear hc
                have hBlt := HB.out.s.lt; have hBo := HB.out.o.lt; have hBn := HB.out.n.lt
                have hB2 : w.heap.size ≤ W2.heap.size := HT.out.size
                go_wp2_with (at_builtin; refine wpList_append_own _ rfl (.tmp 20) (.tmp 22) 66 rfl w.heap.size 5 i0 (.int .u8 0) 1 1 Tryd.underlying66 hi hz0 hz1 hz2 rfl (by decide) _ q.length (byteCells q) rfl (ho.alloc _) ⟨W2.heap.size, 0, none⟩ 1 1 [.int .u8 (c.toNat : Int)] rfl rfl ?c1 ?c2 ?c3 ?c4 ?c5 ?_)
                case c1 => exact cell_one_new _ _ _
                case c2 => intro u hu; simp at hu; subst hu; rfl
                case c3 => unfold maxLen; omega
                case c4 => omega
                case c5 => simp; omega
                intro v1 w3 hown1 hg _
                have hbw : Below w.heap.size W2 w3 := ((Below.refl _ W2).alloc hB2 _).grown hg (by simp; omega) (fun r e => (ho.lt r e).1)
                have G1 : Hid (w3.ownsRow w.heap.size 5 1 v1 (q ++ [c]).length (byteCells (q ++ [c]))) := Lib.hid (by rw [byteCells_append, List.length_append]; exact hown1)
                have G2 := Lib.hid (HT.out.below hbw)
                have G3 : Hid (Boxes bs bo bn w3 r2 true) := Lib.hid ⟨HX.out.s.below hbw hBlt, HX.out.o.below hbw hBo, HX.out.n.below hbw hBn⟩
                clear hown1 hg hbw ho hB2 hBlt hBo hBn
                go_wp2_with fail
                go_roundg (r2.length + 1)
                case rel => exact text_more r2 true (by simp) (by simp at hq ⊢; try omega) (by simp at hll ⊢; try omega) (by rw [HN.out]; rfl) G3.out G1.out G2.out
                case measure => have := HG.out; simp at this; try omega
              · have b2 : ((d.toNat : Int) == 255) = false := by
                  rw [beq_eq_false_iff_ne]; intro h; exact h2 (UInt8.toNat_inj.1 (by rw [show (255 : UInt8).toNat = 255 from rfl]; omega))
                have HN : Hid (unesc l = none) := Lib.hid (by
                  rw [HU.out, h0, unesc_bad h1 h2]; rfl)
                clear h0 h1 h2
                go_wp2_with fail
                refine (next_go HX.out (by simp only [List.length_cons] at hll ⊢; omega)).mono ?_
                rintro e W ⟨rfl, x1, x2⟩
                replace ho := own_touch ho x2 HB.out.s.lt HB.out.o.lt
                replace HT := Lib.hid (HT.out.trans x2); replace HX := Lib.hid x1
                clear x1 x2
                clear hc o0
                have hc : W.cell? ⟨bn, 0, none⟩ = some (.func (.func 45) #[] #[.pointer (some ⟨bs, 0, none⟩), .pointer (some ⟨bo, 0, none⟩)]) := HX.out.n.cell 0
                go_wp2_with fail
                refine (next_go HX.out (by simp only [List.length_cons] at hll ⊢; omega)).mono ?_
                rintro e W2 ⟨rfl, x1, x2⟩
                replace ho := own_touch ho x2 HB.out.s.lt HB.out.o.lt
                replace HT := Lib.hid (HT.out.trans x2); replace HX := Lib.hid x1
                clear x1 x2
                clear hc
                have oW : W2.cell? ⟨bo, 0, none⟩ = some (.bool true) := HX.out.o.cell 0
                have oF : W2.frozen? ⟨bo, 0, none⟩ = false := HX.out.o.frozen 0
                go_upto_region 11 with fail
                have hx3 := HX.out.stop
                have ht3 : Touch bs bo w (W2.setCell ⟨bo, 0, none⟩ (.bool false)) := HT.out.set (p := ⟨bo, 0, none⟩) (.inr rfl) _
                replace ho := own_setCell ho (a := ⟨bo, 0, none⟩) HB.out.o.lt (.bool false)
                clear oW oF HX HT
                generalize W2.setCell ⟨bo, 0, none⟩ (.bool false) = W3 at *
                have HX := Lib.hid hx3; have HT := Lib.hid ht3
                clear hx3 ht3
                have hBlt := HB.out.s.lt; have hBo := HB.out.o.lt; have hBn := HB.out.n.lt
                have hB2 : w.heap.size ≤ W3.heap.size := HT.out.size
                go_wp2_with (at_builtin; refine wpList_append_own _ rfl (.tmp 20) (.tmp 22) 66 rfl w.heap.size 5 i0 (.int .u8 0) 1 1 Tryd.underlying66 hi hz0 hz1 hz2 rfl (by decide) _ q.length (byteCells q) rfl (ho.alloc _) ⟨W3.heap.size, 0, none⟩ 1 1 [.int .u8 (c.toNat : Int)] rfl rfl ?c1 ?c2 ?c3 ?c4 ?c5 ?_)
                case c1 => exact cell_one_new _ _ _
                case c2 => intro u hu; simp at hu; subst hu; rfl
                case c3 => unfold maxLen; omega
                case c4 => omega
                case c5 => simp; omega
                intro v1 w3 hown1 hg _
                have hbw : Below w.heap.size W3 w3 := ((Below.refl _ W3).alloc hB2 _).grown hg (by simp; omega) (fun r e => (ho.lt r e).1)
                have G1 : Hid (w3.ownsRow w.heap.size 5 1 v1 (q ++ [c]).length (byteCells (q ++ [c]))) := Lib.hid (by rw [byteCells_append, List.length_append]; exact hown1)
                have G2 := Lib.hid (HT.out.below hbw)
                have G3 : Hid (Boxes bs bo bn w3 r2 false) := Lib.hid ⟨HX.out.s.below hbw hBlt, HX.out.o.below hbw hBo, HX.out.n.below hbw hBn⟩
                clear hown1 hg hbw ho hB2 hBlt hBo hBn
                go_wp2_with fail
                go_roundg (r2.length)
                case rel => exact text_more r2 false (by simp) (by simp at hq ⊢; try omega) (by simp at hll ⊢; try omega) (by rw [HN.out]; rfl) G3.out G1.out G2.out
                case measure => have := HG.out; simp at this; try omega
        · have b0 : ((c.toNat : Int) == 0) = false := by
            rw [beq_eq_false_iff_ne]; intro h; exact h0 (UInt8.toNat_inj.1 (by rw [show (0 : UInt8).toNat = 0 from rfl]; omega))
          have HN : Hid (unesc l = (unesc r).map (fun x => (q ++ [c] ++ x.1, x.2))) := Lib.hid (by
            rw [HU.out, unesc_c h0, Option.map_map]
            congr 1
            funext x; simp)
          clear h0
          go_wp2_with fail
          refine (next_go HX.out (by simp only [List.length_cons] at hll ⊢; omega)).mono ?_
          rintro e W ⟨rfl, x1, x2⟩
          replace ho := own_touch ho x2 HB.out.s.lt HB.out.o.lt
          replace HT := Lib.hid (HT.out.trans x2); replace HX := Lib.hid x1
          clear x1 x2
          clear hc o0
          have hBlt := HB.out.s.lt; have hBo := HB.out.o.lt; have hBn := HB.out.n.lt
          have hB2 : w.heap.size ≤ W.heap.size := HT.out.size
          go_wp2_with (at_builtin; refine wpList_append_own _ rfl (.tmp 20) (.tmp 22) 66 rfl w.heap.size 5 i0 (.int .u8 0) 1 1 Tryd.underlying66 hi hz0 hz1 hz2 rfl (by decide) _ q.length (byteCells q) rfl (ho.alloc _) ⟨W.heap.size, 0, none⟩ 1 1 [.int .u8 (c.toNat : Int)] rfl rfl ?c1 ?c2 ?c3 ?c4 ?c5 ?_)
          case c1 => exact cell_one_new _ _ _
          case c2 => intro u hu; simp at hu; subst hu; rfl
          case c3 => unfold maxLen; omega
          case c4 => omega
          case c5 => simp; omega
          intro v1 w3 hown1 hg _
          have hbw : Below w.heap.size W w3 := ((Below.refl _ W).alloc hB2 _).grown hg (by simp; omega) (fun r e => (ho.lt r e).1)
          have G1 : Hid (w3.ownsRow w.heap.size 5 1 v1 (q ++ [c]).length (byteCells (q ++ [c]))) := Lib.hid (by rw [byteCells_append, List.length_append]; exact hown1)
          have G2 := Lib.hid (HT.out.below hbw)
          have G3 : Hid (Boxes bs bo bn w3 r true) := Lib.hid ⟨HX.out.s.below hbw hBlt, HX.out.o.below hbw hBo, HX.out.n.below hbw hBn⟩
          clear hown1 hg hbw ho hB2 hBlt hBo hBn
          go_wp2_with fail
          go_roundg (r.length + 1)
          case rel => exact text_more r true (by simp) (by simp at hq ⊢; try omega) (by simp at hll ⊢; try omega) (by rw [HN.out]; rfl) G3.out G1.out G2.out
          case measure => have := HG.out; simp at this; try omega
end Go.Proofs.YtebagmiclfhelaaDoor.OrdLib
