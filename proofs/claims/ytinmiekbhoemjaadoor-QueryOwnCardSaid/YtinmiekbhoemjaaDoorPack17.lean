/- A text that is being built, what is kept beside it, and the contracts of what writes to it: bytes, texts, quoted texts, numbers. Contract: query.numbers. Numbers that are written are read again: the law of numbers that the plain laws ask. -/
import Derived.Test.YtinmiekbhoemjaaDoorPack16
import Derived.Test.YtinmiekbhoemjaaDoorPack6
import Derived.Test.YtinmiekbhoemjaaDoorPack7
import Derived.LoopTactic
import Derived.Test.YtinmiekbhoemjaaDoorPack4
import Derived.Test.YtinmiekbhoemjaaDoorQryBackP
section
set_option linter.unusedVariables false
namespace Go.Proofs.YtinmiekbhoemjaaDoor.Qry
open Go.RowKit Words Tree QryP Kit

/-- The builder at block b holds l. -/
def Buf (B b : Nat) (l : List UInt8) (w : World) : Prop := Lib.IsBuilderF 45 5 B b (Lib.byteCells l) w
/-- What was below B stands, and so does every block but those of S and rows of bytes. -/
structure Wr (B : Nat) (S : Nat → Prop) (w w' : World) : Prop where
  below : Below B w w'
  kept : ∀ g o, w.heap[g]? = some o → ¬ S g → (∀ c fz, o ≠ .cells c 5 fz) → w'.heap[g]? = some o
section
variable {B b : Nat} {S S' : Nat → Prop} {w w' w'' : World}
theorem Wr.refl (B : Nat) (S : Nat → Prop) (w : World) : Wr B S w w := ⟨Below.refl _ _, fun _ _ h _ _ => h⟩
theorem Wr.trans (h : Wr B S w w') (k : Wr B S w' w'') : Wr B S w w'' := ⟨h.below.trans k.below, fun g o h1 h2 h3 => k.kept g o (h.kept g o h1 h2 h3) h2 h3⟩
theorem Wr.mono (h : Wr B S w w') (hS : ∀ g, S g → S' g) : Wr B S' w w' := ⟨h.below, fun g o h1 h2 h3 => h.kept g o h1 (fun x => h2 (hS g x)) h3⟩
theorem Wr.of (h : Below B w w') (k : Lib.OthersKept 5 (some b) w w') : Wr B (fun g => g = b) w w' := ⟨h, fun g o h1 h2 h3 => k g o h1 (fun e => h2 (Option.some.inj e)) h3⟩
theorem Wr.alloc (h : Wr B S w w') (hB : B ≤ w'.heap.size) (o : Obj) : Wr B S w (w'.alloc o) := ⟨h.below.alloc hB o, fun g x h1 h2 h3 => by
  have := h.kept g x h1 h2 h3
  exact (Lib.alloc_old w' o g (Array.getElem?_eq_some_iff.1 this).1).trans this⟩
theorem Wr.same (h : Below w.heap.size w w') (hB : B ≤ w.heap.size) : Wr B S w w' := ⟨h.mono hB, fun g x h1 _ _ => (h.block g (Array.getElem?_eq_some_iff.1 h1).1).trans h1⟩
theorem Wr.set (h : Wr B S w w') {p : Addr} (hp : S p.block) (hB : B ≤ p.block) (v : Value) : Wr B S w (w'.setCell p v) := ⟨h.below.setCell hB v, fun g x h1 h2 h3 => (Below.heap_setCell _ _ _ _ (by rintro rfl; exact h2 hp)).trans (h.kept g x h1 h2 h3)⟩
theorem Wr.blk {g : Nat} {t : TypeId} {cs : Array Value} (h : Wr B S w w') (hb : Blk w g t cs) (hS : ¬ S g) (ht : t ≠ 5) : Blk w' g t cs := h.kept g _ hb hS (fun c fz e => by injection e with _ e; exact ht e)
theorem Buf.ge {l : List UInt8} (h : Buf B b l w) : B ≤ b := h.elim (fun x => x.1) (fun x => x.1)
theorem Buf.keep {l : List UInt8} (h : Buf B b l w) (hb : Below w.heap.size w w') : Buf B b l w' := by
  have key : ∀ p, Lib.BuilderAtF 45 5 B b p (Lib.byteCells l) w → Lib.BuilderAtF 45 5 B b p (Lib.byteCells l) w' := by
    rintro p ⟨h1, v, h2, h3, h4⟩
    refine ⟨h1, v, (hb.block b (Array.getElem?_eq_some_iff.1 h2).1).trans h2, ⟨h3.1, h3.2.elim .inl fun ⟨g, cap, cur, fz, hv, g1, g2, g3⟩ => .inr ⟨g, cap, cur, fz, hv, g1, (hb.block g (Array.getElem?_eq_some_iff.1 g2).1).trans g2, g3⟩⟩, h4⟩
  exact h.elim (fun x => .inl (key _ x)) (fun x => .inr (key _ x))
theorem Buf.set {l : List UInt8} (h : Buf B b l w) {p : Addr} {t : TypeId} {cs : Array Value} (hp : Blk w p.block t cs) (ht : t ≠ 5) (hb : p.block ≠ b) (v : Value) : Buf B b l (w.setCell p v) := by
  have key : ∀ q, Lib.BuilderAtF 45 5 B b q (Lib.byteCells l) w → Lib.BuilderAtF 45 5 B b q (Lib.byteCells l) (w.setCell p v) := by
    rintro q ⟨h1, x, h2, h3, h4⟩
    refine ⟨h1, x, (Below.heap_setCell _ _ _ _ (Ne.symm hb)).trans h2, ⟨h3.1, h3.2.elim .inl fun ⟨g, cap, cur, fz, hv, g1, g2, g3⟩ => .inr ⟨g, cap, cur, fz, hv, g1, (Below.heap_setCell _ _ _ _ ?_).trans g2, g3⟩⟩, h4⟩
    rintro rfl
    have hp' : w.heap[p.block]? = some (.cells cs t (0, 0)) := hp
    rw [hp'] at g2
    injection g2 with g2
    injection g2 with _ g2
    exact ht g2
  exact h.elim (fun x => .inl (key _ x)) (fun x => .inr (key _ x))
theorem Buf.size {l : List UInt8} (h : Buf B b l w) : b < w.heap.size := by
  rcases h with ⟨_, v, h2, _⟩ | ⟨_, v, h2, _⟩ <;> exact (Array.getElem?_eq_some_iff.1 h2).1
end
/-- x has been written behind l. -/
def Put (B b : Nat) (l x : List UInt8) (w : World) (e : Ending) (w' : World) : Prop := Buf B b (l ++ x) w' ∧ Wr B (fun g => g = b) w w'
def PutU (B b : Nat) (l x : List UInt8) (w : World) (e : Ending) (w' : World) : Prop := e = .returned (.tuple #[]) ∧ Put B b l x w e w'
def maxW : Nat := 140737488355328
theorem cells_snoc (l : List UInt8) (c : UInt8) : Lib.byteCells l ++ [.int .u8 c.toNat] = Lib.byteCells (l ++ [c]) := by simp [Lib.byteCells]
theorem byte_put (B b : Nat) (l : List UInt8) (c : UInt8) (w : World) (h : Buf B b l w) (hl : l.length + 1 ≤ maxW) : Calls Tryd.prog 43 #[.pointer (some ⟨b, 0, none⟩), .int .u8 c.toNat] w fun e w' => e = .returned .nilIface ∧ Put B b l [c] w e w' :=
  (SBuilder.writeByte_any B b _ c.toNat w h (by simpa [Lib.byteCells, maxW] using hl) (by have := h.ge; have := h.size; omega)).mono fun e w' ⟨h1, h2, h3, h4⟩ => ⟨h1, by rw [cells_snoc] at h2; exact .inr h2, Wr.of h3 h4⟩
theorem string_put (B b : Nat) (l : List UInt8) (s : ByteArray) (w : World) (h : Buf B b l w) (hl : l.length + s.size ≤ maxW) : Calls Tryd.prog 40 #[.pointer (some ⟨b, 0, none⟩), .string s] w fun e w' => e = .returned (.tuple #[.int .i64 s.size, .nilIface]) ∧ Put B b l s.data.toList w e w' :=
  (SBuilder.writeString_any B b _ s w h (by simpa [Lib.byteCells, maxW] using hl) (by have := h.ge; have := h.size; omega)).mono fun e w' ⟨h1, h2, h3, h4⟩ => ⟨h1, by
    have : Lib.byteCells l ++ Lib.strCells s = Lib.byteCells (l ++ s.data.toList) := by simp [Lib.byteCells, Lib.strCells]
    rw [this] at h2; exact .inr h2, Wr.of h3 h4⟩
end Go.Proofs.YtinmiekbhoemjaaDoor.Qry
end
section
set_option linter.unusedVariables false
namespace Go.Proofs.YtinmiekbhoemjaaDoor.Qry
open Go.RowKit Words Tree QryP Kit

/-- A number as it is written. -/
abbrev numT (n : Int) : List UInt8 := Lib.itoa n
theorem joinF_pre (sep : List UInt8) : ∀ a b : List (List UInt8), (joinF sep a).length ≤ (joinF sep (a ++ b)).length
  | [], b => Nat.zero_le _
  | [x], [] => Nat.le_refl _
  | [x], y :: b => by simp [joinF]
  | x :: y :: a, b => by
    have := joinF_pre sep (y :: a) b
    simp only [List.cons_append, joinF, List.length_append] at *
    omega
theorem nums_step {l : List Int} {k : Nat} (h : k < l.length) : numsF numT (l.take (k + 1)) = (if k = 0 then numT l[k] else numsF numT (l.take k) ++ [32] ++ numT l[k]) := by
  unfold numsF
  rw [List.take_succ_eq_append_getElem h, List.map_append, List.map_cons, List.map_nil, joinF_snoc]
  by_cases hk : k = 0
  · subst hk; rfl
  · rw [if_neg hk, if_neg]
    intro e
    have := congrArg List.length e
    rw [List.length_map, List.length_take] at this
    simp only [List.length_nil] at this
    omega
theorem nums_le {l : List Int} {k : Nat} : (numsF numT (l.take k)).length ≤ (numsF numT l).length := by
  unfold numsF
  conv => rhs; rw [← List.take_append_drop k l, List.map_append]
  exact joinF_pre _ _ _
theorem format_z (z : Int) (h : I64 z) (w : World) (hT : Lib.TabIs Tryd.prog w "internal/strconv.uint64pow10" .u64 Lib.pow10Tab) :
    Calls Tryd.prog 74 #[.int .i64 z, .int .i64 10] w (fun e w' => e = .returned (.string (str (numT z))) ∧ Below w.heap.size w w') := OrdLib.format_any z h.1 h.2 _ rfl w hT
set_option maxRecDepth 100000 in
set_option maxHeartbeats 8000000 in
theorem numbers_any (B b D : Nat) (l0 : List UInt8) (A : Option Addr) (c : Nat) (l : List Int) (w : World) (hR : ∀ W, Wr B (fun g => g = b) w W → Reads W D 1 A l.length (l.map (Value.int .i64))) (hl : l.length * 8 ≤ 140737488351232) (hI : ∀ z ∈ l, I64 z) (h : Buf B b l0 w) (hm : l0.length + (numsF numT l).length ≤ maxW)
    (hP : ∀ W, Wr B (fun g => g = b) w W → Lib.TabIs Tryd.prog W "internal/strconv.uint64pow10" .u64 Lib.pow10Tab) :
    Calls Tryd.prog 45 #[.pointer (some ⟨b, 0, none⟩), .slice A l.length c] w (PutU B b l0 (numsF numT l) w) := by
  have HR := Lib.hid hR; have HI := Lib.hid hI; have HP := Lib.hid hP; have HM := Lib.hid hm
  have H0 : Hid (Buf B b (l0 ++ numsF numT (l.take 0)) w) := Lib.hid (by simpa [numsF, joinF] using h)
  have HBw := Lib.hid (And.intro h.ge h.size)
  clear hR hI hP hm h
  go_enter Tryd.func45, Tryd.ntmps45
  go_wp2_with fail
  go_loopw [8] (fun i wr => ∃ k : Nat, k ≤ l.length ∧ i = .int .i64 k ∧ Hid (Buf B b (l0 ++ numsF numT (l.take k)) wr) ∧ Hid (Wr B (fun g => g = b) w wr)) (fun i _ => l.length - (intOf i).toNat)
  case atStart => exact ⟨0, by omega, rfl, H0, Lib.hid (Wr.refl _ _ _)⟩
  case round =>
    obtain ⟨k, hk, rfl, HB, HW⟩ := hrel
    by_cases hlt : k < l.length
    · have hlt2 : (k : Int) < (l.length : Int) := by omega
      obtain ⟨ad, u, rfl, hbl, hu, hce⟩ := (HR.out _ HW.out).at_ hlt
      obtain rfl : u = .int .i64 l[k] := by
        rw [List.getElem?_map, List.getElem?_eq_getElem hlt] at hu
        exact (Option.some.inj hu).symm
      have hz := HI.out l[k] (List.getElem_mem _)
      have HS := Lib.hid (nums_step hlt)
      have HLE : Hid ((numsF numT (l.take (k + 1))).length ≤ (numsF numT l).length) := Lib.hid nums_le
      clear hu hbl
      generalize l[k] = z at *
      have HF := Lib.hid (fun W hW => format_z z hz W (HP.out W hW))
      clear hz
      by_cases hk0 : k = 0
      · subst hk0
        have e0 : ad.add 0 = ad := by unfold Addr.add; split <;> simp_all
        rw [e0] at hce
        clear e0
        have HX := Lib.hid (fun (W : World) (hW : Buf B b (l0 ++ numsF numT (l.take 0)) W) => string_put B b _ (str (numT z)) W hW (by
          have h1 := HM.out; have h2 := HLE.out; have h3 := HS.out
          rw [if_pos rfl] at h3
          rw [h3] at h2
          show (l0 ++ numsF numT (l.take 0)).length + (numT z).length ≤ maxW
          simp only [List.take_zero, numsF, List.map_nil, joinF, List.append_nil] at *
          omega))
        go_wp2_with fail
        refine (HF.out _ HW.out).mono ?_
        rintro e w2 ⟨rfl, hb⟩
        have HB2 := Lib.hid (HB.out.keep hb)
        have HW2 := Lib.hid (HW.out.trans (Wr.same hb (by have h1 := HBw.out; have h2 := HW.out.below.size; omega)))
        clear hb hce
        go_wp2_with fail
        refine (HX.out _ HB2.out).mono ?_
        rintro e w3 ⟨rfl, hb, hw⟩
        have HB3 : Hid (Buf B b (l0 ++ numsF numT (l.take (0 + 1))) w3) := Lib.hid (by
          have hb' : Buf B b (l0 ++ numsF numT (l.take 0) ++ numT z) w3 := hb
          rw [HS.out]
          simpa [numsF, joinF] using hb')
        have HW3 := Lib.hid (HW2.out.trans hw)
        clear hb hw
        go_wp2_with fail
        go_roundw
        case rel => exact ⟨1, by omega, by go_num, HB3, HW3⟩
        case measure => simp [intOf]; omega
      · have hkp : (0 : Int) < (k : Int) := by omega
        have HXL : Hid ((l0 ++ numsF numT (l.take k)).length + 1 + (numT z).length ≤ maxW) := Lib.hid (by
          have h1 := HM.out; have h2 := HLE.out; have h3 := HS.out
          rw [if_neg hk0] at h3
          rw [h3] at h2
          simp only [List.length_append, List.length_cons, List.length_nil] at *
          omega)
        have HP1 := Lib.hid (fun (W : World) (hW : Buf B b (l0 ++ numsF numT (l.take k)) W) => byte_put B b _ 32 W hW (by have := HXL.out; omega))
        have HX := Lib.hid (fun (W : World) (hW : Buf B b (l0 ++ numsF numT (l.take k) ++ [32]) W) => string_put B b _ (str (numT z)) W hW (by
          have := HXL.out
          show _ + (numT z).length ≤ maxW
          simp only [List.length_append, List.length_cons, List.length_nil] at *
          omega))
        have HST : Hid (∀ W, Buf B b (l0 ++ numsF numT (l.take k) ++ [32] ++ numT z) W → Buf B b (l0 ++ numsF numT (l.take (k + 1))) W) := Lib.hid (fun W hW => by
          rw [HS.out, if_neg hk0]
          simpa [List.append_assoc] using hW)
        clear hk0
        go_wp2_with fail
        refine (HP1.out _ HB.out).mono ?_
        rintro e w2 ⟨rfl, hb, hw⟩
        have HB2 := Lib.hid hb; have HW2 := Lib.hid (HW.out.trans hw)
        clear hb hw hce
        go_wp2_with fail
        refine (HF.out _ HW2.out).mono ?_
        rintro e w3 ⟨rfl, hb⟩
        have HB3 := Lib.hid (HB2.out.keep hb)
        have HW3 := Lib.hid (HW2.out.trans (Wr.same hb (by have h1 := HBw.out; have h2 := HW2.out.below.size; omega)))
        clear hb
        go_wp2_with fail
        refine (HX.out _ HB3.out).mono ?_
        rintro e w4 ⟨rfl, hb, hw⟩
        have HB4 := Lib.hid (HST.out _ hb); have HW4 := Lib.hid (HW3.out.trans hw)
        clear hb hw
        go_wp2_with fail
        go_roundw
        case rel => exact ⟨k + 1, by omega, by go_num, HB4, HW4⟩
        case measure => simp [intOf]; omega
    · obtain rfl : k = l.length := by omega
      have HB1 : Hid (Buf B b (l0 ++ numsF numT l) wr) := Lib.hid (by
        have := HB.out
        rwa [List.take_length] at this)
      clear HB
      go_wp2_with fail
      go_end0
      exact ⟨rfl, HB1.out, HW.out⟩
end Go.Proofs.YtinmiekbhoemjaaDoor.Qry
end
section
set_option linter.unusedVariables false
namespace Go.Proofs.YtinmiekbhoemjaaDoor.Qry
open Go.RowKit Words Tree QryP Kit

/-- A number that is read. -/
def parT (l : R) : Option Int := match Lib.parseIntB 64 l with
  | .ok v => some v
  | _ => none
theorem parT_in {l : R} {v : Int} (h : parT l = some v) : I64 v := by
  unfold parT at h
  split at h
  · rename_i v' hv
    cases h
    have := Lib.parseIntB_bounds hv
    unfold I64; omega
  · cases h
theorem dec_val (u : Nat) : OrdP.val (Lib.decDigits u) = u := by
  unfold OrdP.val
  rw [OrdP.decDigits_eq_low, OrdP.lowD_val, Nat.mod_eq_of_lt (Lib.lt_pow_nDigits u)]
  omega
theorem dec_ne (u : Nat) : Lib.decDigits u ≠ [] := by
  intro h
  have := congrArg List.length h
  rw [Lib.decDigits_length] at this
  have := Lib.nDigits_pos u
  simp at *
  omega
theorem dec_all (u : Nat) : (Lib.decDigits u).all OrdP.digB = true := by rw [OrdP.decDigits_eq_low]; exact OrdP.lowD_digits _ _
theorem itoa_if (n : Int) : Lib.itoa n = if decide (n < 0) then 45 :: Lib.decDigits n.natAbs else Lib.decDigits n.natAbs := by
  by_cases h : n < 0
  · rw [decide_eq_true h, if_pos rfl]
    have := Lib.itoa_neg n.natAbs (by omega)
    rwa [show -(n.natAbs : Int) = n by omega] at this
  · rw [decide_eq_false h]
    have := Lib.itoa_nonneg n.natAbs
    rwa [show (n.natAbs : Int) = n by omega] at this
theorem num_law : NumLaw numT parT I64 where
  back n hn := by
    show parT (Lib.itoa n) = some n
    unfold parT
    rw [itoa_if, OrdP.parse_fin _ _ (dec_ne _) (dec_all _)]
    unfold OrdP.fin
    rw [dec_val]
    have h1 := hn.1; have h2 := hn.2
    by_cases h : n < 0
    · rw [decide_eq_true h, if_pos rfl, if_pos (by omega)]
      simp only [OrdP.endOf]
      congr 1; omega
    · rw [decide_eq_false h]
      simp only [Bool.false_eq_true, if_false]
      rw [if_pos (by omega)]
      simp only [OrdP.endOf]
      congr 1; omega
  form n := by
    by_cases h : n < 0
    · exact ⟨[45], Lib.decDigits n.natAbs, by show Lib.itoa n = _; rw [itoa_if, decide_eq_true h]; rfl, .inr rfl, dec_ne _, fun c hc => List.all_eq_true.1 (dec_all n.natAbs) c hc⟩
    · exact ⟨[], Lib.decDigits n.natAbs, by show Lib.itoa n = _; rw [itoa_if, decide_eq_false h]; rfl, .inl rfl, dec_ne _, fun c hc => List.all_eq_true.1 (dec_all n.natAbs) c hc⟩
end Go.Proofs.YtinmiekbhoemjaaDoor.Qry
end
