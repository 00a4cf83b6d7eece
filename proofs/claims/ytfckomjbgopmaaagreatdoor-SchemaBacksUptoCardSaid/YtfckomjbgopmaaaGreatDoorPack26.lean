/- Plain laws: where tokens lie, a chain's last link, two texts with a blank between. A field's tokens, in plain Lean: one value's behind the other's, with a gap. Contracts: rows of tokens compared, lent and kept. -/
import Derived.Test.YtfckomjbgopmaaaGreatDoorPack25
import Derived.Test.YtfckomjbgopmaaaGreatDoorPack8
import Derived.Test.YtfckomjbgopmaaaGreatDoorProg
import Derived.Test.YtfckomjbgopmaaaGreatDoorPack6
import Derived.Test.YtfckomjbgopmaaaGreatDoorPack2
import Derived.Test.YtfckomjbgopmaaaGreatDoorPack4
import Derived.Deep.QuietTactic
import Derived.BigQuiet
import Derived.LoopTactic
import Derived.Laws.StructEq
section
namespace AnaP
open Go.Lib Go FoldP

/-! ### Where tokens lie -/
theorem tokOf_get (s : ByteArray) (cuts : List (Nat × Nat)) (i : Nat) (h : i < (tokOf s cuts).length) : (tokOf s cuts)[i] = tokAt s i (cuts[i]'(by rw [tokOf_len] at h; exact h)) := by
  simp [tokOf]
theorem linkAll_cases : ∀ (ns : List Int) (t : List TokD), (linkAll ns t).2 = 0 ∨ linkAll ns t = ([], 84)
  | [], t => .inl rfl
  | n :: ns, t => by
    unfold linkAll
    split
    · exact .inr rfl
    · exact linkAll_cases ns _
theorem linkAll_all {p : List TokD → Prop} (hp : ∀ n l ts, p l → linkF n l = some ts → p ts) : ∀ (ns : List Int) (t : List TokD), p t → (linkAll ns t).2 = 0 → p (linkAll ns t).1
  | [], t, h, _ => h
  | n :: ns, t, h, e => by
    unfold linkAll at e ⊢
    split at e
    · cases e
    · rename_i t' he
      exact linkAll_all hp ns _ (hp n t t' h he) e
theorem runF_cases (c : List Int) (s : ByteArray) : (runF c s).2 = 0 ∨ (runF c s).1 = [] := by
  unfold runF
  split
  · exact .inr rfl
  · split
    · exact .inr rfl
    · split
      · exact .inr rfl
      · rcases linkAll_cases c.tail (tokensF (c.getD 0 0) s) with h | h
        · exact .inl h
        · rw [h]; exact .inr rfl
theorem runF_all {p : List TokD → Prop} (hp : ∀ n l ts, p l → linkF n l = some ts → p ts) (c : List Int) (s : ByteArray) (h0 : s.size ≤ 4096 → (tokensF (c.getD 0 0) s).length ≤ 4096 → p (tokensF (c.getD 0 0) s)) (e : (runF c s).2 = 0) : p (runF c s).1 := by
  unfold runF at e ⊢
  split at e
  · cases e
  · split at e
    · cases e
    · split at e
      · cases e
      · rename_i h1 h2 h3
        rw [if_neg h1, if_neg h2, if_neg h3]
        exact linkAll_all hp _ _ (h0 (by omega) (by omega)) e
theorem runF_len (c : List Int) (s : ByteArray) : (runF c s).1.length ≤ 4096 := by
  rcases runF_cases c s with h | h
  · exact runF_all (p := fun l => l.length ≤ 4096) (fun n l ts _ e => linkF_len4 e) c s (fun _ h => h) h
  · rw [h]; simp
theorem runF_text (c : List Int) (s : ByteArray) : ∀ t ∈ (runF c s).1, t.text.size ≤ 4096 := by
  rcases runF_cases c s with h | h
  · exact runF_all (p := fun l => ∀ t ∈ l, t.text.size ≤ 4096) (fun n l ts h e => link_all (p := fun t => t.text.size ≤ 4096) (fun t x h1 h2 => by have := one_size n t.text x h2; exact Nat.le_trans this h1) h e) c s
      (fun h4 _ t ht => by have := tokensF_size _ s t ht; omega) h
  · rw [h]; simp
theorem tokens_text (n : Int) (s : ByteArray) (i : Nat) (h : i < (tokensF n s).length) : ∃ a b : Nat, a ≤ b ∧ b ≤ s.size ∧ (tokensF n s)[i].text = s.extract a b ∧ (tokensF n s)[i].pos = i ∧ (tokensF n s)[i].frm = a ∧ (tokensF n s)[i].til = b := by
  have hc := cutF_ok n (runeL s.data.toList)
  rw [runeL_len] at hc
  unfold tokensF at h ⊢
  have hi' : i < (cutF n (runeL s.data.toList)).length := by rwa [tokOf_len] at h
  have h2 := hc.1 _ (List.getElem_mem hi')
  have h3 := posAt_mono s.data.toList _ _ (Nat.le_of_lt h2.1) h2.2
  have h4 := posAt_le s.data.toList (cutF n (runeL s.data.toList))[i].2
  have e2 : s.data.toList.length = s.size := by simp
  rw [tokOf_get]
  exact ⟨_, _, h3, by omega, rfl, rfl, rfl, rfl⟩

/-! ### A chain's last link -/
/-! ### Two texts with a blank between -/
end AnaP
end
section
namespace SchP
open AnaP

def shiftP (b : Int) (ts : List TokD) : List TokD := ts.map fun t => { t with pos := t.pos + b }
def baseP (out : List TokD) : Int := match out.getLast? with
  | none => 0
  | some t => t.pos + 101
def toksGo (run : ByteArray → List TokD) (field : Int) : List TokD → List CT → List TokD
  | out, [] => out
  | out, c :: cs => toksGo run field (if c.field = field then out ++ shiftP (baseP out) (run c.text) else out) cs
def runTk (f : FT) (s : ByteArray) : List TokD := (runF f.chain s).1
def toksF (l : List FT) (field : Int) (cs : List CT) : List TokD :=
  if checkS l = false ∨ field < 0 ∨ (l.length : Int) ≤ field then [] else match l[field.toNat]? with
    | none => []
    | some f => if f.kind = 1 then toksGo (runTk f) field [] cs else []

theorem runF_pos (c : List Int) (s : ByteArray) : ∀ t ∈ (runF c s).1, 0 ≤ t.pos ∧ t.pos < 4096 := by
  rcases runF_cases c s with h | h
  · refine runF_all (p := fun l => ∀ t ∈ l, 0 ≤ t.pos ∧ t.pos < 4096) (fun n l ts h e => link_all (p := fun t => 0 ≤ t.pos ∧ t.pos < 4096) (fun t x h1 h2 => h1) h e) c s (fun _ hl t ht => ?_) h
    obtain ⟨i, hi, rfl⟩ := List.mem_iff_getElem.1 ht
    have := tokens_text (c.getD 0 0) s i hi
    obtain ⟨a, b, _, _, _, hp, _, _⟩ := this
    rw [hp]; omega
  · rw [h]; simp
theorem shiftP_len (b : Int) (ts : List TokD) : (shiftP b ts).length = ts.length := by simp [shiftP]
theorem shiftP_take {b : Int} {ts : List TokD} {j : Nat} (h : j < ts.length) : (shiftP b ts).take (j + 1) = (shiftP b ts).take j ++ [{ ts[j] with pos := ts[j].pos + b }] := by
  rw [List.take_succ_eq_append_getElem (by rw [shiftP_len]; exact h)]
  simp [shiftP]
theorem toksGo_step {run : ByteArray → List TokD} {field : Int} {out : List TokD} {cs : List CT} {k : Nat} (h : k < cs.length) : toksGo run field out (cs.drop k) = toksGo run field (if cs[k].field = field then out ++ shiftP (baseP out) (run cs[k].text) else out) (cs.drop (k + 1)) := by
  rw [List.drop_eq_getElem_cons h]; rfl
theorem baseP_cons {out : List TokD} (h : out ≠ []) : baseP out = (out.getLast h).pos + 101 := by
  unfold baseP
  rw [List.getLast?_eq_some_getLast h]
theorem baseP_at {out : List TokD} {n : Nat} (h : out.length = n + 1) : baseP out = (out[n]'(by omega)).pos + 101 := by
  have hne : out ≠ [] := by intro e; subst e; simp at h
  rw [baseP_cons hne, List.getLast_eq_getElem]
  congr 3
  omega
/-- What is bounded of a row of tokens that k values have given. -/
structure ToksOk (k : Nat) (out : List TokD) : Prop where
  len : out.length ≤ 4096 * k
  pos : ∀ t ∈ out, 0 ≤ t.pos ∧ t.pos < 4200 * (k : Int)
  text : ∀ t ∈ out, t.text.size ≤ 4096
theorem ToksOk.nil : ToksOk 0 [] := ⟨by simp, by simp, by simp⟩
theorem ToksOk.base {k : Nat} {out : List TokD} (h : ToksOk k out) : 0 ≤ baseP out ∧ baseP out ≤ 4200 * (k : Int) + 100 := by
  unfold baseP
  split
  · omega
  · rename_i t ht
    have := h.pos t (List.mem_of_getLast? ht)
    omega
theorem ToksOk.more {k : Nat} {out : List TokD} (h : ToksOk k out) : ToksOk (k + 1) out := ⟨by have := h.len; omega, fun t ht => by have := h.pos t ht; push_cast; omega, h.text⟩
theorem ToksOk.step {k : Nat} {out : List TokD} (h : ToksOk k out) (c : List Int) (s : ByteArray) : ToksOk (k + 1) (out ++ shiftP (baseP out) (runF c s).1) := by
  have hb : out = [] ∨ baseP out ≤ 4200 * (k : Int) + 100 := .inr h.base.2
  have h0 := h.base.1
  refine ⟨?_, ?_, ?_⟩
  · have := runF_len c s; have := h.len
    rw [List.length_append, shiftP_len]; omega
  · intro t ht
    rcases List.mem_append.1 ht with ht | ht
    · have := h.pos t ht; push_cast; omega
    · unfold shiftP at ht
      obtain ⟨x, hx, rfl⟩ := List.mem_map.1 ht
      have := runF_pos c s x hx
      have := h.base.2
      dsimp only
      push_cast; omega
  · intro t ht
    rcases List.mem_append.1 ht with ht | ht
    · exact h.text t ht
    · unfold shiftP at ht
      obtain ⟨x, hx, rfl⟩ := List.mem_map.1 ht
      exact runF_text c s x hx
theorem toksGo_ok (f : FT) (field : Int) : ∀ (cs : List CT) (k : Nat) (out : List TokD), ToksOk k out → ToksOk (k + cs.length) (toksGo (runTk f) field out cs)
  | [], k, out, h => by simpa [toksGo] using h
  | c :: cs, k, out, h => by
    rw [toksGo, List.length_cons, show k + (cs.length + 1) = (k + 1) + cs.length by omega]
    refine toksGo_ok f field cs (k + 1) _ ?_
    split
    · exact h.step f.chain c.text
    · exact h.more
theorem toksF_ok (l : List FT) (field : Int) (cs : List CT) : ToksOk cs.length (toksF l field cs) := by
  have hn : ToksOk cs.length [] := ⟨by simp, by simp, by simp⟩
  unfold toksF
  split
  · exact hn
  · split
    · exact hn
    · split
      · have := toksGo_ok ‹_› field cs 0 [] ToksOk.nil
        simpa using this
      · exact hn
theorem toksF_no {l : List FT} {field : Int} (h : checkS l = false ∨ field < 0 ∨ (l.length : Int) ≤ field) (cs : List CT) : toksF l field cs = [] := by unfold toksF; rw [if_pos h]
theorem toksF_in {l : List FT} {i : Nat} {f : FT} (h : checkS l = true) (hf : l[i]? = some f) (cs : List CT) : toksF l i cs = if f.kind = 1 then toksGo (runTk f) i [] cs else [] := by
  have hi := (List.getElem?_eq_some_iff.1 hf).1
  unfold toksF
  rw [if_neg (by rw [h]; simp; omega)]
  simp only [Int.toNat_natCast, hf]
end SchP
end
section
set_option linter.unusedVariables false
namespace Go.Proofs.YtfckomjbgopmaaaGreatDoor.Ana
open Go.RowKit Go.Lib AnaP Words Tree Kit Owned

def BoolB (b : Bool) (w : World) (e : Ending) (w' : World) : Prop := e = .returned (.bool b) ∧ Below w.heap.size w w'
theorem tok_ne {x y : TokD} (h : ¬ x = y) : (x.text.toList == y.text.toList) = false ∨ (x.text = y.text ∧ (x.pos == y.pos) = false) ∨ (x.text = y.text ∧ x.pos = y.pos ∧ (x.frm == y.frm) = false) ∨ (x.text = y.text ∧ x.pos = y.pos ∧ x.frm = y.frm ∧ (x.til == y.til) = false) := by
  obtain ⟨t1, p1, f1, l1⟩ := x
  obtain ⟨t2, p2, f2, l2⟩ := y
  dsimp only
  by_cases h1 : t1 = t2
  · by_cases h2 : p1 = p2
    · by_cases h3 : f1 = f2
      · exact .inr (.inr (.inr ⟨h1, h2, h3, by rw [beq_eq_false_iff_ne]; intro h4; exact h (by rw [h1, h2, h3, h4])⟩))
      · exact .inr (.inr (.inl ⟨h1, h2, by rw [beq_eq_false_iff_ne]; exact h3⟩))
    · exact .inr (.inl ⟨h1, by rw [beq_eq_false_iff_ne]; exact h2⟩)
  · refine .inl ?_
    rw [beq_eq_false_iff_ne]
    intro h3
    rw [ByteArray.toList_eq, ByteArray.toList_eq] at h3
    exact h1 (ByteArray.ext (Array.toList_inj.1 h3))
/-- Element k of a row of tokens. -/
theorem reads_tok {w : World} {B n : Nat} {ao : Option Addr} {ts : List TokD} (h : Reads w B 4 ao n (tokCells ts)) (hn : n = ts.length) {k : Nat} (hk : k < ts.length) :
    ∃ ad, ao = some ad ∧ ad.block < B ∧ w.cell? (ad.add (k * 4)) = some (.string ts[k].text) ∧ w.cell? ⟨(ad.add (k * 4)).block, (ad.add (k * 4)).off + 1, none⟩ = some (.int .i64 ts[k].pos) ∧ w.cell? ⟨(ad.add (k * 4)).block, (ad.add (k * 4)).off + 2, none⟩ = some (.int .i64 ts[k].frm) ∧ w.cell? ⟨(ad.add (k * 4)).block, (ad.add (k * 4)).off + 3, none⟩ = some (.int .i64 ts[k].til) := by
  obtain ⟨ad, ha, hb, hc⟩ := reads_elem cells_len h hn hk
  exact ⟨ad, ha, hb, hc.zero, hc.at_ 1 _ rfl (by omega), hc.at_ 2 _ rfl (by omega), hc.at_ 3 _ rfl (by omega)⟩

set_option maxRecDepth 100000 in
set_option maxHeartbeats 1000000 in
theorem tokensEq_any (ao bo : Option Addr) (c d : Nat) (xs ys : List TokD) (w : World) (ha : Reads w w.heap.size 4 ao xs.length (tokCells xs)) (hb : Reads w w.heap.size 4 bo ys.length (tokCells ys)) (hla : xs.length ≤ 4398046511104) (hlb : ys.length ≤ 4398046511104) (r : Bool) (hr : r = true ↔ xs = ys) :
    Calls Tryz.prog 14 #[.slice ao xs.length c, .slice bo ys.length d] w (BoolB r w) := by
  have HA := Lib.hid ha; have HB := Lib.hid hb; have HR := Lib.hid hr
  clear ha hb hr
  by_cases hl : xs.length = ys.length
  · have HL := Lib.hid hl
    have hbne : ((xs.length : Int) != (ys.length : Int)) = false := by rw [hl]; simp
    clear hl
    go_enter Tryz.func14, Tryz.ntmps14
    go_wp2_with fail
    go_loopw [5] (fun i wr => ∃ (k m : Nat), k ≤ xs.length ∧ i = .int .i64 k ∧ Hid (xs.take k = ys.take k) ∧ wr = w.drewN m) (fun i _ => xs.length - (intOf i).toNat)
    case atStart => exact ⟨0, 0, by omega, rfl, Lib.hid (by simp), rfl⟩
    case round =>
      obtain ⟨k, m, hk, rfl, HE, rfl⟩ := hrel
      by_cases hlt : k < xs.length
      · have hlt2 : k < ys.length := by have := HL.out; omega
        obtain ⟨ad, rfl, hba, a0, a1, a2, a3⟩ := reads_tok HA.out rfl hlt
        obtain ⟨bd, rfl, hbb, b0, b1, b2, b3⟩ := reads_tok HB.out rfl hlt2
        have HST : Hid (xs.take (k + 1) = xs.take k ++ [xs[k]] ∧ ys.take (k + 1) = ys.take k ++ [ys[k]]) := Lib.hid ⟨List.take_succ_eq_append_getElem hlt, List.take_succ_eq_append_getElem hlt2⟩
        have HNE : Hid (¬ xs[k] = ys[k] → r = false) := Lib.hid (fun h => by
          cases hr0 : r with
          | false => rfl
          | true =>
            have e := HR.out.1 hr0
            subst e
            exact absurd rfl h)
        by_cases he : xs[k] = ys[k]
        · have HQ := Lib.hid he
          rw [← he] at b0 b1 b2 b3
          clear he HNE
          generalize hx : xs[k] = x at *
          clear hx
          obtain ⟨tx, p1, f1, l1⟩ := x
          dsimp only at a0 a1 a2 a3 b0 b1 b2 b3
          go_wp2_with fail
          go_quiet (fail)
          go_wp2_with fail
          go_roundw
          case rel => exact ⟨k + 1, _, by omega, by go_num, Lib.hid (by rw [HST.out.1, HST.out.2, HE.out, ← HQ.out]), by first | rfl | (rw [World.drewN_drewN])⟩
          case measure => simp [intOf]; omega
        · have hne := tok_ne he
          have HRF := Lib.hid (HNE.out he)
          clear he HNE HST
          generalize xs[k] = x at *
          generalize ys[k] = y at *
          obtain ⟨t1, p1, f1, l1⟩ := x
          obtain ⟨t2, p2, f2, l2⟩ := y
          dsimp only at a0 a1 a2 a3 b0 b1 b2 b3 hne
          rcases hne with h1 | ⟨rfl, h1⟩ | ⟨rfl, rfl, h1⟩ | ⟨rfl, rfl, rfl, h1⟩
          all_goals
            go_wp2_with fail
            go_quiet (fail)
            go_wp2_with fail
            go_ret
            rw [HRF.out]
            exact ⟨rfl, ⟨rfl, rfl, rfl, Nat.le_refl _, fun _ _ => rfl⟩⟩
      · obtain rfl : k = xs.length := by omega
        have hT : r = true := by
          rw [HR.out]
          have := HE.out
          rw [List.take_of_length_le (Nat.le_refl _), HL.out, List.take_of_length_le (Nat.le_refl _)] at this
          exact this
        have HRT := Lib.hid hT
        clear hT
        go_wp2_with fail
        go_ret
        rw [HRT.out]
        exact ⟨rfl, ⟨rfl, rfl, rfl, Nat.le_refl _, fun _ _ => rfl⟩⟩
  · have hbne : ((xs.length : Int) != (ys.length : Int)) = true := by rw [bne_iff_ne]; omega
    have HRF : Hid (r = false) := Lib.hid (by
      cases hr0 : r with
      | false => rfl
      | true => exact absurd (by rw [HR.out.1 hr0]) hl)
    clear hl
    go_enter Tryz.func14, Tryz.ntmps14
    go_wp2_with fail
    go_ret
    rw [HRF.out]
    exact ⟨rfl, Below.refl _ _⟩

/-! ### Lent, kept -/
theorem infoTok : (Tryz.prog.info? 59).map (fun i => (i.zero, i.size, i.bytes)) = some (some (.agg #[.string ⟨#[]⟩, .int .i64 0, .int .i64 0, .int .i64 0]), 4, 40) := by kernel_rfl
theorem tok_one {u : Value} {ts : List TokD} (h : u ∈ tokCells ts) : u.oneCell' = true := by
  unfold tokCells at h
  rw [List.mem_flatMap] at h
  obtain ⟨t, _, h⟩ := h
  simp only [TokD.cells, List.mem_cons, List.not_mem_nil, or_false] at h
  rcases h with rfl | rfl | rfl | rfl <;> rfl
theorem tokCells_append (a b : List TokD) : tokCells (a ++ b) = tokCells a ++ tokCells b := by simp [tokCells]
theorem tokCells_len (l : List TokD) : (tokCells l).length = l.length * 4 := flat_len cells_len l
theorem cells_new (w : World) (l : List Value) (t : TypeId) (j : Nat) (u : Value) (h : l[j]? = some u) : (w.alloc (.cells l.toArray t)).cell? ((⟨w.heap.size, 0, none⟩ : Addr).add j) = some u := by
  have e : (⟨w.heap.size, 0, none⟩ : Addr).add j = ⟨w.heap.size, j, none⟩ := by unfold Addr.add; split <;> simp_all
  rw [e, World.cell?_alloc_new]; simpa using h
def markT : TokD := ⟨⟨#[]⟩, -71, 0, 0⟩
/-- A row of tokens in memory of the call's own, with the mark behind it. -/
def LentRow (w : World) (B : Nat) (v : Value) (ts : List TokD) : Prop :=
  ∃ g cap, v = .slice (some ⟨g, 0, none⟩) ts.length cap ∧ ts.length < cap ∧ cap ≤ maxLen ∧ B ≤ g ∧ Reads w w.heap.size 4 (some ⟨g, 0, none⟩) (ts.length + 1) (tokCells (ts ++ [markT]))
/-- What was lent reads as it did. -/
theorem LentRow.reads {w : World} {B : Nat} {v : Value} {ts : List TokD} (h : LentRow w B v ts) : ∃ g cap, v = .slice (some ⟨g, 0, none⟩) ts.length cap ∧ ts.length < cap ∧ cap ≤ maxLen ∧ Reads w w.heap.size 4 (some ⟨g, 0, none⟩) ts.length (tokCells ts) ∧ g < w.heap.size ∧ w.cell? ⟨g, ts.length * 4 + 1, none⟩ = some (.int .i64 (-71)) := by
  obtain ⟨g, cap, rfl, h1, h2, h3, h4⟩ := h
  obtain ⟨ad, ha, hb, hc⟩ := h4.2 (by omega)
  obtain rfl := Option.some.inj ha
  refine ⟨g, cap, rfl, h1, h2, ⟨tokCells_len ts, fun hn => ⟨_, rfl, hb, fun j u hu => hc j u ?_⟩⟩, hb, ?_⟩
  · rw [tokCells_append, List.getElem?_append_left (List.getElem?_eq_some_iff.1 hu).1]; exact hu
  · have := hc (ts.length * 4 + 1) (.int .i64 (-71)) (by rw [tokCells_append, List.getElem?_append_right (by rw [tokCells_len]; omega), tokCells_len, Nat.add_sub_cancel_left]; rfl)
    unfold Addr.add at this
    rw [if_neg (by omega)] at this
    simpa using this
theorem LentRow.below {w w' : World} {B : Nat} {v : Value} {ts : List TokD} (h : LentRow w B v ts) (hb : Below w.heap.size w w') : LentRow w' B v ts := by
  obtain ⟨g, cap, rfl, h1, h2, h3, h4⟩ := h
  exact ⟨g, cap, rfl, h1, h2, h3, (h4.below hb).more hb.size⟩

end Go.Proofs.YtfckomjbgopmaaaGreatDoor.Ana
end
