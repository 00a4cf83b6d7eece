/- Plain laws: where tokens lie, a chain's last link, two texts with a blank between. A field's tokens, in plain Lean: one value's behind the other's, with a gap. Plain: what the chapter says of its sample schema. Contract: the chapter's sample schema. Contracts: rows of tokens compared, lent and kept. -/
import Derived.Test.YtfckomjbgopmaaaGreatDoorPack25
import Derived.Test.YtfckomjbgopmaaaGreatDoorPack9
import Derived.Test.YtfckomjbgopmaaaGreatDoorPack15
import Derived.Test.YtfckomjbgopmaaaGreatDoorProg
import Derived.Test.YtfckomjbgopmaaaGreatDoorPack6
import Derived.Test.YtfckomjbgopmaaaGreatDoorPack2
import Derived.Test.YtfckomjbgopmaaaGreatDoorPack4
import Derived.Deep.QuietTactic
import Derived.BigQuiet
import Derived.LoopTactic
import Derived.Laws.StructEq
section
namespace AnaP
open Go.Lib Go FoldP

/-! ### Where tokens lie -/
theorem tokOf_get (s : ByteArray) (cuts : List (Nat × Nat)) (i : Nat) (h : i < (tokOf s cuts).length) : (tokOf s cuts)[i] = tokAt s i (cuts[i]'(by rw [tokOf_len] at h; exact h)) := by
  simp [tokOf]
theorem linkAll_cases : ∀ (ns : List Int) (t : List TokD), (linkAll ns t).2 = 0 ∨ linkAll ns t = ([], 84)
  | [], t => .inl rfl
  | n :: ns, t => by
    unfold linkAll
    split
    · exact .inr rfl
    · exact linkAll_cases ns _
theorem linkAll_all {p : List TokD → Prop} (hp : ∀ n l ts, p l → linkF n l = some ts → p ts) : ∀ (ns : List Int) (t : List TokD), p t → (linkAll ns t).2 = 0 → p (linkAll ns t).1
  | [], t, h, _ => h
  | n :: ns, t, h, e => by
    unfold linkAll at e ⊢
    split at e
    · cases e
    · rename_i t' he
      exact linkAll_all hp ns _ (hp n t t' h he) e
theorem runF_cases (c : List Int) (s : ByteArray) : (runF c s).2 = 0 ∨ (runF c s).1 = [] := by
  unfold runF
  split
  · exact .inr rfl
  · split
    · exact .inr rfl
    · split
      · exact .inr rfl
      · rcases linkAll_cases c.tail (tokensF (c.getD 0 0) s) with h | h
        · exact .inl h
        · rw [h]; exact .inr rfl
theorem runF_all {p : List TokD → Prop} (hp : ∀ n l ts, p l → linkF n l = some ts → p ts) (c : List Int) (s : ByteArray) (h0 : s.size ≤ 4096 → (tokensF (c.getD 0 0) s).length ≤ 4096 → p (tokensF (c.getD 0 0) s)) (e : (runF c s).2 = 0) : p (runF c s).1 := by
  unfold runF at e ⊢
  split at e
  · cases e
  · split at e
    · cases e
    · split at e
      · cases e
      · rename_i h1 h2 h3
        rw [if_neg h1, if_neg h2, if_neg h3]
        exact linkAll_all hp _ _ (h0 (by omega) (by omega)) e
theorem runF_len (c : List Int) (s : ByteArray) : (runF c s).1.length ≤ 4096 := by
  rcases runF_cases c s with h | h
  · exact runF_all (p := fun l => l.length ≤ 4096) (fun n l ts _ e => linkF_len4 e) c s (fun _ h => h) h
  · rw [h]; simp
theorem runF_text (c : List Int) (s : ByteArray) : ∀ t ∈ (runF c s).1, t.text.size ≤ 4096 := by
  rcases runF_cases c s with h | h
  · exact runF_all (p := fun l => ∀ t ∈ l, t.text.size ≤ 4096) (fun n l ts h e => link_all (p := fun t => t.text.size ≤ 4096) (fun t x h1 h2 => by have := one_size n t.text x h2; exact Nat.le_trans this h1) h e) c s
      (fun h4 _ t ht => by have := tokensF_size _ s t ht; omega) h
  · rw [h]; simp
theorem tokens_text (n : Int) (s : ByteArray) (i : Nat) (h : i < (tokensF n s).length) : ∃ a b : Nat, a ≤ b ∧ b ≤ s.size ∧ (tokensF n s)[i].text = s.extract a b ∧ (tokensF n s)[i].pos = i ∧ (tokensF n s)[i].frm = a ∧ (tokensF n s)[i].til = b := by
  have hc := cutF_ok n (runeL s.data.toList)
  rw [runeL_len] at hc
  unfold tokensF at h ⊢
  have hi' : i < (cutF n (runeL s.data.toList)).length := by rwa [tokOf_len] at h
  have h2 := hc.1 _ (List.getElem_mem hi')
  have h3 := posAt_mono s.data.toList _ _ (Nat.le_of_lt h2.1) h2.2
  have h4 := posAt_le s.data.toList (cutF n (runeL s.data.toList))[i].2
  have e2 : s.data.toList.length = s.size := by simp
  rw [tokOf_get]
  exact ⟨_, _, h3, by omega, rfl, rfl, rfl, rfl⟩

/-! ### A chain's last link -/
/-! ### Two texts with a blank between -/
end AnaP
end
section
namespace SchP
open AnaP

def shiftP (b : Int) (ts : List TokD) : List TokD := ts.map fun t => { t with pos := t.pos + b }
def baseP (out : List TokD) : Int := match out.getLast? with
  | none => 0
  | some t => t.pos + 101
def toksGo (run : ByteArray → List TokD) (field : Int) : List TokD → List CT → List TokD
  | out, [] => out
  | out, c :: cs => toksGo run field (if c.field = field then out ++ shiftP (baseP out) (run c.text) else out) cs
def runTk (f : FT) (s : ByteArray) : List TokD := (runF f.chain s).1
def toksF (l : List FT) (field : Int) (cs : List CT) : List TokD :=
  if checkS l = false ∨ field < 0 ∨ (l.length : Int) ≤ field then [] else match l[field.toNat]? with
    | none => []
    | some f => if f.kind = 1 then toksGo (runTk f) field [] cs else []

theorem runF_pos (c : List Int) (s : ByteArray) : ∀ t ∈ (runF c s).1, 0 ≤ t.pos ∧ t.pos < 4096 := by
  rcases runF_cases c s with h | h
  · refine runF_all (p := fun l => ∀ t ∈ l, 0 ≤ t.pos ∧ t.pos < 4096) (fun n l ts h e => link_all (p := fun t => 0 ≤ t.pos ∧ t.pos < 4096) (fun t x h1 h2 => h1) h e) c s (fun _ hl t ht => ?_) h
    obtain ⟨i, hi, rfl⟩ := List.mem_iff_getElem.1 ht
    have := tokens_text (c.getD 0 0) s i hi
    obtain ⟨a, b, _, _, _, hp, _, _⟩ := this
    rw [hp]; omega
  · rw [h]; simp
theorem shiftP_len (b : Int) (ts : List TokD) : (shiftP b ts).length = ts.length := by simp [shiftP]
theorem shiftP_take {b : Int} {ts : List TokD} {j : Nat} (h : j < ts.length) : (shiftP b ts).take (j + 1) = (shiftP b ts).take j ++ [{ ts[j] with pos := ts[j].pos + b }] := by
  rw [List.take_succ_eq_append_getElem (by rw [shiftP_len]; exact h)]
  simp [shiftP]
theorem toksGo_step {run : ByteArray → List TokD} {field : Int} {out : List TokD} {cs : List CT} {k : Nat} (h : k < cs.length) : toksGo run field out (cs.drop k) = toksGo run field (if cs[k].field = field then out ++ shiftP (baseP out) (run cs[k].text) else out) (cs.drop (k + 1)) := by
  rw [List.drop_eq_getElem_cons h]; rfl
theorem baseP_cons {out : List TokD} (h : out ≠ []) : baseP out = (out.getLast h).pos + 101 := by
  unfold baseP
  rw [List.getLast?_eq_some_getLast h]
theorem baseP_at {out : List TokD} {n : Nat} (h : out.length = n + 1) : baseP out = (out[n]'(by omega)).pos + 101 := by
  have hne : out ≠ [] := by intro e; subst e; simp at h
  rw [baseP_cons hne, List.getLast_eq_getElem]
  congr 3
  omega
/-- What is bounded of a row of tokens that k values have given. -/
structure ToksOk (k : Nat) (out : List TokD) : Prop where
  len : out.length ≤ 4096 * k
  pos : ∀ t ∈ out, 0 ≤ t.pos ∧ t.pos < 4200 * (k : Int)
  text : ∀ t ∈ out, t.text.size ≤ 4096
theorem ToksOk.nil : ToksOk 0 [] := ⟨by simp, by simp, by simp⟩
theorem ToksOk.base {k : Nat} {out : List TokD} (h : ToksOk k out) : 0 ≤ baseP out ∧ baseP out ≤ 4200 * (k : Int) + 100 := by
  unfold baseP
  split
  · omega
  · rename_i t ht
    have := h.pos t (List.mem_of_getLast? ht)
    omega
theorem ToksOk.more {k : Nat} {out : List TokD} (h : ToksOk k out) : ToksOk (k + 1) out := ⟨by have := h.len; omega, fun t ht => by have := h.pos t ht; push_cast; omega, h.text⟩
theorem ToksOk.step {k : Nat} {out : List TokD} (h : ToksOk k out) (c : List Int) (s : ByteArray) : ToksOk (k + 1) (out ++ shiftP (baseP out) (runF c s).1) := by
  have hb : out = [] ∨ baseP out ≤ 4200 * (k : Int) + 100 := .inr h.base.2
  have h0 := h.base.1
  refine ⟨?_, ?_, ?_⟩
  · have := runF_len c s; have := h.len
    rw [List.length_append, shiftP_len]; omega
  · intro t ht
    rcases List.mem_append.1 ht with ht | ht
    · have := h.pos t ht; push_cast; omega
    · unfold shiftP at ht
      obtain ⟨x, hx, rfl⟩ := List.mem_map.1 ht
      have := runF_pos c s x hx
      have := h.base.2
      dsimp only
      push_cast; omega
  · intro t ht
    rcases List.mem_append.1 ht with ht | ht
    · exact h.text t ht
    · unfold shiftP at ht
      obtain ⟨x, hx, rfl⟩ := List.mem_map.1 ht
      exact runF_text c s x hx
theorem toksF_no {l : List FT} {field : Int} (h : checkS l = false ∨ field < 0 ∨ (l.length : Int) ≤ field) (cs : List CT) : toksF l field cs = [] := by unfold toksF; rw [if_pos h]
theorem toksF_in {l : List FT} {i : Nat} {f : FT} (h : checkS l = true) (hf : l[i]? = some f) (cs : List CT) : toksF l i cs = if f.kind = 1 then toksGo (runTk f) i [] cs else [] := by
  have hi := (List.getElem?_eq_some_iff.1 hf).1
  unfold toksF
  rw [if_neg (by rw [h]; simp; omega)]
  simp only [Int.toNat_natCast, hf]
end SchP
end
section
set_option linter.unusedVariables false
namespace Go.Proofs.YtfckomjbgopmaaaGreatDoor.Sch
open Go.RowKit Words Tree SchP Kit Owned AnaP

/-- The chapter's schema. -/
def sampleL : List FT := [⟨⟨#[116]⟩, 1, [1, 10], 0, 0, true, false⟩, ⟨⟨#[107]⟩, 2, [], 0, 0, false, false⟩, ⟨⟨#[110]⟩, 3, [], 0, 0, false, false⟩, ⟨⟨#[100]⟩, 4, [], 2, 0, false, false⟩, ⟨⟨#[112]⟩, 5, [], 0, 2, false, true⟩]
theorem kn_check : checkS sampleL = true := by kernel_rfl
theorem kn_none : checkS [] = false := by kernel_rfl
theorem kn_cells : cellsF decO runO sampleL [⟨⟨#[116]⟩, ⟨#[84, 104, 101, 32, 102, 111, 120]⟩, []⟩, ⟨⟨#[100]⟩, ⟨#[49, 46, 53]⟩, []⟩] = .ok [⟨0, ⟨#[84, 104, 101, 32, 102, 111, 120]⟩, []⟩, ⟨3, ⟨#[]⟩, [150]⟩] := by kernel_rfl
theorem kn_back : backF txtO sampleL [⟨3, ⟨#[]⟩, [150]⟩] = .ok [⟨⟨#[100]⟩, ⟨#[49, 46, 53, 48]⟩, []⟩] := by kernel_rfl
theorem kn_toks : ∃ t0 t1 t2, toksF sampleL 0 [⟨0, ⟨#[97, 32, 98]⟩, []⟩, ⟨0, ⟨#[99]⟩, []⟩] = [t0, t1, t2] ∧ t2.pos = 102 := ⟨⟨⟨#[97]⟩, 0, 0, 1⟩, ⟨⟨#[98]⟩, 1, 2, 3⟩, ⟨⟨#[99]⟩, 102, 0, 1⟩, by kernel_rfl, rfl⟩
theorem kn_81 : cellsF decO runO sampleL [⟨⟨#[120]⟩, ⟨#[]⟩, []⟩] = .error 81 := by kernel_rfl
theorem kn_82 : cellsF decO runO sampleL [⟨⟨#[110]⟩, ⟨#[53]⟩, []⟩] = .error 82 := by kernel_rfl
theorem kn_84 : cellsF decO runO sampleL [⟨⟨#[107]⟩, ⟨#[97]⟩, []⟩, ⟨⟨#[107]⟩, ⟨#[97]⟩, []⟩] = .error 84 := by kernel_rfl
theorem kn_83 : cellsF decO runO sampleL [⟨⟨#[100]⟩, ⟨#[49, 46, 50, 51, 52]⟩, []⟩] = .error 83 := by kernel_rfl
theorem kn_ok : ∀ f ∈ sampleL, FOk f := by
  intro f hf
  simp only [sampleL, List.mem_cons, List.not_mem_nil, or_false] at hf
  rcases hf with rfl | rfl | rfl | rfl | rfl
  all_goals exact ⟨by decide, by unfold I64; decide, ⟨by decide, fun z hz => by (first | (simp at hz; unfold I64; omega) | (simp at hz))⟩, by unfold I64; decide, by unfold I64; decide⟩
end Go.Proofs.YtfckomjbgopmaaaGreatDoor.Sch
end
section
set_option linter.unusedVariables false
namespace Go.Proofs.YtfckomjbgopmaaaGreatDoor.Sch
open Go.RowKit Words Tree SchP Kit Owned AnaP

/-- A row that is written out lies in a block. -/
theorem row_lit {X : Type} {f : X → List T} {s : Nat} (hf : ∀ x, (f x).length = s) {w : World} {S : Nat → Prop} {g : Nat} {et : TypeId} {vs : List Value} {xs : List X} (hb : Blk w g et vs.toArray) (hS : S g) (hm : xs.length ≤ 1048576) (ha : T.AtL bare w S (xs.flatMap f) vs) :
    T.At bare w S (rowT s f xs) (.slice (some ⟨g, 0, none⟩) xs.length xs.length) := by
  simp only [rowT, T.At]
  have hfl : ∀ l : List X, (l.flatMap f).length = l.length * s := by
    intro l
    induction l with
    | nil => simp
    | cons x l ih => rw [List.flatMap_cons, List.length_append, ih, hf, List.length_cons, Nat.succ_mul]; omega
  refine ⟨_, _, vs, rfl, by simp [bare], by unfold maxLen; omega, hfl xs, fun _ => ⟨_, rfl, hS, fun j u hu => ?_⟩, ha⟩
  have hadd : (⟨g, 0, none⟩ : Addr).add j = ⟨g, j, none⟩ := by unfold Addr.add; split <;> simp_all
  rw [hadd, hb.cell j]
  simpa [bare] using hu
theorem nums_lit {w : World} {S : Nat → Prop} {g : Nat} {et : TypeId} {k : IntKind} {l : List Int} (hb : Blk w g et (l.map (Value.int k)).toArray) (hS : S g) (hm : l.length ≤ 1048576) : T.At bare w S (numsT k l) (.slice (some ⟨g, 0, none⟩) l.length l.length) := by
  simp only [numsT, T.At]
  refine ⟨_, _, l.map (Value.int k), rfl, by simp [bare], by unfold maxLen; omega, by simp, fun _ => ⟨_, rfl, hS, fun j u hu => ?_⟩, AtL.of_lits⟩
  have hadd : (⟨g, 0, none⟩ : Addr).add j = ⟨g, j, none⟩ := by unfold Addr.add; split <;> simp_all
  rw [hadd, hb.cell j]
  simpa [bare] using hu
def fvals (f : FT) (v : Value) : List Value := [.string f.name, .int .i64 f.kind, v, .int .i64 f.scale, .int .i64 f.dims, .bool f.many, .bool f.stored]
theorem blk_cells {w : World} {g : Nat} {t : TypeId} {cs : Array Value} (h : Blk w g t cs) : CellsAt w g := ⟨_, _, _, h⟩
set_option maxRecDepth 100000 in
set_option maxHeartbeats 4000000 in
theorem sample_any (w : World) :
    Calls Tryz.prog 54 #[] w (fun e w' => ∃ v, e = .returned (.agg #[v]) ∧ T.At bare w' (fun g => w.heap.size ≤ g ∧ CellsAt w' g) (fieldsT sampleL) v ∧ Below w.heap.size w w') := by
  go_enter Tryz.func54, Tryz.ntmps54
  go_wp2_with fail
  have hb : ∀ (X : World) (n : Nat) (t : TypeId) (cs : Array Value), X.heap.size = n → Blk (X.alloc (.cells cs t)) n t cs := fun X n t cs h => by subst h; exact Blk.new X t cs
  generalize hV : (((w.alloc (Obj.cells #[Value.slice (some { block := w.heap.size + 1 + 1, off := 0 }) 5 5] 24)).alloc _).alloc _) = V
  have B0 : Blk V w.heap.size 24 #[.slice (some ⟨w.heap.size + 1 + 1, 0, none⟩) 5 5] := by rw [← hV]; exact ((Blk.new w _ _).alloc _).alloc _
  have B1 : Blk V (w.heap.size + 1) 3 #[.int .i64 1, .int .i64 10] := by rw [← hV]; exact (hb _ _ _ _ (by simp)).alloc _
  have B2 : Blk V (w.heap.size + 1 + 1) 54 (fvals ⟨⟨#[116]⟩, 1, [1, 10], 0, 0, true, false⟩ (.slice (some ⟨w.heap.size + 1, 0, none⟩) 2 2) ++ (fvals ⟨⟨#[107]⟩, 2, [], 0, 0, false, false⟩ (.slice none 0 0) ++ (fvals ⟨⟨#[110]⟩, 3, [], 0, 0, false, false⟩ (.slice none 0 0) ++ (fvals ⟨⟨#[100]⟩, 4, [], 2, 0, false, false⟩ (.slice none 0 0) ++ (fvals ⟨⟨#[112]⟩, 5, [], 0, 2, false, true⟩ (.slice none 0 0) ++ []))))).toArray := by
    rw [← hV]; exact hb _ _ _ _ (by simp)
  have HB : Below w.heap.size w V := by rw [← hV]; exact (((Below.refl _ _).alloc (Nat.le_refl _) _).alloc (by simp) _).alloc (by simp; omega) _
  have cz : V.cell? ⟨w.heap.size, 0, none⟩ = some (.slice (some ⟨w.heap.size + 1 + 1, 0, none⟩) 5 5) := B0.cell 0
  clear hV
  refine bodyPost_ret (v := .agg #[.slice (some ⟨w.heap.size + 1 + 1, 0, none⟩) 5 5]) (by simp [results, Tryz.results54, go_sem, cz]; try rfl) rfl ?_
  refine ⟨_, rfl, ?_, HB⟩
  have h1 := blk_cells B1; have h2 := blk_cells B2
  refine row_lit (xs := sampleL) fcells_len B2 ⟨by omega, h2⟩ (by decide) ?_
  have hn : ∀ {W : World} {S : Nat → Prop}, T.At bare W S (numsT .i64 []) (.slice none 0 0) := nums_none rfl
  have hq : T.At bare V (fun g => w.heap.size ≤ g ∧ CellsAt V g) (numsT .i64 [1, 10]) (.slice (some ⟨w.heap.size + 1, 0, none⟩) 2 2) := nums_lit (l := [1, 10]) B1 ⟨by omega, h1⟩ (by decide)
  exact AtL.append (fcells_mk (f := ⟨⟨#[116]⟩, 1, [1, 10], 0, 0, true, false⟩) hq) (AtL.append (fcells_mk (f := ⟨⟨#[107]⟩, 2, [], 0, 0, false, false⟩) hn) (AtL.append (fcells_mk (f := ⟨⟨#[110]⟩, 3, [], 0, 0, false, false⟩) hn) (AtL.append (fcells_mk (f := ⟨⟨#[100]⟩, 4, [], 2, 0, false, false⟩) hn) (AtL.append (fcells_mk (f := ⟨⟨#[112]⟩, 5, [], 0, 2, false, true⟩) hn) (by simp [T.AtL])))))
end Go.Proofs.YtfckomjbgopmaaaGreatDoor.Sch
end
section
set_option linter.unusedVariables false
namespace Go.Proofs.YtfckomjbgopmaaaGreatDoor.Ana
open Go.RowKit Go.Lib AnaP Words Tree Kit Owned

def BoolB (b : Bool) (w : World) (e : Ending) (w' : World) : Prop := e = .returned (.bool b) ∧ Below w.heap.size w w'
/-- Element k of a row of tokens. -/
theorem reads_tok {w : World} {B n : Nat} {ao : Option Addr} {ts : List TokD} (h : Reads w B 4 ao n (tokCells ts)) (hn : n = ts.length) {k : Nat} (hk : k < ts.length) :
    ∃ ad, ao = some ad ∧ ad.block < B ∧ w.cell? (ad.add (k * 4)) = some (.string ts[k].text) ∧ w.cell? ⟨(ad.add (k * 4)).block, (ad.add (k * 4)).off + 1, none⟩ = some (.int .i64 ts[k].pos) ∧ w.cell? ⟨(ad.add (k * 4)).block, (ad.add (k * 4)).off + 2, none⟩ = some (.int .i64 ts[k].frm) ∧ w.cell? ⟨(ad.add (k * 4)).block, (ad.add (k * 4)).off + 3, none⟩ = some (.int .i64 ts[k].til) := by
  obtain ⟨ad, ha, hb, hc⟩ := reads_elem cells_len h hn hk
  exact ⟨ad, ha, hb, hc.zero, hc.at_ 1 _ rfl (by omega), hc.at_ 2 _ rfl (by omega), hc.at_ 3 _ rfl (by omega)⟩

/-! ### Lent, kept -/
theorem infoTok : (Tryz.prog.info? 59).map (fun i => (i.zero, i.size, i.bytes)) = some (some (.agg #[.string ⟨#[]⟩, .int .i64 0, .int .i64 0, .int .i64 0]), 4, 40) := by kernel_rfl
theorem tok_one {u : Value} {ts : List TokD} (h : u ∈ tokCells ts) : u.oneCell' = true := by
  unfold tokCells at h
  rw [List.mem_flatMap] at h
  obtain ⟨t, _, h⟩ := h
  simp only [TokD.cells, List.mem_cons, List.not_mem_nil, or_false] at h
  rcases h with rfl | rfl | rfl | rfl <;> rfl
theorem tokCells_append (a b : List TokD) : tokCells (a ++ b) = tokCells a ++ tokCells b := by simp [tokCells]
theorem tokCells_len (l : List TokD) : (tokCells l).length = l.length * 4 := flat_len cells_len l
theorem cells_new (w : World) (l : List Value) (t : TypeId) (j : Nat) (u : Value) (h : l[j]? = some u) : (w.alloc (.cells l.toArray t)).cell? ((⟨w.heap.size, 0, none⟩ : Addr).add j) = some u := by
  have e : (⟨w.heap.size, 0, none⟩ : Addr).add j = ⟨w.heap.size, j, none⟩ := by unfold Addr.add; split <;> simp_all
  rw [e, World.cell?_alloc_new]; simpa using h
def markT : TokD := ⟨⟨#[]⟩, -71, 0, 0⟩
/-- A row of tokens in memory of the call's own, with the mark behind it. -/
def LentRow (w : World) (B : Nat) (v : Value) (ts : List TokD) : Prop :=
  ∃ g cap, v = .slice (some ⟨g, 0, none⟩) ts.length cap ∧ ts.length < cap ∧ cap ≤ maxLen ∧ B ≤ g ∧ Reads w w.heap.size 4 (some ⟨g, 0, none⟩) (ts.length + 1) (tokCells (ts ++ [markT]))
/-- What was lent reads as it did. -/
theorem LentRow.reads {w : World} {B : Nat} {v : Value} {ts : List TokD} (h : LentRow w B v ts) : ∃ g cap, v = .slice (some ⟨g, 0, none⟩) ts.length cap ∧ ts.length < cap ∧ cap ≤ maxLen ∧ Reads w w.heap.size 4 (some ⟨g, 0, none⟩) ts.length (tokCells ts) ∧ g < w.heap.size ∧ w.cell? ⟨g, ts.length * 4 + 1, none⟩ = some (.int .i64 (-71)) := by
  obtain ⟨g, cap, rfl, h1, h2, h3, h4⟩ := h
  obtain ⟨ad, ha, hb, hc⟩ := h4.2 (by omega)
  obtain rfl := Option.some.inj ha
  refine ⟨g, cap, rfl, h1, h2, ⟨tokCells_len ts, fun hn => ⟨_, rfl, hb, fun j u hu => hc j u ?_⟩⟩, hb, ?_⟩
  · rw [tokCells_append, List.getElem?_append_left (List.getElem?_eq_some_iff.1 hu).1]; exact hu
  · have := hc (ts.length * 4 + 1) (.int .i64 (-71)) (by rw [tokCells_append, List.getElem?_append_right (by rw [tokCells_len]; omega), tokCells_len, Nat.add_sub_cancel_left]; rfl)
    unfold Addr.add at this
    rw [if_neg (by omega)] at this
    simpa using this
theorem LentRow.below {w w' : World} {B : Nat} {v : Value} {ts : List TokD} (h : LentRow w B v ts) (hb : Below w.heap.size w w') : LentRow w' B v ts := by
  obtain ⟨g, cap, rfl, h1, h2, h3, h4⟩ := h
  exact ⟨g, cap, rfl, h1, h2, h3, (h4.below hb).more hb.size⟩

end Go.Proofs.YtfckomjbgopmaaaGreatDoor.Ana
end
