/- Cells that are answered lie in the machine's range. Plain: what the chapter says of its sample schema. Contract: the chapter's sample schema. Entries that are told from cells lie in the machine's range; documents compared. -/
import Derived.Test.YtfckomjbgopmaaaGreatDoorPack15
import Derived.Test.YtfckomjbgopmaaaGreatDoorPack35
import Derived.Test.YtfckomjbgopmaaaGreatDoorPack19
import Derived.Test.YtfckomjbgopmaaaGreatDoorPack13
import Derived.Test.YtfckomjbgopmaaaGreatDoorSchKept
section
set_option linter.unusedVariables false
namespace Go.Proofs.YtfckomjbgopmaaaGreatDoor.Sch
open Go.RowKit Words Tree SchP Kit Owned AnaP

theorem fin_i64 {b : Bool} {ds : List UInt8} {n : Int} (h : OrdP.fin b ds = some n) : I64 n := by
  unfold OrdP.fin at h
  unfold I64
  split at h
  · split at h
    · injection h with h; omega
    · cases h
  · split at h
    · injection h with h; omega
    · cases h
theorem decO_i64 {f : FT} {s : ByteArray} {n : Int} (h : decO f s = some n) : I64 n := by
  unfold decO at h
  split at h
  · cases h
  · unfold OrdP.decF at h
    dsimp only at h
    split at h
    · cases h
    · split at h
      · exact fin_i64 h
      · split at h
        · exact fin_i64 h
        · cases h
theorem valueF_ok {f : FT} {k : Nat} {e : ET} {c : CT × Nat} (hk : k ≤ 9223372036854775807) (he : EOk e) (h : valueF decO runO f k e = some c) : COk c.1 := by
  have hkk : I64 (k : Int) := by unfold I64; omega
  unfold valueF at h
  split at h
  · cases hr : runO f e.text with
    | none => rw [hr] at h; cases h
    | some n => rw [hr] at h; cases h; exact ⟨hkk, he.text, ⟨by simp, fun z hz => by cases hz⟩⟩
  · split at h
    · split at h
      · cases h; exact ⟨hkk, he.text, ⟨by simp, fun z hz => by cases hz⟩⟩
      · cases h
    · split at h
      · cases hr : decO f e.text with
        | none => rw [hr] at h; cases h
        | some n =>
          rw [hr] at h; cases h
          refine ⟨hkk, by show (0 : Nat) ≤ _; omega, ⟨by simp, fun z hz => ?_⟩⟩
          have : z = n := by simpa using hz
          subst this
          exact decO_i64 hr
      · cases h; exact ⟨hkk, by show (0 : Nat) ≤ _; omega, he.nums⟩
theorem cellsF_ok {l : List FT} {d : List ET} {r : List CT} (hl : l.length * 72 ≤ 140737488351232) (he : ∀ e ∈ d, EOk e) (h : cellsF decO runO l d = .ok r) : r.length ≤ 64 ∧ ∀ c ∈ r, COk c := by
  obtain ⟨_, h64, cs, hm, rfl, _⟩ := cellsF_iff.1 h
  have hlen : d.length = cs.length := by have := congrArg List.length hm; simpa using this
  refine ⟨by rw [List.length_map]; omega, fun c hc => ?_⟩
  obtain ⟨p, hp, rfl⟩ := List.mem_map.1 hc
  have : some p ∈ d.map (oneF decO runO l) := by rw [hm]; exact List.mem_map_of_mem hp
  obtain ⟨e, hed, ho⟩ := List.mem_map.1 this
  obtain ⟨k, f, g1, g2, _, g4, _⟩ := oneF_field ho
  have hk : k < l.length := (List.getElem?_eq_some_iff.1 g2).1
  exact valueF_ok (by omega) (he e hed) g4
theorem bulk_entries : ∀ d : List ET, ∀ e ∈ d, e.text.size ≤ T.bulkL (d.flatMap ecells)
  | [], e, h => by cases h
  | x :: d, e, h => by
    have h1 : x.text.size ≤ T.bulkL (ecells x) := by simp only [ecells, T.bulkL, T.bulk]; omega
    rw [List.flatMap_cons, bulkL_append]
    rcases List.mem_cons.1 h with rfl | h
    · omega
    · have := bulk_entries d e h; omega
theorem text_bulk {d : List ET} {n : Nat} (h : T.bulkL [entriesT d] ≤ n) : ∀ e ∈ d, e.text.size ≤ n := fun e he => by
  have := bulk_entries d e he
  simp only [entriesT, rowT, T.bulkL, T.bulk] at h
  omega
end Go.Proofs.YtfckomjbgopmaaaGreatDoor.Sch
end
section
set_option linter.unusedVariables false
namespace Go.Proofs.YtfckomjbgopmaaaGreatDoor.Sch
open Go.RowKit Words Tree SchP Kit Owned AnaP

/-- The chapter's schema. -/
def sampleL : List FT := [⟨⟨#[116]⟩, 1, [1, 10], 0, 0, true, false⟩, ⟨⟨#[107]⟩, 2, [], 0, 0, false, false⟩, ⟨⟨#[110]⟩, 3, [], 0, 0, false, false⟩, ⟨⟨#[100]⟩, 4, [], 2, 0, false, false⟩, ⟨⟨#[112]⟩, 5, [], 0, 2, false, true⟩]
theorem kn_check : checkS sampleL = true := by kernel_rfl
theorem kn_none : checkS [] = false := by kernel_rfl
theorem kn_cells : cellsF decO runO sampleL [⟨⟨#[116]⟩, ⟨#[84, 104, 101, 32, 102, 111, 120]⟩, []⟩, ⟨⟨#[100]⟩, ⟨#[49, 46, 53]⟩, []⟩] = .ok [⟨0, ⟨#[84, 104, 101, 32, 102, 111, 120]⟩, []⟩, ⟨3, ⟨#[]⟩, [150]⟩] := by kernel_rfl
theorem kn_back : backF txtO sampleL [⟨3, ⟨#[]⟩, [150]⟩] = .ok [⟨⟨#[100]⟩, ⟨#[49, 46, 53, 48]⟩, []⟩] := by kernel_rfl
theorem kn_toks : ∃ t0 t1 t2, toksF sampleL 0 [⟨0, ⟨#[97, 32, 98]⟩, []⟩, ⟨0, ⟨#[99]⟩, []⟩] = [t0, t1, t2] ∧ t2.pos = 102 := ⟨⟨⟨#[97]⟩, 0, 0, 1⟩, ⟨⟨#[98]⟩, 1, 2, 3⟩, ⟨⟨#[99]⟩, 102, 0, 1⟩, by kernel_rfl, rfl⟩
theorem kn_81 : cellsF decO runO sampleL [⟨⟨#[120]⟩, ⟨#[]⟩, []⟩] = .error 81 := by kernel_rfl
theorem kn_82 : cellsF decO runO sampleL [⟨⟨#[110]⟩, ⟨#[53]⟩, []⟩] = .error 82 := by kernel_rfl
theorem kn_84 : cellsF decO runO sampleL [⟨⟨#[107]⟩, ⟨#[97]⟩, []⟩, ⟨⟨#[107]⟩, ⟨#[97]⟩, []⟩] = .error 84 := by kernel_rfl
theorem kn_83 : cellsF decO runO sampleL [⟨⟨#[100]⟩, ⟨#[49, 46, 50, 51, 52]⟩, []⟩] = .error 83 := by kernel_rfl
theorem kn_ok : ∀ f ∈ sampleL, FOk f := by
  intro f hf
  simp only [sampleL, List.mem_cons, List.not_mem_nil, or_false] at hf
  rcases hf with rfl | rfl | rfl | rfl | rfl
  all_goals exact ⟨by decide, by unfold I64; decide, ⟨by decide, fun z hz => by (first | (simp at hz; unfold I64; omega) | (simp at hz))⟩, by unfold I64; decide, by unfold I64; decide⟩
end Go.Proofs.YtfckomjbgopmaaaGreatDoor.Sch
end
section
set_option linter.unusedVariables false
namespace Go.Proofs.YtfckomjbgopmaaaGreatDoor.Sch
open Go.RowKit Words Tree SchP Kit Owned AnaP

/-- A row that is written out lies in a block. -/
theorem row_lit {X : Type} {f : X → List T} {s : Nat} (hf : ∀ x, (f x).length = s) {w : World} {S : Nat → Prop} {g : Nat} {et : TypeId} {vs : List Value} {xs : List X} (hb : Blk w g et vs.toArray) (hS : S g) (hm : xs.length ≤ 1048576) (ha : T.AtL bare w S (xs.flatMap f) vs) :
    T.At bare w S (rowT s f xs) (.slice (some ⟨g, 0, none⟩) xs.length xs.length) := by
  simp only [rowT, T.At]
  have hfl : ∀ l : List X, (l.flatMap f).length = l.length * s := by
    intro l
    induction l with
    | nil => simp
    | cons x l ih => rw [List.flatMap_cons, List.length_append, ih, hf, List.length_cons, Nat.succ_mul]; omega
  refine ⟨_, _, vs, rfl, by simp [bare], by unfold maxLen; omega, hfl xs, fun _ => ⟨_, rfl, hS, fun j u hu => ?_⟩, ha⟩
  have hadd : (⟨g, 0, none⟩ : Addr).add j = ⟨g, j, none⟩ := by unfold Addr.add; split <;> simp_all
  rw [hadd, hb.cell j]
  simpa [bare] using hu
theorem nums_lit {w : World} {S : Nat → Prop} {g : Nat} {et : TypeId} {k : IntKind} {l : List Int} (hb : Blk w g et (l.map (Value.int k)).toArray) (hS : S g) (hm : l.length ≤ 1048576) : T.At bare w S (numsT k l) (.slice (some ⟨g, 0, none⟩) l.length l.length) := by
  simp only [numsT, T.At]
  refine ⟨_, _, l.map (Value.int k), rfl, by simp [bare], by unfold maxLen; omega, by simp, fun _ => ⟨_, rfl, hS, fun j u hu => ?_⟩, AtL.of_lits⟩
  have hadd : (⟨g, 0, none⟩ : Addr).add j = ⟨g, j, none⟩ := by unfold Addr.add; split <;> simp_all
  rw [hadd, hb.cell j]
  simpa [bare] using hu
def fvals (f : FT) (v : Value) : List Value := [.string f.name, .int .i64 f.kind, v, .int .i64 f.scale, .int .i64 f.dims, .bool f.many, .bool f.stored]
theorem blk_cells {w : World} {g : Nat} {t : TypeId} {cs : Array Value} (h : Blk w g t cs) : CellsAt w g := ⟨_, _, _, h⟩
set_option maxRecDepth 100000 in
set_option maxHeartbeats 4000000 in
theorem sample_any (w : World) :
    Calls Tryz.prog 54 #[] w (fun e w' => ∃ v, e = .returned (.agg #[v]) ∧ T.At bare w' (fun g => w.heap.size ≤ g ∧ CellsAt w' g) (fieldsT sampleL) v ∧ Below w.heap.size w w') := by
  go_enter Tryz.func54, Tryz.ntmps54
  go_wp2_with fail
  have hb : ∀ (X : World) (n : Nat) (t : TypeId) (cs : Array Value), X.heap.size = n → Blk (X.alloc (.cells cs t)) n t cs := fun X n t cs h => by subst h; exact Blk.new X t cs
  generalize hV : (((w.alloc (Obj.cells #[Value.slice (some { block := w.heap.size + 1 + 1, off := 0 }) 5 5] 24)).alloc _).alloc _) = V
  have B0 : Blk V w.heap.size 24 #[.slice (some ⟨w.heap.size + 1 + 1, 0, none⟩) 5 5] := by rw [← hV]; exact ((Blk.new w _ _).alloc _).alloc _
  have B1 : Blk V (w.heap.size + 1) 3 #[.int .i64 1, .int .i64 10] := by rw [← hV]; exact (hb _ _ _ _ (by simp)).alloc _
  have B2 : Blk V (w.heap.size + 1 + 1) 54 (fvals ⟨⟨#[116]⟩, 1, [1, 10], 0, 0, true, false⟩ (.slice (some ⟨w.heap.size + 1, 0, none⟩) 2 2) ++ (fvals ⟨⟨#[107]⟩, 2, [], 0, 0, false, false⟩ (.slice none 0 0) ++ (fvals ⟨⟨#[110]⟩, 3, [], 0, 0, false, false⟩ (.slice none 0 0) ++ (fvals ⟨⟨#[100]⟩, 4, [], 2, 0, false, false⟩ (.slice none 0 0) ++ (fvals ⟨⟨#[112]⟩, 5, [], 0, 2, false, true⟩ (.slice none 0 0) ++ []))))).toArray := by
    rw [← hV]; exact hb _ _ _ _ (by simp)
  have HB : Below w.heap.size w V := by rw [← hV]; exact (((Below.refl _ _).alloc (Nat.le_refl _) _).alloc (by simp) _).alloc (by simp; omega) _
  have cz : V.cell? ⟨w.heap.size, 0, none⟩ = some (.slice (some ⟨w.heap.size + 1 + 1, 0, none⟩) 5 5) := B0.cell 0
  clear hV
  refine bodyPost_ret (v := .agg #[.slice (some ⟨w.heap.size + 1 + 1, 0, none⟩) 5 5]) (by simp [results, Tryz.results54, go_sem, cz]; try rfl) rfl ?_
  refine ⟨_, rfl, ?_, HB⟩
  have h1 := blk_cells B1; have h2 := blk_cells B2
  refine row_lit (xs := sampleL) fcells_len B2 ⟨by omega, h2⟩ (by decide) ?_
  have hn : ∀ {W : World} {S : Nat → Prop}, T.At bare W S (numsT .i64 []) (.slice none 0 0) := nums_none rfl
  have hq : T.At bare V (fun g => w.heap.size ≤ g ∧ CellsAt V g) (numsT .i64 [1, 10]) (.slice (some ⟨w.heap.size + 1, 0, none⟩) 2 2) := nums_lit (l := [1, 10]) B1 ⟨by omega, h1⟩ (by decide)
  exact AtL.append (fcells_mk (f := ⟨⟨#[116]⟩, 1, [1, 10], 0, 0, true, false⟩) hq) (AtL.append (fcells_mk (f := ⟨⟨#[107]⟩, 2, [], 0, 0, false, false⟩) hn) (AtL.append (fcells_mk (f := ⟨⟨#[110]⟩, 3, [], 0, 0, false, false⟩) hn) (AtL.append (fcells_mk (f := ⟨⟨#[100]⟩, 4, [], 2, 0, false, false⟩) hn) (AtL.append (fcells_mk (f := ⟨⟨#[112]⟩, 5, [], 0, 2, false, true⟩) hn) (by simp [T.AtL])))))
end Go.Proofs.YtfckomjbgopmaaaGreatDoor.Sch
end
section
set_option linter.unusedVariables false
namespace Go.Proofs.YtfckomjbgopmaaaGreatDoor.Sch
open Go.RowKit Words Tree SchP Kit Owned AnaP

theorem str_size (l : List UInt8) : (str l).size = l.length := by simp [str, ByteArray.size]
def okE : Except Int (List ET) → List ET
  | .error _ => []
  | .ok cs => cs
def codeE : Except Int (List ET) → Int
  | .error n => n
  | .ok _ => 0
end Go.Proofs.YtfckomjbgopmaaaGreatDoor.Sch
end
