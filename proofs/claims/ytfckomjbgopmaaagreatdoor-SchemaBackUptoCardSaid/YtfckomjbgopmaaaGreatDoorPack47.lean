/- Entries that are told from cells lie in the machine's range; documents compared. A row of tokens that grows while another one is read. -/
import Derived.Test.YtfckomjbgopmaaaGreatDoorPack25
import Derived.Test.YtfckomjbgopmaaaGreatDoorPack12
import Derived.Test.YtfckomjbgopmaaaGreatDoorPack26
import Derived.Test.YtfckomjbgopmaaaGreatDoorPack20
import Derived.Test.YtfckomjbgopmaaaGreatDoorPack18
import Derived.Test.YtfckomjbgopmaaaGreatDoorAnaLink
section
set_option linter.unusedVariables false
namespace Go.Proofs.YtfckomjbgopmaaaGreatDoor.Sch
open Go.RowKit Words Tree SchP Kit Owned AnaP

theorem str_size (l : List UInt8) : (str l).size = l.length := by simp [str, ByteArray.size]
theorem txtO_size (f : FT) (n : Int) (h : I64 n) : (txtO f n).size ≤ 64 := by
  unfold txtO
  rw [str_size]
  unfold OrdLib.txtS
  split
  · simp
  · rename_i hs
    have := OrdP.text_length n f.scale.toNat
    have hw := OrdP.wide_small n.natAbs f.scale.toNat (by unfold I64 at h; omega) (by omega)
    rw [this]
    split <;> split <;> omega
theorem backE_ok {l : List FT} {c : CT} {e : ET} (hl : ∀ f ∈ l, FOk f) (hc : COk c) (h : backE txtO l c = .ok e) : EOk e := by
  unfold backE at h
  split at h
  · cases h
  · split at h
    · cases h
    · rename_i f hf
      have hn := (hl f (List.mem_of_getElem? hf)).name
      split at h
      · cases h
      · rename_i hq
        split at h
        · rename_i h4
          injection h with h
          subst h
          refine ⟨hn, ?_, ⟨by simp, fun z hz => by cases hz⟩⟩
          have hw : wantC f = 1 := by unfold wantC; rw [if_pos (.inr h4)]
          rw [hw] at hq
          have hlen : c.nums.length = 1 := by
            have : (c.nums.length : Int) = 1 := Decidable.byContradiction fun e => hq (.inl e)
            exact_mod_cast this
          obtain ⟨n, hn1⟩ := List.length_eq_one_iff.1 hlen
          have hi := hc.nums.2 n (by rw [hn1]; simp)
          rw [hn1]
          have := txtO_size f n hi
          show (txtO f n).size ≤ _
          omega
        · injection h with h
          subst h
          exact ⟨hn, hc.text, hc.nums⟩
theorem backGo_ok {l : List FT} (hl : ∀ f ∈ l, FOk f) : ∀ {cs : List CT} {es : List ET}, (∀ c ∈ cs, COk c) → backGo txtO l cs = .ok es → es.length = cs.length ∧ ∀ e ∈ es, EOk e
  | [], es, _, h => by
    simp only [backGo] at h
    injection h with h
    subst h
    exact ⟨rfl, fun e he => by cases he⟩
  | c :: cs, es, hc, h => by
    simp only [backGo] at h
    split at h
    · cases h
    · rename_i e he
      split at h
      · cases h
      · rename_i d hd
        injection h with h
        subst h
        obtain ⟨h1, h2⟩ := backGo_ok hl (fun c hh => hc c (List.mem_cons_of_mem _ hh)) hd
        refine ⟨by simp [h1], fun x hx => ?_⟩
        rcases List.mem_cons.1 hx with rfl | hx
        · exact backE_ok hl (hc c (by simp)) he
        · exact h2 x hx
theorem backF_ok {l : List FT} (hl : ∀ f ∈ l, FOk f) {cs : List CT} {es : List ET} (hc : ∀ c ∈ cs, COk c) (h : backF txtO l cs = .ok es) : es.length = cs.length ∧ ∀ e ∈ es, EOk e := by
  unfold backF at h
  split at h
  · cases h
  · exact backGo_ok hl hc h

end Go.Proofs.YtfckomjbgopmaaaGreatDoor.Sch
end
section
set_option linter.unusedVariables false
namespace Go.Proofs.YtfckomjbgopmaaaGreatDoor.Sch
open Go.RowKit Words Tree SchP Kit Owned AnaP

theorem neqz (a b : Int) : (a = b ∧ (a != b) = false) ∨ (a ≠ b ∧ (a != b) = true) := by
  by_cases h : a = b
  · exact .inl ⟨h, by simpa using h⟩
  · exact .inr ⟨h, by simpa using h⟩
theorem own_sl {w : World} {B n m : Nat} {e : TypeId} {v : Value} {xs : List Value} (h : w.ownsRow B e m v n xs) : ∃ a c, v = .slice a n c := by
  rcases h.2 with ⟨rfl, rfl⟩ | ⟨g, cap, cur, rfl, _⟩
  · exact ⟨none, 0, rfl⟩
  · exact ⟨_, _, rfl⟩
theorem own_from {w : World} {B B' n m : Nat} {e : TypeId} {v : Value} {xs : List Value} (h : w.ownsRow B e m v n xs) (hB : B' ≤ B) : w.ownsRow B' e m v n xs := by
  refine ⟨h.1, h.2.elim .inl fun ⟨g, cap, cur, hv, h1, h2, h3⟩ => .inr ⟨g, cap, cur, hv, Nat.le_trans hB h1, h2, h3⟩⟩
/-- What Tokens answers. -/
def OwnT (ts : List TokD) (w : World) (e : Ending) (w' : World) : Prop := ∃ ao c, e = .returned (.slice ao ts.length c) ∧ w'.ownsRow w.heap.size 59 4 (.slice ao ts.length c) ts.length (tokCells ts) ∧ Below w.heap.size w w'
theorem ownT_none {w w' : World} (hb : Below w.heap.size w w') : OwnT [] w (.returned (.slice none 0 0)) w' := ⟨none, 0, rfl, World.ownsRow_nil _ _ _ _, hb⟩
/-- What holds when k cells have been gone over. -/
def ToksSt (W1 : World) (f : FT) (i : Nat) (cs : List CT) (R : List TokD) (k : Nat) (o : Value) (wr : World) : Prop :=
  ∃ out, toksGo (runTk f) i out (cs.drop k) = R ∧ ToksOk k out ∧ wr.ownsRow W1.heap.size 59 4 o out.length (tokCells out) ∧ Below W1.heap.size W1 wr
/-- What holds when j of a value's tokens have been added. -/
structure AddSt (B m5 : Nat) (W6 : World) (out ts : List TokD) (b : Int) (j : Nat) (o : Value) (wr : World) : Prop where
  own : wr.ownsRow B 59 4 o (out.length + j) (tokCells (out ++ (shiftP b ts).take j))
  far : ∀ g, o.ownBlock = some g → g < m5 ∨ W6.heap.size ≤ g
  but : But (fun g => B ≤ g ∧ (g < m5 ∨ W6.heap.size ≤ g)) W6 wr
theorem tok4 {w : World} {g : Nat} {t : TypeId} {v0 v1 v2 v3 : Value} (h : Blk w g t #[v0, v1, v2, v3]) :
    w.cell? ⟨g, 0, none⟩ = some v0 ∧ w.cell? ⟨g, 1, none⟩ = some v1 ∧ w.cell? ⟨g, 2, none⟩ = some v2 ∧ w.cell? ⟨g, 3, none⟩ = some v3 :=
  ⟨h.cell 0, h.cell 1, h.cell 2, h.cell 3⟩
end Go.Proofs.YtfckomjbgopmaaaGreatDoor.Sch
end
