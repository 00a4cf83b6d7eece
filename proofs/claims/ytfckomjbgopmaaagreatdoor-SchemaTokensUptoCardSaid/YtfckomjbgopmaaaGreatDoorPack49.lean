/- Entries that are told from cells lie in the machine's range; documents compared. A row of tokens that grows while another one is read. -/
import Derived.Test.YtfckomjbgopmaaaGreatDoorPack24
import Derived.Test.YtfckomjbgopmaaaGreatDoorPack12
import Derived.Test.YtfckomjbgopmaaaGreatDoorPack25
import Derived.Test.YtfckomjbgopmaaaGreatDoorPack19
import Derived.Test.YtfckomjbgopmaaaGreatDoorPack16
import Derived.Test.YtfckomjbgopmaaaGreatDoorAnaLink
section
set_option linter.unusedVariables false
namespace Go.Proofs.YtfckomjbgopmaaaGreatDoor.Sch
open Go.RowKit Words Tree SchP Kit Owned AnaP

theorem str_size (l : List UInt8) : (str l).size = l.length := by simp [str, ByteArray.size]
end Go.Proofs.YtfckomjbgopmaaaGreatDoor.Sch
end
section
set_option linter.unusedVariables false
namespace Go.Proofs.YtfckomjbgopmaaaGreatDoor.Sch
open Go.RowKit Words Tree SchP Kit Owned AnaP

theorem neqz (a b : Int) : (a = b ∧ (a != b) = false) ∨ (a ≠ b ∧ (a != b) = true) := by
  by_cases h : a = b
  · exact .inl ⟨h, by simpa using h⟩
  · exact .inr ⟨h, by simpa using h⟩
theorem own_sl {w : World} {B n m : Nat} {e : TypeId} {v : Value} {xs : List Value} (h : w.ownsRow B e m v n xs) : ∃ a c, v = .slice a n c := by
  rcases h.2 with ⟨rfl, rfl⟩ | ⟨g, cap, cur, rfl, _⟩
  · exact ⟨none, 0, rfl⟩
  · exact ⟨_, _, rfl⟩
theorem own_from {w : World} {B B' n m : Nat} {e : TypeId} {v : Value} {xs : List Value} (h : w.ownsRow B e m v n xs) (hB : B' ≤ B) : w.ownsRow B' e m v n xs := by
  refine ⟨h.1, h.2.elim .inl fun ⟨g, cap, cur, hv, h1, h2, h3⟩ => .inr ⟨g, cap, cur, hv, Nat.le_trans hB h1, h2, h3⟩⟩
/-- What Tokens answers. -/
def OwnT (ts : List TokD) (w : World) (e : Ending) (w' : World) : Prop := ∃ ao c, e = .returned (.slice ao ts.length c) ∧ w'.ownsRow w.heap.size 59 4 (.slice ao ts.length c) ts.length (tokCells ts) ∧ Below w.heap.size w w'
theorem ownT_none {w w' : World} (hb : Below w.heap.size w w') : OwnT [] w (.returned (.slice none 0 0)) w' := ⟨none, 0, rfl, World.ownsRow_nil _ _ _ _, hb⟩
/-- What holds when k cells have been gone over. -/
def ToksSt (W1 : World) (f : FT) (i : Nat) (cs : List CT) (R : List TokD) (k : Nat) (o : Value) (wr : World) : Prop :=
  ∃ out, toksGo (runTk f) i out (cs.drop k) = R ∧ ToksOk k out ∧ wr.ownsRow W1.heap.size 59 4 o out.length (tokCells out) ∧ Below W1.heap.size W1 wr
/-- What holds when j of a value's tokens have been added. -/
structure AddSt (B m5 : Nat) (W6 : World) (out ts : List TokD) (b : Int) (j : Nat) (o : Value) (wr : World) : Prop where
  own : wr.ownsRow B 59 4 o (out.length + j) (tokCells (out ++ (shiftP b ts).take j))
  far : ∀ g, o.ownBlock = some g → g < m5 ∨ W6.heap.size ≤ g
  but : But (fun g => B ≤ g ∧ (g < m5 ∨ W6.heap.size ≤ g)) W6 wr
theorem tok4 {w : World} {g : Nat} {t : TypeId} {v0 v1 v2 v3 : Value} (h : Blk w g t #[v0, v1, v2, v3]) :
    w.cell? ⟨g, 0, none⟩ = some v0 ∧ w.cell? ⟨g, 1, none⟩ = some v1 ∧ w.cell? ⟨g, 2, none⟩ = some v2 ∧ w.cell? ⟨g, 3, none⟩ = some v3 :=
  ⟨h.cell 0, h.cell 1, h.cell 2, h.cell 3⟩
end Go.Proofs.YtfckomjbgopmaaaGreatDoor.Sch
end
