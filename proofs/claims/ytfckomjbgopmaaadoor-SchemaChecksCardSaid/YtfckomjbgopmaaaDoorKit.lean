/- Small general lemmas of ours over any program: rows of bytes that a call owns, and what reads them. -/
import Derived.WalkKit
import Derived.WalkLawsBesides
import Derived.WalkSpells
import Derived.Lib.Hide
import Derived.Lib.UnsafeStr
import Derived.Lib.RuneBytes
import Derived.Lib.Small
import Derived.Deep.Light
namespace Go.Proofs.YtfckomjbgopmaaaDoor.Kit
open Go.RowKit Go.Lib

theorem ret_int {k : IntKind} {a b : Int} (h : a = b) : Ending.returned (.int k a) = .returned (.int k b) := by rw [h]
theorem ret_bool {a b : Bool} (h : a = b) : Ending.returned (.bool a) = .returned (.bool b) := by rw [h]
theorem wrap32_small {n : Int} (h1 : -2147483648 ≤ n) (h2 : n ≤ 2147483647) : wrap32 n = n := by unfold wrap32; omega

/-- A text out of a list of bytes. -/
def str (l : List UInt8) : ByteArray := ⟨l.toArray⟩

/-- The cell j of an owned row of bytes. -/
theorem own_byte {w : World} {B : Nat} {e : TypeId} {v : Value} {l : List UInt8} (h : w.ownsRow B e 1 v l.length (byteCells l)) {g : Nat} (hg : v.ownBlock = some g) (j : Nat) (hj : j < l.length) :
    w.cell? ⟨g, j, none⟩ = some (.int .u8 (l[j].toNat : Int)) := by
  have := h.cells hg j (.int .u8 (l[j].toNat : Int)) (by simp [byteCells, List.getElem?_eq_getElem hj])
  have hadd : (⟨g, 0, none⟩ : Addr).add j = ⟨g, j, none⟩ := by unfold Addr.add; split <;> simp_all
  rwa [hadd] at this

/-- 'string(b)' of an owned row of bytes. -/
theorem run_convert_own {P : Program} (w : World) (src dst e : TypeId) (hs : P.underlying src = some (.slice e)) (he : P.underlying e = some (.int .u8)) (hd : P.underlying dst = some .string)
    {B : Nat} {v : Value} {n : Nat} {l : List UInt8} (hn : n = l.length) (h : w.ownsRow B e 1 v n (byteCells l)) :
    (convert src dst v).run P w = .ok (.string (str l)) w := by
  subst hn
  rcases h.2 with ⟨rfl, h0⟩ | ⟨g, cap, cur, rfl, _⟩
  · have : l = [] := List.eq_nil_of_length_eq_zero h0
    subst this
    rw [run_convert_bytes_string w src dst e _ _ _ hs he hd]
    rfl
  · exact run_convert_bytes_back w src dst e ⟨g, 0, none⟩ cap l hs he hd (fun j hj => by
      have hadd : (⟨g, 0, none⟩ : Addr).add j = ⟨g, j, none⟩ := by unfold Addr.add; split <;> simp_all
      rw [hadd]; exact own_byte h rfl j hj)

/-- A row of bytes that has just been laid. -/
theorem own_new (w : World) (B : Nat) (e : TypeId) (l : List UInt8) (hB : B ≤ w.heap.size) (hl : l.length ≤ maxLen) :
    (w.alloc (.cells (byteCells l).toArray e)).ownsRow B e 1 (.slice (some ⟨w.heap.size, 0, none⟩) l.length l.length) l.length (byteCells l) :=
  ⟨by simp [byteCells_length], .inr ⟨w.heap.size, l.length, (byteCells l).toArray, rfl, hB, heap_alloc_new w _, Nat.le_refl _, hl, by simp [byteCells_length], by rw [Nat.mul_one, ← byteCells_length l]; exact List.take_length⟩⟩

theorem runeCells_bytes (r : Int) : runeCells r = byteCells (encodeRune r) := (byteCells_encodeRune r).symm

end Go.Proofs.YtfckomjbgopmaaaDoor.Kit
