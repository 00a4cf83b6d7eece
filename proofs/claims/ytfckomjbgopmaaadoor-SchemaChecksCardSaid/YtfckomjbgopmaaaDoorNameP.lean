/- Which texts may be names of fields, in plain Lean. -/
import Derived.Test.YtfckomjbgopmaaaDoorKit
namespace SchP

/-- A byte that may stand at a place of a name. -/
def byteB (i : Nat) (c : UInt8) : Bool := decide (97 ≤ c.toNat ∧ c.toNat ≤ 122) || decide (c.toNat = 95) || (decide (0 < i) && decide (48 ≤ c.toNat ∧ c.toNat ≤ 57))
def bytesB : Nat → List UInt8 → Bool
  | _, [] => true
  | i, c :: l => byteB i c && bytesB (i + 1) l
def nameB (s : ByteArray) : Bool := bytesB 0 s.data.toList && decide (1 ≤ s.size) && decide (s.size ≤ 24)
theorem bytesB_step {l : List UInt8} {k : Nat} (h : k < l.length) : bytesB k (l.drop k) = (byteB k l[k] && bytesB (k + 1) (l.drop (k + 1))) := by
  rw [List.drop_eq_getElem_cons h, bytesB]
end SchP
