/- Queries as plain Lean data. -/
import Derived.Test.YtinmiekbhoemjaaDoorPack2
namespace QryP
open Go
/-- A query. -/
inductive QT where
  | mk (kind occur : Int) (field text upto : ByteArray) (low high : List Int) (boost op : Int) (kids : List QT)
/-- How great a query is: more than its parts. -/
noncomputable def QT.sz (q : QT) : Nat := SizeOf.sizeOf q
theorem QT.sz_pos (q : QT) : 0 < q.sz := by cases q; simp only [QT.sz, QT.mk.sizeOf_spec]; omega
theorem QT.sz_kid {kd oc : Int} {f t u : ByteArray} {lo hi : List Int} {b op : Int} {ks : List QT} {k : QT} (h : k ∈ ks) : k.sz < (QT.mk kd oc f t u lo hi b op ks).sz := by
  have := List.sizeOf_lt_of_mem h
  simp only [QT.sz, QT.mk.sizeOf_spec]
  omega
end QryP
