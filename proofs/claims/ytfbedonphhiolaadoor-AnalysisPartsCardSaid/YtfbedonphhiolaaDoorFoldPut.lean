/- Contracts: 'Put' of the program and of the document's answer. -/
import Derived.Test.YtfbedonphhiolaaDoorFoldForms
namespace Go.Proofs.YtfbedonphhiolaaDoor.FoldPut
open Go.RowKit Go.Lib FoldP FoldInts Kit FoldForms

def putS (r : Int) : List UInt8 := if Lib.validRune r then encodeRune r else []
def putE (r : Int) : Int := if Lib.validRune r then 0 else 50
def PutRet (r : Int) (w : World) (e : Ending) (w' : World) : Prop := e = .returned (.tuple #[.string (str (putS r)), .int .i64 (putE r)]) ∧ Below w.heap.size w w'

theorem putS_yes {r : Int} (h : Lib.validRune r = true) : putS r = encodeRune r := by simp [putS, h]
theorem putE_yes {r : Int} (h : Lib.validRune r = true) : putE r = 0 := by simp [putE, h]
theorem putS_no {r : Int} (h : Lib.validRune r = false) : putS r = [] := by simp [putS, h]
theorem putE_no {r : Int} (h : Lib.validRune r = false) : putE r = 50 := by simp [putE, h]

theorem put_mk_yes {r : Int} {w w' : World} (h : Lib.validRune r = true) (hb : Below w.heap.size w w') : PutRet r w (.returned (.tuple #[.string (str (encodeRune r)), .int .i64 0])) w' :=
  ⟨by rw [putS_yes h, putE_yes h], hb⟩
theorem put_mk_no {r : Int} {w w' : World} (h : Lib.validRune r = false) (hb : Below w.heap.size w w') : PutRet r w (.returned (.tuple #[.string (str []), .int .i64 50])) w' :=
  ⟨by rw [putS_no h, putE_no h], hb⟩

/-- 'AppendRune(nil, r)'. -/
theorem appendNil_any (r : Int) (hr0 : -2147483648 ≤ r) (hr1 : r ≤ 2147483647) (w : World) :
    Calls Tryd.prog 76 #[.slice none 0 0, .int .i32 r] w (RowNew (encodeRune r) w) := by
  refine (Tryd.utf8_AppendRune_plain w.heap.size (.slice none 0 0) 0 [] r hr0 hr1 w (World.ownsRow_nil _ _ _ _) (by omega) (Nat.le_refl _)).mono ?_
  rintro e w' ⟨v', rfl, hown, o, hg⟩
  refine ⟨v', rfl, ?_, ?_⟩
  · rw [Nat.zero_add, List.nil_append, runeCells_bytes, byteCells_length] at hown
    exact hown
  · exact ((Below.refl _ _).alloc (Nat.le_refl _) o).grown hg (by simp) (fun k hk => by cases hk)

end Go.Proofs.YtfbedonphhiolaaDoor.FoldPut
