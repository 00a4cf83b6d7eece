/- Contracts: 'Put' of the program and of the document's answer. -/
import Derived.Test.YtdgmgedecnbmdaaDoorFoldForms
namespace Go.Proofs.YtdgmgedecnbmdaaDoor.FoldPut
open Go.RowKit Go.Lib FoldP FoldInts Kit FoldForms

def putS (r : Int) : List UInt8 := if Lib.validRune r then encodeRune r else []
def putE (r : Int) : Int := if Lib.validRune r then 0 else 50
def PutRet (r : Int) (w : World) (e : Ending) (w' : World) : Prop := e = .returned (.tuple #[.string (str (putS r)), .int .i64 (putE r)]) ∧ Below w.heap.size w w'

theorem putS_yes {r : Int} (h : Lib.validRune r = true) : putS r = encodeRune r := by simp [putS, h]
theorem putE_yes {r : Int} (h : Lib.validRune r = true) : putE r = 0 := by simp [putE, h]
theorem putS_no {r : Int} (h : Lib.validRune r = false) : putS r = [] := by simp [putS, h]
theorem putE_no {r : Int} (h : Lib.validRune r = false) : putE r = 50 := by simp [putE, h]

theorem put_mk_yes {r : Int} {w w' : World} (h : Lib.validRune r = true) (hb : Below w.heap.size w w') : PutRet r w (.returned (.tuple #[.string (str (encodeRune r)), .int .i64 0])) w' :=
  ⟨by rw [putS_yes h, putE_yes h], hb⟩
theorem put_mk_no {r : Int} {w w' : World} (h : Lib.validRune r = false) (hb : Below w.heap.size w w') : PutRet r w (.returned (.tuple #[.string (str []), .int .i64 50])) w' :=
  ⟨by rw [putS_no h, putE_no h], hb⟩

/-- 'AppendRune(nil, r)'. -/
theorem appendNil_any (r : Int) (hr0 : -2147483648 ≤ r) (hr1 : r ≤ 2147483647) (w : World) :
    Calls Tryd.prog 33 #[.slice none 0 0, .int .i32 r] w (RowNew (encodeRune r) w) := by
  refine (Tryd.utf8_AppendRune_plain w.heap.size (.slice none 0 0) 0 [] r hr0 hr1 w (World.ownsRow_nil _ _ _ _) (by omega) (Nat.le_refl _)).mono ?_
  rintro e w' ⟨v', rfl, hown, o, hg⟩
  refine ⟨v', rfl, ?_, ?_⟩
  · rw [Nat.zero_add, List.nil_append, runeCells_bytes, byteCells_length] at hown
    exact hown
  · exact ((Below.refl _ _).alloc (Nat.le_refl _) o).grown hg (by simp) (fun k hk => by cases hk)

set_option maxHeartbeats 1000000 in
theorem put_any (r : Int) (hr0 : -2147483648 ≤ r) (hr1 : r ≤ 2147483647) (w : World) :
    Calls Tryd.prog 18 #[.int .i32 r] w (PutRet r w) := by
  cases hv : Lib.validRune r
  · have HV := Lib.hid hv
    have hc := Tryd.utf8_ValidRune r w
    rw [hv] at hc
    have HC := Lib.hid hc
    clear hv hc
    go_enter Tryd.func18, Tryd.ntmps18
    go_wp2_with fail
    refine HC.out.mono ?_
    rintro e w' ⟨rfl, rfl⟩
    go_wp2_with fail
    go_ret2
    exact put_mk_no HV.out (Below.refl _ _)
  · have HV := Lib.hid hv
    have hc := Tryd.utf8_ValidRune r w
    rw [hv] at hc
    have HC := Lib.hid hc
    clear hv hc
    go_enter Tryd.func18, Tryd.ntmps18
    go_wp2_with fail
    refine HC.out.mono ?_
    rintro e w' ⟨rfl, rfl⟩
    go_wp2_with fail
    refine (appendNil_any r hr0 hr1 _).mono ?_
    rintro e w1 ⟨v, rfl, hown, hb⟩
    have hcv := run_convert_own (P := Tryd.prog) w1 43 9 5 Tryd.underlying43 Tryd.underlying5 Tryd.underlying9 rfl hown
    have HB := Lib.hid hb
    clear hown hb
    go_wp2_with fail
    go_ret2
    exact put_mk_yes HV.out HB.out

end Go.Proofs.YtdgmgedecnbmdaaDoor.FoldPut
