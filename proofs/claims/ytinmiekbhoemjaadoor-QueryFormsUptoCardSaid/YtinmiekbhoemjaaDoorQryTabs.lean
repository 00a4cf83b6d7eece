/- The variables that the Query cards list: out of a row's laid list, and a world of the witness in which they lie. -/
import Derived.Test.YtinmiekbhoemjaaDoorPack4
import Derived.Test.YtinmiekbhoemjaaDoorRows
import Derived.Lib.LaidTab
import Derived.Stop.LaidErr
import Derived.Deep.DeepLaidRun
set_option linter.unusedVariables false
namespace Go.Proofs.YtinmiekbhoemjaaDoor.QryTabs
open Go.RowKit Go.Lib OrdP Kit OrdLib
theorem gP : Tryd.prog.globalNamed "internal/strconv.uint64pow10" = some 1 := by kernel_rfl
theorem gPt : (Tryd.prog.globals[1]?).map (·.type) = some 112 := by kernel_rfl
theorem pow_eq : (Rows.laid_internal_strconv_uint64pow10 : DataW Unit) = Lib.tabData .u64 Lib.pow10Tab := by kernel_rfl
theorem pow_of {W : World} {a b : String × DataW Unit} {rest : List (String × DataW Unit)} (h : laidMet Tryd.prog (a :: b :: ("internal/strconv.uint64pow10", Lib.tabData .u64 Lib.pow10Tab) :: rest) W) :
    Lib.TabIs Tryd.prog W "internal/strconv.uint64pow10" .u64 Lib.pow10Tab :=
  tabIs_of_head gP gPt Tryd.underlying112 Tryd.underlying96 (by kernel_rfl) (by kernel_rfl) h.tail.tail
def valsOf : DataW Unit → Array Value
  | .agg l => (l.map fun | .lit (.int k z) => Value.int k z | _ => undef).toArray
  | _ => #[]
def textOf : DataW Unit → ByteArray
  | .iface _ (.ptr (.agg [.lit (.string l)])) => ⟨l.toArray⟩
  | _ => ⟨#[]⟩
noncomputable def laidWorld (os : Os) : World :=
  let w0 := World.holding Tryd.prog os ⟨#[.cells #[.string (textOf Rows.laid_strconv_ErrRange)] 125, .cells #[.string (textOf Rows.laid_strconv_ErrSyntax)] 125], #[], []⟩
  let put (h : Array Obj) (g : Nat) (cs : Array Value) : Array Obj := h.modify g fun
    | .cells _ t frozen => .cells cs t frozen
    | o => o
  let h1 := put w0.heap 4 (valsOf Rows.laid_math_bits_deBruijn32tab)
  let h2 := put h1 5 (valsOf Rows.laid_math_bits_deBruijn64tab)
  let h3 := put h2 1 (valsOf Rows.laid_internal_strconv_uint64pow10)
  let h4 := put h3 3 #[.iface 123 (.pointer (some ⟨Tryd.prog.low, 0, none⟩))]
  let h5 := put h4 2 #[.iface 123 (.pointer (some ⟨Tryd.prog.low + 1, 0, none⟩))]
  { w0 with heap := h5 }
end Go.Proofs.YtinmiekbhoemjaaDoor.QryTabs
/-! Three variables -/
namespace Go.Proofs.YtinmiekbhoemjaaDoor.QryTabs3
open Go.RowKit Go.Lib OrdP Kit OrdLib QryTabs
def laidL : List (String × DataW Unit) := [("math/bits.deBruijn32tab", Rows.laid_math_bits_deBruijn32tab), ("math/bits.deBruijn64tab", Rows.laid_math_bits_deBruijn64tab), ("internal/strconv.uint64pow10", Lib.tabData .u64 Lib.pow10Tab)]
noncomputable abbrev laidWorld := QryTabs.laidWorld
theorem laid_met (os : Os) (args : Array Value) : laidMet Tryd.prog laidL ((laidWorld os).forCall (fun _ _ => 0) ⟨#[], args, []⟩).memory := by
  unfold laidL
  rw [← pow_eq]
  exact laidMet_of_run3 8 (by kernel_rfl) (by kernel_rfl) (by kernel_rfl)
theorem pow {W : World} (h : laidMet Tryd.prog laidL W) : Lib.TabIs Tryd.prog W "internal/strconv.uint64pow10" .u64 Lib.pow10Tab := pow_of h
end Go.Proofs.YtinmiekbhoemjaaDoor.QryTabs3
/-! Five variables -/
namespace Go.Proofs.YtinmiekbhoemjaaDoor.QryTabs5
open Go.RowKit Go.Lib OrdP Kit OrdLib QryTabs
def laidL : List (String × DataW Unit) := [("math/bits.deBruijn32tab", Rows.laid_math_bits_deBruijn32tab), ("math/bits.deBruijn64tab", Rows.laid_math_bits_deBruijn64tab), ("internal/strconv.uint64pow10", Lib.tabData .u64 Lib.pow10Tab), ("strconv.ErrRange", Rows.laid_strconv_ErrRange), ("strconv.ErrSyntax", Rows.laid_strconv_ErrSyntax)]
noncomputable abbrev laidWorld := QryTabs.laidWorld
theorem laid_met (os : Os) (args : Array Value) : laidMet Tryd.prog laidL ((laidWorld os).forCall (fun _ _ => 0) ⟨#[], args, []⟩).memory := by
  unfold laidL
  rw [← pow_eq]
  exact laidMet_of_run3 8 (by kernel_rfl) (by kernel_rfl) (by kernel_rfl)
end Go.Proofs.YtinmiekbhoemjaaDoor.QryTabs5
