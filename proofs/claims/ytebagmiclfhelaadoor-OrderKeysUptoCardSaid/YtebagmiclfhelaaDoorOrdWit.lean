/- A world of the witness in which the listed variables lie (under way). -/
import Derived.Test.YtebagmiclfhelaaDoorOrdTabs
import Derived.Test.YtebagmiclfhelaaDoorRows
import Derived.Deep.DeepLaidRun
set_option linter.unusedVariables false
namespace Go.Proofs.YtebagmiclfhelaaDoor.OrdLib
open Go.RowKit Go.Lib OrdP Kit
def valsOf : DataW Unit → Array Value
  | .agg l => (l.map fun | .lit (.int k z) => Value.int k z | _ => undef).toArray
  | _ => #[]
def textOf : DataW Unit → ByteArray
  | .iface _ (.ptr (.agg [.lit (.string l)])) => ⟨l.toArray⟩
  | _ => ⟨#[]⟩
noncomputable def laidWorld (os : Os) : World :=
  let w0 := World.holding Tryd.prog os ⟨#[.cells #[.string (textOf Rows.laid_strconv_ErrRange)] 132, .cells #[.string (textOf Rows.laid_strconv_ErrSyntax)] 132], #[], []⟩
  let put (h : Array Obj) (g : Nat) (cs : Array Value) : Array Obj := h.modify g fun
    | .cells _ t frozen => .cells cs t frozen
    | o => o
  let h1 := put w0.heap 4 (valsOf Rows.laid_math_bits_deBruijn32tab)
  let h2 := put h1 5 (valsOf Rows.laid_math_bits_deBruijn64tab)
  let h3 := put h2 3 (valsOf Rows.laid_internal_strconv_uint64pow10)
  let h4 := put h3 2 #[.iface 130 (.pointer (some ⟨Tryd.prog.low, 0, none⟩))]
  let h5 := put h4 1 #[.iface 130 (.pointer (some ⟨Tryd.prog.low + 1, 0, none⟩))]
  { w0 with heap := h5 }
theorem laid_met (os : Os) (args : Array Value) : laidMet Tryd.prog Rows.orderDecimalsUptoRow.laid ((laidWorld os).forCall (fun _ _ => 0) ⟨#[], args, []⟩).memory :=
  laidMet_of_run3 8 (by kernel_rfl) (by kernel_rfl) (by kernel_rfl)
end Go.Proofs.YtebagmiclfhelaaDoor.OrdLib
