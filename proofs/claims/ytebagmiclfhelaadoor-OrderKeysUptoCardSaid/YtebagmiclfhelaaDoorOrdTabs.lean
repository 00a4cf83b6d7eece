/- The tables out of a row's laid list. -/
import Derived.Test.YtebagmiclfhelaaDoorOrdLib
import Derived.Test.YtebagmiclfhelaaDoorRows
import Derived.Lib.LaidTab
import Derived.Stop.LaidErr
set_option linter.unusedVariables false
namespace Go.Proofs.YtebagmiclfhelaaDoor.OrdLib
open Go.RowKit Go.Lib OrdP Kit
theorem gP : Tryd.prog.globalNamed "internal/strconv.uint64pow10" = some 3 := by kernel_rfl
theorem gPt : (Tryd.prog.globals[3]?).map (·.type) = some 126 := by kernel_rfl
theorem gR : Tryd.prog.globalNamed "strconv.ErrRange" = some 2 := by kernel_rfl
theorem gRt : (Tryd.prog.globals[2]?).map (·.type) = some 63 := by kernel_rfl
theorem row_err (u : TypeId) (h : Tryd.prog.typeName? 3 u = some "*errors.errorString") : u = 130 :=
  typeName_ptr_named (nm := "errors.errorString") (by rw [show "*" ++ "errors.errorString" = "*errors.errorString" by decide]; kernel_rfl) (by kernel_rfl) (by decide) u (by rw [show "*" ++ "errors.errorString" = "*errors.errorString" by decide]; exact h)
theorem pow_eq : (Rows.laid_internal_strconv_uint64pow10 : DataW Unit) = Lib.tabData .u64 Lib.pow10Tab := by kernel_rfl
theorem otabs {W : World} {a b : String × DataW Unit} {text : List UInt8} {rest : List (String × DataW Unit)}
    (h : laidMet Tryd.prog (a :: b :: ("internal/strconv.uint64pow10", Lib.tabData .u64 Lib.pow10Tab) :: ("strconv.ErrRange", .iface "*errors.errorString" (.ptr (.agg [.lit (.string text)]))) :: rest) W)
    (hm : ∃ m, W.cell? ⟨0, 0, none⟩ = some (.int .i64 m)) : OTabs W := by
  have hp := tabIs_of_head gP gPt Tryd.underlying126 Tryd.underlying69 (by kernel_rfl) (by kernel_rfl) h.tail.tail
  obtain ⟨a0, s0, hv0, -, -, -⟩ := laid_sentinel h.tail.tail.tail gR gRt Tryd.underlying63 row_err Tryd.underlying130 Tryd.underlying132 rfl rfl Tryd.underlying9 (by kernel_rfl) (by kernel_rfl)
  have h0 := World.var?_cell gR hv0 0
  exact ⟨hm, ⟨.iface 130 (.pointer (some a0)), by simpa using h0, .inr ⟨_, _, rfl⟩⟩, hp⟩
theorem maxlen {W : World} (h : W.ShapedOpen Tryd.prog) : ∃ m, W.cell? ⟨0, 0, none⟩ = some (.int .i64 m) :=
  Go.Proofs.cell_of_shapedOpen_int (zero := #[.int .i64 0]) (t := 3) h (of_decide_eq_true (by kernel_rfl)) (by kernel_rfl) rfl (by kernel_rfl) (by kernel_rfl) Tryd.underlying3
theorem laid_eq : Rows.orderDecimalsUptoRow.laid = [("math/bits.deBruijn32tab", Rows.laid_math_bits_deBruijn32tab), ("math/bits.deBruijn64tab", Rows.laid_math_bits_deBruijn64tab), ("internal/strconv.uint64pow10", Lib.tabData .u64 Lib.pow10Tab), ("strconv.ErrRange", Rows.laid_strconv_ErrRange), ("strconv.ErrSyntax", Rows.laid_strconv_ErrSyntax)] := by
  rw [← pow_eq]; rfl
theorem tabs {W : World} (h : laidMetH Tryd.prog Rows.orderDecimalsUptoRow.laid W) (hs : W.ShapedOpen Tryd.prog) : OTabs W := by
  rw [laid_eq] at h
  exact otabs (a := _) (b := _) (show laidMet Tryd.prog _ W from h) (maxlen hs)
end Go.Proofs.YtebagmiclfhelaaDoor.OrdLib
