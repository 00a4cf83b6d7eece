/- Lemmas that the last text leans on. -/
import Derived.Test.YtigfcihakghddaaGreatDoorPack43
import Derived.Test.YtigfcihakghddaaGreatDoorPack20
import Derived.Test.YtigfcihakghddaaGreatDoorPack3
import Derived.Test.YtigfcihakghddaaGreatDoorWords
import Derived.Test.YtigfcihakghddaaGreatDoorRows
import Derived.Lib.LaidTab
import Derived.Stop.LaidErr
import Derived.Deep.DeepLaidRun
import Derived.PinnedBridge
import Derived.Lib.LaidIn
import Derived.Lib.LaidU8T
set_option linter.all false
namespace Go.Proofs.YtigfcihakghddaaGreatDoor.SchTabs
open Go.RowKit Go.Lib OrdP Kit OrdLib
theorem gP:Tryz.prog.globalNamed "internal/strconv.uint64pow10" = some 5:=by kernel_rfl
theorem gPt:(Tryz.prog.globals[5]?).map (·.type)=some 323:=by kernel_rfl
theorem gR:Tryz.prog.globalNamed "strconv.ErrRange" = some 2:=by kernel_rfl
theorem gRt:(Tryz.prog.globals[2]?).map (·.type)=some 201:=by kernel_rfl
theorem row_err (u:TypeId) (h:Tryz.prog.typeName? 3 u=some "*errors.errorString"):u=310:=
 typeName_ptr_named (nm:= "errors.errorString") (by rw[show "*" ++ "errors.errorString" = "*errors.errorString" by decide];kernel_rfl) (by kernel_rfl) (by decide) u (by rw[show "*" ++ "errors.errorString" = "*errors.errorString" by decide];exact h)
theorem pow_eq:(Rows.laid_internal_strconv_uint64pow10:DataW Unit)=Lib.tabData .u64 Lib.pow10Tab:=by kernel_rfl
theorem accept_eq:Rows.laid_unicode_utf8_acceptRanges=Lib.acceptData:=by kernel_rfl
theorem first_eq:(Rows.laid_unicode_utf8_first:DataW Unit)=Lib.firstData:=Pinned.utf8First_eq
theorem maxlen {W:World} (h:W.ShapedOpen Tryz.prog):∃m,W.cell? ⟨0,0,none⟩=some (.int .i64 m):=
 Go.Proofs.cell_of_shapedOpen_int (zero:=#[.int .i64 0]) (t:=3) h (of_decide_eq_true (by kernel_rfl)) (by kernel_rfl) rfl (by kernel_rfl) (by kernel_rfl) Tryz.underlying3
abbrev laidL:List (String × DataW Unit):=[("math/bits.deBruijn32tab",Rows.laid_math_bits_deBruijn32tab),("math/bits.deBruijn64tab",Rows.laid_math_bits_deBruijn64tab),("internal/strconv.uint64pow10",Lib.tabData .u64 Lib.pow10Tab),("unicode/utf8.acceptRanges",Lib.acceptData),("strconv.ErrRange",Rows.laid_strconv_ErrRange),("strconv.ErrSyntax",Rows.laid_strconv_ErrSyntax),("unicode/utf8.first",Lib.firstData)]
theorem otabs {W:World} (h:laidMet Tryz.prog laidL W) (hs:W.ShapedOpen Tryz.prog):OTabs W:=by
 have hp:=tabIs_of_head gP gPt Tryz.underlying323 Tryz.underlying68 (by kernel_rfl) (by kernel_rfl) h.tail.tail;obtain ⟨a0,s0,hv0,-,-,-⟩:=laid_sentinel h.tail.tail.tail.tail gR gRt Tryz.underlying201 row_err Tryz.underlying310 Tryz.underlying312 rfl rfl Tryz.underlying9 (by kernel_rfl) (by kernel_rfl);have h0:=World.var?_cell gR hv0 0;exact ⟨maxlen hs,⟨.iface 310 (.pointer (some a0)),by simpa using h0,.inr ⟨_,_,rfl⟩⟩,hp⟩
theorem tabs_size {w:World} (h:Lib.Utf8Tabs 3 4 w):5≤w.heap.size:=by
 have h1:=(h.2 0 (by omega)).1;have:=World.block_lt_of_cell? w _ h1;have h2:=h.1 0 (by omega);have:=World.block_lt_of_cell? w _ h2;dsimp only at *;omega
theorem utabs {W:World} (h:laidMet Tryz.prog laidL W):FoldNext.Tabs W:=by
 have ht:Lib.Utf8Tabs 3 4 W:=
  utf8Tabs_of_readsT (U8Types.of260 Tryz.lays260) ⟨by kernel_rfl,by kernel_rfl,by kernel_rfl,by kernel_rfl,by kernel_rfl,by kernel_rfl,by kernel_rfl⟩ (Lib.laidMet.reads h (.tail _ (.tail _ (.tail _ (.tail _ (.tail _ (.tail _ (.head _)))))))) (Lib.laidMet.reads h (.tail _ (.tail _ (.tail _ (.head _)))))
 exact ⟨ht,tabs_size ht⟩
def valsOf:DataW Unit→Array Value
 | .agg l=>(l.map fun | .lit (.int k z)=>Value.int k z | _=>undef).toArray
 | _=>#[]
def textOf:DataW Unit→ByteArray
 | .iface _ (.ptr (.agg [.lit (.string l)]))=>⟨l.toArray⟩
 | _=>⟨#[]⟩
noncomputable def laidWorld (os:Os):World:=
 let w0:=World.holding Tryz.prog os ⟨#[.cells #[.string (textOf Rows.laid_strconv_ErrRange)] 312,.cells #[.string (textOf Rows.laid_strconv_ErrSyntax)] 312],#[],[]⟩
 let put (h:Array Obj) (g:Nat) (cs:Array Value):Array Obj:=h.modify g fun
  | .cells _ t frozen=>.cells cs t frozen
  | o=>o
 let h1:=put w0.heap 6 (valsOf Rows.laid_math_bits_deBruijn32tab);let h2:=put h1 7 (valsOf Rows.laid_math_bits_deBruijn64tab);let h3:=put h2 5 (valsOf Rows.laid_internal_strconv_uint64pow10);let h4:=put h3 2 #[.iface 310 (.pointer (some ⟨Tryz.prog.low,0,none⟩))];let h5:=put h4 1 #[.iface 310 (.pointer (some ⟨Tryz.prog.low+1,0,none⟩))];let h6:=put h5 3 (Lib.firstTab.map fun z=>Value.int .u8 z).toArray;let h7:=put h6 4 ((List.range 16).flatMap fun i=>[Value.int .u8 (Lib.accLo i),Value.int .u8 (Lib.accHi i)]).toArray
 { w0 with heap:=h7 }
theorem laid_met (os:Os) (args:Array Value):laidMet Tryz.prog laidL ((laidWorld os).forCall (fun _ _=>0) ⟨#[],args,[]⟩).memory:=
 laidMet_of_run3 8 (by kernel_rfl) (by kernel_rfl) (by kernel_rfl)
end Go.Proofs.YtigfcihakghddaaGreatDoor.SchTabs
