/- Lemmas that the last text leans on. -/
import Derived.Test.YtplkbdncgkgppaaGreatDoorPack7
import Derived.Test.YtplkbdncgkgppaaGreatDoorQryPar3
import Derived.Test.YtplkbdncgkgppaaGreatDoorPack37
import Derived.Test.YtplkbdncgkgppaaGreatDoorPack2
import Derived.Test.YtplkbdncgkgppaaGreatDoorRows
import Derived.Lib.LaidTab
import Derived.Stop.LaidErr
import Derived.Deep.DeepLaidRun
import Derived.PinnedBridge
import Derived.Lib.LaidIn
import Derived.Lib.LaidU8T
import Derived.Test.YtplkbdncgkgppaaGreatDoorPack27
set_option linter.all false
section
namespace Go.Proofs.YtplkbdncgkgppaaGreatDoor.SchTabs
open Go.RowKit Go.Lib OrdP Kit OrdLib
theorem gP:Tryz.prog.globalNamed "internal/strconv.uint64pow10" = some 3:=by kernel_rfl
theorem gPt:(Tryz.prog.globals[3]?).map (·.type)=some 212:=by kernel_rfl
theorem gR:Tryz.prog.globalNamed "strconv.ErrRange" = some 2:=by kernel_rfl
theorem gRt:(Tryz.prog.globals[2]?).map (·.type)=some 142:=by kernel_rfl
theorem zx7 (u:TypeId) (h:Tryz.prog.typeName? 3 u=some "*errors.errorString"):u=219:=
 typeName_ptr_named (nm:= "errors.errorString") (by rw[show "*" ++ "errors.errorString" = "*errors.errorString" by decide];kernel_rfl) (by kernel_rfl) (by decide) u (by rw[show "*" ++ "errors.errorString" = "*errors.errorString" by decide];exact h)
theorem yfb:(Rows.laid_internal_strconv_uint64pow10:DataW Unit)=Lib.tabData .u64 Lib.pow10Tab:=by kernel_rfl
theorem zx8:Rows.laid_unicode_utf8_acceptRanges=Lib.acceptData:=by kernel_rfl
theorem yap:(Rows.laid_unicode_utf8_first:DataW Unit)=Lib.firstData:=Pinned.utf8First_eq
abbrev zum:List (String × DataW Unit):=[("math/bits.deBruijn32tab",Rows.laid_math_bits_deBruijn32tab),("math/bits.deBruijn64tab",Rows.laid_math_bits_deBruijn64tab),("internal/strconv.uint64pow10",Lib.tabData .u64 Lib.pow10Tab),("unicode/utf8.acceptRanges",Lib.acceptData),("strconv.ErrRange",Rows.laid_strconv_ErrRange),("strconv.ErrSyntax",Rows.laid_strconv_ErrSyntax),("unicode/utf8.first",Lib.firstData)]
theorem gS:Tryz.prog.globalNamed "strconv.ErrSyntax" = some 1:=by kernel_rfl
theorem gSt:(Tryz.prog.globals[1]?).map (·.type)=some 142:=by kernel_rfl
theorem yga {W:World} (h:laidMet Tryz.prog zum W) (hs:W.ShapedOpen Tryz.prog):Qry.PTabs W:=by
 have hp:=tabIs_of_head gP gPt Tryz.underlying212 Tryz.underlying29 (by kernel_rfl) (by kernel_rfl) h.tail.tail;obtain ⟨a0,s0,hv0,-,-,-⟩:=laid_sentinel h.tail.tail.tail.tail gR gRt Tryz.underlying142 zx7 Tryz.underlying219 Tryz.underlying221 rfl rfl Tryz.underlying9 (by kernel_rfl) (by kernel_rfl);obtain ⟨a1,s1,hv1,-,-,-⟩:=laid_sentinel h.tail.tail.tail.tail.tail gS gSt Tryz.underlying142 zx7 Tryz.underlying219 Tryz.underlying221 rfl rfl Tryz.underlying9 (by kernel_rfl) (by kernel_rfl);have h0:=World.var?_cell gR hv0 0;have h1:=World.var?_cell gS hv1 0;exact ⟨⟨.iface 219 (.pointer (some a1)),by simpa using h1,.inr ⟨_,_,rfl⟩⟩,⟨.iface 219 (.pointer (some a0)),by simpa using h0,.inr ⟨_,_,rfl⟩⟩,hp⟩
theorem zx9 {w:World} (h:Lib.Utf8Tabs 4 5 w):6≤w.heap.size:=by
 have h1:=(h.2 0 (by omega)).1;have:=World.block_lt_of_cell? w _ h1;have h2:=h.1 0 (by omega);have:=World.block_lt_of_cell? w _ h2;dsimp only at *;omega
theorem ygb {W:World} (h:laidMet Tryz.prog zum W):FoldNext.zdi W:=by
 have ht:Lib.Utf8Tabs 4 5 W:=
  utf8Tabs_of_readsT (U8Types.of260 Tryz.lays260) ⟨by kernel_rfl,by kernel_rfl,by kernel_rfl,by kernel_rfl,by kernel_rfl,by kernel_rfl,by kernel_rfl⟩ (Lib.laidMet.reads h (.tail _ (.tail _ (.tail _ (.tail _ (.tail _ (.tail _ (.head _)))))))) (Lib.laidMet.reads h (.tail _ (.tail _ (.tail _ (.head _)))))
 exact ⟨ht,zx9 ht⟩
def zya:DataW Unit→Array Value
 | .agg l=>(l.map fun | .lit (.int k z)=>Value.int k z | _=>undef).toArray
 | _=>#[]
def ya9:DataW Unit→ByteArray
 | .iface _ (.ptr (.agg [.lit (.string l)]))=>⟨l.toArray⟩
 | _=>⟨#[]⟩
noncomputable def zh3 (os:Os):World:=
 let w0:=World.holding Tryz.prog os ⟨#[.cells #[.string (ya9 Rows.laid_strconv_ErrRange)] 221,.cells #[.string (ya9 Rows.laid_strconv_ErrSyntax)] 221],#[],[]⟩
 let put (h:Array Obj) (g:Nat) (cs:Array Value):Array Obj:=h.modify g fun
  | .cells _ t frozen=>.cells cs t frozen
  | o=>o
 let h1:=put w0.heap 6 (zya Rows.laid_math_bits_deBruijn32tab);let h2:=put h1 7 (zya Rows.laid_math_bits_deBruijn64tab);let h3:=put h2 3 (zya Rows.laid_internal_strconv_uint64pow10);let h4:=put h3 2 #[.iface 219 (.pointer (some ⟨Tryz.prog.low,0,none⟩))];let h5:=put h4 1 #[.iface 219 (.pointer (some ⟨Tryz.prog.low+1,0,none⟩))];let h6:=put h5 4 (Lib.firstTab.map fun z=>Value.int .u8 z).toArray;let h7:=put h6 5 ((List.range 16).flatMap fun i=>[Value.int .u8 (Lib.accLo i),Value.int .u8 (Lib.accHi i)]).toArray
 { w0 with heap:=h7 }
theorem yaq (os:Os) (args:Array Value):laidMet Tryz.prog zum ((zh3 os).forCall (fun _ _=>0) ⟨#[],args,[]⟩).memory:=
 laidMet_of_run3 8 (by kernel_rfl) (by kernel_rfl) (by kernel_rfl)
end Go.Proofs.YtplkbdncgkgppaaGreatDoor.SchTabs
end
section
namespace Go.Proofs.YtplkbdncgkgppaaGreatDoor.Ana
open Go.RowKit Go.Lib FoldNext
end Go.Proofs.YtplkbdncgkgppaaGreatDoor.Ana
end
section
namespace Go.Proofs.YtplkbdncgkgppaaGreatDoor.Qck
open Go.RowKit Words Tree SchP Sch
def yda:List TypeId:=[24,22,61,59,3,9,4]
theorem yfc:zyk Tryz.prog yda=true:=by kernel_rfl
section
variable {H:Type} {enc:TypeId × Value→H} {w:World} {r:Reach} {b0:Nat} {v:Value} {d:DataW H} {ps:List MemPlace}
set_option maxRecDepth 100000 in
theorem zpt (hv:Value.okWide Tryz.prog w r b0 24 v) (h:DataW.Trod enc Tryz.prog w 0 (fun _=>true) true 24 v d ps) (hw:∀n∈d.weights Tryz.prog 24,n≤reachBytes) :
 ∃l u,v = .agg #[u]∧T.At bare w (fun g=>g<w.heap.size) (zcm l) u∧l.length*72≤140737488351232∧(∀f∈l,FOk f)∧T.bulkL [zcm l]≤Rows.uptoBulk d:=by
 obtain ⟨ts,vs,rfl,h1,h2,h3⟩:=zj0 yfc (.head _) Tryz.underlying24 hv h hw;obtain ⟨l,rfl,h4,h5⟩:=zwm h2;obtain ⟨u,r,rfl,h6,h7⟩:=AtL.cons_ h1;obtain rfl:=AtL.nil_ h7;exact ⟨l,u,rfl,h6,h4,h5,h3⟩
end
end Go.Proofs.YtplkbdncgkgppaaGreatDoor.Qck
end
