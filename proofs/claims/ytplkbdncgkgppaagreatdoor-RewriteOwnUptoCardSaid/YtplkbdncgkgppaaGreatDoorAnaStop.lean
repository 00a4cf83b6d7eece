/- Lemmas that the last text leans on. -/
import Derived.Test.YtplkbdncgkgppaaGreatDoorTake
import Derived.Test.YtplkbdncgkgppaaGreatDoorPack34
import Derived.Test.YtplkbdncgkgppaaGreatDoorFoldInts
import Derived.Test.YtplkbdncgkgppaaGreatDoorPack30
import Derived.BigGuardPart
import Derived.Outline
set_option linter.all false
set_option maxRecDepth 100000
set_option maxHeartbeats 4000000
namespace Go.Proofs.YtplkbdncgkgppaaGreatDoor.Ana
open Go.RowKit Go.Lib AnaP Words Tree Kit Owned
theorem zg9 (s:ByteArray):s.toList=s.data.toList:=ByteArray.toList_eq s
theorem zz4 {s:ByteArray} {l:List UInt8} (h:s.toList=l) (hl:l∈zhm):zke s=true:=by
 unfold zke;rw[List.contains_iff_mem,←zg9,h];exact hl
theorem zxi {s:ByteArray} (h:∀l∈zhm,¬s.toList=l):zke s=false:=by
 cases hs:zke s with
 | false=>rfl
 | true=>
  unfold zke at hs;rw[List.contains_iff_mem,←zg9] at hs;exact absurd rfl (h _ hs)
theorem zz5 (s:ByteArray) (w:World):Calls Tryz.prog 161 #[.string s] w (zdc (zke s) w):=by
 obtain ⟨r,hr⟩:∃r,zke s=r:=⟨_,rfl⟩
 rw[hr];have HR:=hX hr;clear hr;go_enter Tryz.func161,Tryz.ntmps161;go_wp2;all_goals go_ret
 all_goals refine ⟨?_,rfl⟩
 all_goals rw[←HR.out]
 all_goals first
  | (rw[zz4 (beq_iff_eq.1 (by assumption)) (by decide)];rfl)
  | (exfalso;simp_all;done)
  | (rw[zxi (by
      intro l hl;simp only[zhm,List.mem_cons,List.not_mem_nil,or_false] at hl
      repeat (rcases hl with rfl | hl;exact beq_eq_false_iff_ne.1 (by assumption)))];rfl)
theorem zxj (r:Int) (w:World):Calls Tryz.prog 118 #[.int .i32 r] w (zdc (zly r) w):=by
 obtain ⟨b,hb⟩:∃b,zly r=b:=⟨_,rfl⟩
 rw[hb];have HR:=hX hb;clear hb;go_enter Tryz.func118,Tryz.ntmps118;go_wp2;all_goals go_ret
 all_goals (refine ⟨zfw ?_,rfl⟩;rw[←HR.out];unfold zly;simp_all;try omega)
end Go.Proofs.YtplkbdncgkgppaaGreatDoor.Ana
