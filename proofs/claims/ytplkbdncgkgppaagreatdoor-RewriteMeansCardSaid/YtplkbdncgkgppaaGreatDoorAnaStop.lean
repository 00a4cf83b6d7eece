/- Lemmas that the last text leans on. -/
import Derived.Test.YtplkbdncgkgppaaGreatDoorTake
import Derived.Test.YtplkbdncgkgppaaGreatDoorPack23
import Derived.Test.YtplkbdncgkgppaaGreatDoorFoldInts
import Derived.Test.YtplkbdncgkgppaaGreatDoorPack19
import Derived.BigGuardPart
import Derived.Outline
set_option linter.all false
set_option maxRecDepth 100000
set_option maxHeartbeats 4000000
namespace Go.Proofs.YtplkbdncgkgppaaGreatDoor.Ana
open Go.RowKit Go.Lib AnaP Words Tree Kit Owned
theorem zhv (s:ByteArray):s.toList=s.data.toList:=ByteArray.toList_eq s
theorem ybu {s:ByteArray} {l:List UInt8} (h:s.toList=l) (hl:l∈zh4):zkh s=true:=by
 unfold zkh;rw[List.contains_iff_mem,←zhv,h];exact hl
theorem zyn {s:ByteArray} (h:∀l∈zh4,¬s.toList=l):zkh s=false:=by
 cases hs:zkh s with
 | false=>rfl
 | true=>
  unfold zkh at hs;rw[List.contains_iff_mem,←zhv] at hs;exact absurd rfl (h _ hs)
theorem ybv (s:ByteArray) (w:World):Calls Tryz.prog 161 #[.string s] w (zd1 (zkh s) w):=by
 obtain ⟨r,hr⟩:∃r,zkh s=r:=⟨_,rfl⟩
 rw[hr];have HR:=hX hr;clear hr;go_enter Tryz.func161,Tryz.ntmps161;go_wp2;all_goals go_ret
 all_goals refine ⟨?_,rfl⟩
 all_goals rw[←HR.out]
 all_goals first
  | (rw[ybu (beq_iff_eq.1 (by assumption)) (by decide)];rfl)
  | (exfalso;simp_all;done)
  | (rw[zyn (by
      intro l hl;simp only[zh4,List.mem_cons,List.not_mem_nil,or_false] at hl
      repeat (rcases hl with rfl | hl;exact beq_eq_false_iff_ne.1 (by assumption)))];rfl)
theorem zyo (r:Int) (w:World):Calls Tryz.prog 118 #[.int .i32 r] w (zd1 (zmj r) w):=by
 obtain ⟨b,hb⟩:∃b,zmj r=b:=⟨_,rfl⟩
 rw[hb];have HR:=hX hb;clear hb;go_enter Tryz.func118,Tryz.ntmps118;go_wp2;all_goals go_ret
 all_goals (refine ⟨zgt ?_,rfl⟩;rw[←HR.out];unfold zmj;simp_all;try omega)
end Go.Proofs.YtplkbdncgkgppaaGreatDoor.Ana
