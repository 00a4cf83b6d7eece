/- Lemmas that the last text leans on. -/
import Derived.Test.YtigfcihakghddaaGreatDoorTake
import Derived.Test.YtigfcihakghddaaGreatDoorPack15
import Derived.Test.YtigfcihakghddaaGreatDoorFoldInts
import Derived.Test.YtigfcihakghddaaGreatDoorPack13
import Derived.BigGuardPart
import Derived.Outline
set_option linter.all false
set_option maxRecDepth 100000
set_option maxHeartbeats 4000000
namespace Go.Proofs.YtigfcihakghddaaGreatDoor.Ana
open Go.RowKit Go.Lib AnaP Words Tree Kit Owned
theorem toList_data (s:ByteArray):s.toList=s.data.toList:=ByteArray.toList_eq s
theorem stop_hit {s:ByteArray} {l:List UInt8} (h:s.toList=l) (hl:l∈stopWords):stopF s=true:=by
 unfold stopF;rw[List.contains_iff_mem,←toList_data,h];exact hl
theorem stop_miss {s:ByteArray} (h:∀l∈stopWords,¬s.toList=l):stopF s=false:=by
 cases hs:stopF s with
 | false=>rfl
 | true=>
  unfold stopF at hs;rw[List.contains_iff_mem,←toList_data] at hs;exact absurd rfl (h _ hs)
theorem stop_any (s:ByteArray) (w:World):Calls Tryz.prog 200 #[.string s] w (PureB (stopF s) w):=by
 obtain ⟨r,hr⟩:∃r,stopF s=r:=⟨_,rfl⟩
 rw[hr];have HR:=hX hr;clear hr;go_enter Tryz.func200,Tryz.ntmps200;go_wp2;all_goals go_ret
 all_goals refine ⟨?_,rfl⟩
 all_goals rw[←HR.out]
 all_goals first
  | (rw[stop_hit (beq_iff_eq.1 (by assumption)) (by decide)];rfl)
  | (exfalso;simp_all;done)
  | (rw[stop_miss (by
      intro l hl;simp only[stopWords,List.mem_cons,List.not_mem_nil,or_false] at hl
      repeat (rcases hl with rfl | hl;exact beq_eq_false_iff_ne.1 (by assumption)))];rfl)
theorem blank_any (r:Int) (w:World):Calls Tryz.prog 147 #[.int .i32 r] w (PureB (blankF r) w):=by
 obtain ⟨b,hb⟩:∃b,blankF r=b:=⟨_,rfl⟩
 rw[hb];have HR:=hX hb;clear hb;go_enter Tryz.func147,Tryz.ntmps147;go_wp2;all_goals go_ret
 all_goals (refine ⟨ret_bool ?_,rfl⟩;rw[←HR.out];unfold blankF;simp_all;try omega)
end Go.Proofs.YtigfcihakghddaaGreatDoor.Ana
