/- Lemmas that the last text leans on. -/
import Derived.Test.YtigfcihakghddaaGreatDoorTake
import Derived.Test.YtigfcihakghddaaGreatDoorFoldAmong
import Derived.Test.YtigfcihakghddaaGreatDoorShelf
import Derived.Test.YtigfcihakghddaaGreatDoorPack6
import Derived.Lib.Strings
import Derived.Deep.Draws
set_option linter.all false
section
namespace Go.Proofs.YtigfcihakghddaaGreatDoor.FoldForms
open Go.RowKit Go.Lib FoldP FoldInts Kit
end Go.Proofs.YtigfcihakghddaaGreatDoor.FoldForms
end
section
namespace Go.Proofs.YtigfcihakghddaaGreatDoor.FoldPut
open Go.RowKit Go.Lib FoldP FoldInts Kit FoldForms
end Go.Proofs.YtigfcihakghddaaGreatDoor.FoldPut
end
section
namespace Go.Proofs.YtigfcihakghddaaGreatDoor.FoldNext
open Go.RowKit Go.Lib FoldP FoldInts Kit FoldForms
def Tabs (w:World):Prop:=Lib.Utf8Tabs 3 4 w∧5≤w.heap.size
theorem Tabs.below {B:Nat} {w w':World} (h:Tabs w) (hb:Below B w w') (hB:5≤B):Tabs w':=
 ⟨⟨fun c hc=>(hb.cell (p:=⟨3,c,none⟩) (Nat.lt_of_lt_of_le (by show (_:Nat)<5;dsimp only;omega) hB)).trans (h.1.1 c hc),
  fun i hi=>⟨(hb.cell (p:=⟨4,2*i,none⟩) (Nat.lt_of_lt_of_le (by show (_:Nat)<5;dsimp only;omega) hB)).trans (h.1.2 i hi).1,(hb.cell (p:=⟨4,2*i+1,none⟩) (Nat.lt_of_lt_of_le (by show (_:Nat)<5;dsimp only;omega) hB)).trans (h.1.2 i hi).2⟩⟩,
  Nat.le_trans h.2 hb.size⟩
theorem Tabs.next {w w':World} (h:Tabs w) (hb:Below w.heap.size w w'):Tabs w':=h.below hb h.2
def NextRet (l:List UInt8) (at_:Int) (w:World) (e:Ending) (w':World):Prop:=
 e = .returned (.tuple #[.int .i32 (nextF l at_).1,.int .i64 (nextF l at_).2])∧Below w.heap.size w w'
theorem next_out {l:List UInt8} {at_:Int} (h:¬(0≤at_∧at_<l.length)):nextF l at_=(0,0):=if_neg h
theorem next_in (l:List UInt8) (k:Nat) (h:k<l.length):nextF l k=(((decodeL (l.drop k)).1:Int),((decodeL (l.drop k)).2:Int)):=by
 unfold nextF;rw[if_pos (by omega),Int.toNat_natCast]
theorem next_mk_out {l:List UInt8} {at_:Int} {w w':World} (h:¬(0≤at_∧at_<l.length)) (hb:Below w.heap.size w w'):NextRet l at_ w (.returned (.tuple #[.int .i32 0,.int .i64 0])) w':=
 ⟨by rw[next_out h],hb⟩
theorem decodeGo_drop (s:ByteArray) (k:Nat) (h:k<s.size):Lib.decodeGo (s.extract k s.size)=decodeL (s.data.toList.drop k):=by
 unfold decodeGo;have hsz:(s.extract k s.size).size=s.size - k:=by simp
 rw[if_neg (by omega)];have:=decodeL_drop (s.extract k s.size) 0;rw[←this,List.drop_zero,extract_data,List.take_of_length_le (by simp)]
set_option maxHeartbeats 1000000 in
theorem next_any (s:ByteArray) (at_:Int) (w:World) (hs:s.size≤maxLen) (hT:Tabs w) :
 Calls Tryz.prog 202 #[.string s,.int .i64 at_] w (NextRet s.data.toList at_ w):=by
 unfold maxLen at hs;have hlen:s.data.toList.length=s.size:=by simp
 have HL:=hX hlen;clear hlen;have HT:=hX hT;clear hT;by_cases h0:at_<0
 ·go_enter Tryz.func202,Tryz.ntmps202;go_wp2_with fail;go_ret2;exact next_mk_out (by omega) (Below.refl _ _)
 ·obtain ⟨k,rfl⟩:∃k:Nat,at_=k:=⟨at_.toNat,by omega⟩
  by_cases h1:k<s.size
  ·go_enter Tryz.func202,Tryz.ntmps202;go_wp2_with fail;refine (Tryz.utf8_DecodeRuneInString _ _ HT.out.1).mono ?_;rintro e w1 ⟨rfl,hb⟩;have HB:=hX hb;clear hb;go_wp2_with fail;go_ret2;refine ⟨?_,HB.out⟩;rw[next_in _ k (by rw[HL.out];exact h1),←decodeGo_drop s k h1];rfl
  ·go_enter Tryz.func202,Tryz.ntmps202;go_wp2_with fail;go_ret2;exact next_mk_out (by rw[HL.out];omega) (Below.refl _ _)
end Go.Proofs.YtigfcihakghddaaGreatDoor.FoldNext
end
