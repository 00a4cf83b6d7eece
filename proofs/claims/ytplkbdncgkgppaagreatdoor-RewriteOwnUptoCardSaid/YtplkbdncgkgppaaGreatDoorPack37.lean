/- Lemmas that the last text leans on. -/
import Derived.Test.YtplkbdncgkgppaaGreatDoorTake
import Derived.Test.YtplkbdncgkgppaaGreatDoorFoldInts
import Derived.Test.YtplkbdncgkgppaaGreatDoorPack4
import Derived.Test.YtplkbdncgkgppaaGreatDoorPack24
import Derived.Lib.Strings
import Derived.Deep.Draws
set_option linter.all false
section
namespace Go.Proofs.YtplkbdncgkgppaaGreatDoor.FoldAmong
open Go.RowKit FoldP FoldInts Kit
end Go.Proofs.YtplkbdncgkgppaaGreatDoor.FoldAmong
end
section
namespace Go.Proofs.YtplkbdncgkgppaaGreatDoor.FoldForms
open Go.RowKit Go.Lib FoldP FoldInts Kit
end Go.Proofs.YtplkbdncgkgppaaGreatDoor.FoldForms
end
section
namespace Go.Proofs.YtplkbdncgkgppaaGreatDoor.FoldPut
open Go.RowKit Go.Lib FoldP FoldInts Kit FoldForms
end Go.Proofs.YtplkbdncgkgppaaGreatDoor.FoldPut
end
section
namespace Go.Proofs.YtplkbdncgkgppaaGreatDoor.FoldNext
open Go.RowKit Go.Lib FoldP FoldInts Kit FoldForms
def zdi (w:World):Prop:=Lib.Utf8Tabs 4 5 w∧6≤w.heap.size
theorem zdi.below {B:Nat} {w w':World} (h:zdi w) (hb:Below B w w') (hB:6≤B):zdi w':=
 ⟨⟨fun c hc=>(hb.cell (p:=⟨4,c,none⟩) (Nat.lt_of_lt_of_le (by show (_:Nat)<6;dsimp only;omega) hB)).trans (h.1.1 c hc),
  fun i hi=>⟨(hb.cell (p:=⟨5,2*i,none⟩) (Nat.lt_of_lt_of_le (by show (_:Nat)<6;dsimp only;omega) hB)).trans (h.1.2 i hi).1,(hb.cell (p:=⟨5,2*i+1,none⟩) (Nat.lt_of_lt_of_le (by show (_:Nat)<6;dsimp only;omega) hB)).trans (h.1.2 i hi).2⟩⟩,
  Nat.le_trans h.2 hb.size⟩
theorem zdi.next {w w':World} (h:zdi w) (hb:Below w.heap.size w w'):zdi w':=h.below hb h.2
def znb (l:List UInt8) (at_:Int) (w:World) (e:Ending) (w':World):Prop:=
 e = .returned (.tuple #[.int .i32 (zv5 l at_).1,.int .i64 (zv5 l at_).2])∧Below w.heap.size w w'
theorem zz6 {l:List UInt8} {at_:Int} (h:¬(0≤at_∧at_<l.length)):zv5 l at_=(0,0):=if_neg h
theorem znc (l:List UInt8) (k:Nat) (h:k<l.length):zv5 l k=(((decodeL (l.drop k)).1:Int),((decodeL (l.drop k)).2:Int)):=by
 unfold zv5;rw[if_pos (by omega),Int.toNat_natCast]
theorem zky {l:List UInt8} {at_:Int} {w w':World} (h:¬(0≤at_∧at_<l.length)) (hb:Below w.heap.size w w'):znb l at_ w (.returned (.tuple #[.int .i32 0,.int .i64 0])) w':=
 ⟨by rw[zz6 h],hb⟩
theorem znd (s:ByteArray) (k:Nat) (h:k<s.size):Lib.decodeGo (s.extract k s.size)=decodeL (s.data.toList.drop k):=by
 unfold decodeGo;have hsz:(s.extract k s.size).size=s.size - k:=by simp
 rw[if_neg (by omega)];have:=decodeL_drop (s.extract k s.size) 0;rw[←this,List.drop_zero,extract_data,List.take_of_length_le (by simp)]
set_option maxHeartbeats 1000000 in
theorem zne (s:ByteArray) (at_:Int) (w:World) (hs:s.size≤maxLen) (hT:zdi w) :
 Calls Tryz.prog 163 #[.string s,.int .i64 at_] w (znb s.data.toList at_ w):=by
 unfold maxLen at hs;have hlen:s.data.toList.length=s.size:=by simp
 have HL:=hX hlen;clear hlen;have HT:=hX hT;clear hT;by_cases h0:at_<0
 ·go_enter Tryz.func163,Tryz.ntmps163;go_wp2_with fail;go_ret2;exact zky (by omega) (Below.refl _ _)
 ·obtain ⟨k,rfl⟩:∃k:Nat,at_=k:=⟨at_.toNat,by omega⟩
  by_cases h1:k<s.size
  ·go_enter Tryz.func163,Tryz.ntmps163;go_wp2_with fail;refine (Tryz.utf8_DecodeRuneInString _ _ HT.out.1).mono ?_;rintro e w1 ⟨rfl,hb⟩;have HB:=hX hb;clear hb;go_wp2_with fail;go_ret2;refine ⟨?_,HB.out⟩;rw[znc _ k (by rw[HL.out];exact h1),←znd s k h1];rfl
  ·go_enter Tryz.func163,Tryz.ntmps163;go_wp2_with fail;go_ret2;exact zky (by rw[HL.out];omega) (Below.refl _ _)
end Go.Proofs.YtplkbdncgkgppaaGreatDoor.FoldNext
end
