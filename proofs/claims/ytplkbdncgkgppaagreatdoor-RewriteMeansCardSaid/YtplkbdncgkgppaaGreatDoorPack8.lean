/- Lemmas that the last text leans on. -/
import Derived.Test.YtplkbdncgkgppaaGreatDoorTake
import Derived.Test.YtplkbdncgkgppaaGreatDoorChecked
import Derived.Test.YtplkbdncgkgppaaGreatDoorPack6
import Derived.Test.YtplkbdncgkgppaaGreatDoorPack7
import Derived.Lib.TrimUEq
import Derived.Lib.MapLaws
import Derived.Lib.SmallJoins
import Derived.Lib.LaidTab
import Derived.Deep.Light
import Derived.Shelf.GgClosure.StringsIndexFunc
import Derived.Outline
import Derived.WalkLawsBesides
import Derived.BigQuiet
import Derived.Deep.QuietTactic
import Derived.RegionTactic
import Derived.Deep.CutBlock
import Derived.Lib.AppendIntMem
import Derived.Test.YtplkbdncgkgppaaGreatDoorPack2
import Derived.LoopTactic
set_option linter.all false
section
namespace OrdP
open Go.Lib Go
end OrdP
namespace Go.Proofs.YtplkbdncgkgppaaGreatDoor.OrdLib
open Go.RowKit Go.Lib OrdP Kit OrdRef
def BoolB (b:Bool) (w:World) (e:Ending) (w':World):Prop:=e = .returned (.bool b)∧Below w.heap.size w w'
def StrB (l:List UInt8) (w:World) (e:Ending) (w':World):Prop:=e = .returned (.string (str l))∧Below w.heap.size w w'
end Go.Proofs.YtplkbdncgkgppaaGreatDoor.OrdLib
end
section
namespace Go.Proofs.YtplkbdncgkgppaaGreatDoor.OrdLib
open Go.RowKit Go.Lib OrdP Kit OrdRef
end Go.Proofs.YtplkbdncgkgppaaGreatDoor.OrdLib
end
section
namespace OrdP
open Go.Lib Go
end OrdP
namespace Go.Proofs.YtplkbdncgkgppaaGreatDoor.OrdLib
open Go.RowKit Go.Lib OrdP Kit OrdRef
theorem zuv (n:Int) (h0 : -9223372036854775808≤n) (h1:n≤9223372036854775807) (z:ByteArray) (hz:z=str (itoa n)) (w:World) (hT:Lib.TabIs Tryz.prog w "internal/strconv.uint64pow10" .u64 Lib.pow10Tab) :
 Calls Tryz.prog 125 #[.int .i64 n,.int .i64 10] w (fun e w'=>e = .returned (.string z)∧Below w.heap.size w w'):=by
 subst hz
 refine (Tryz.strconv_FormatInt_10 n h0 h1 w hT).mono fun e w' ⟨he,k,os,hw⟩=>⟨he,?_⟩
 subst hw;exact below_grow _ _ (Nat.le_refl _) _ _
end Go.Proofs.YtplkbdncgkgppaaGreatDoor.OrdLib
end
section
namespace Go.Proofs.YtplkbdncgkgppaaGreatDoor.Qry
open Go.RowKit Words Tree QryP Kit
def Buf (B b:Nat) (l:List UInt8) (w:World):Prop:=Lib.IsBuilderF 110 5 B b (Lib.byteCells l) w
structure Wr (B:Nat) (S:Nat→Prop) (w w':World):Prop where
 below:Below B w w'
 kept:∀g o,w.heap[g]?=some o→¬S g→(∀c fz,o≠.cells c 5 fz)→w'.heap[g]?=some o
section
variable {B b:Nat} {S S':Nat→Prop} {w w' w'':World}
theorem Wr.refl (B:Nat) (S:Nat→Prop) (w:World):Wr B S w w:=⟨Below.refl _ _,fun _ _ h _ _=>h⟩
theorem Wr.trans (h:Wr B S w w') (k:Wr B S w' w''):Wr B S w w'':=⟨h.below.trans k.below,fun g o h1 h2 h3=>k.kept g o (h.kept g o h1 h2 h3) h2 h3⟩
theorem Wr.mono (h:Wr B S w w') (hS:∀g,S g→S' g):Wr B S' w w':=⟨h.below,fun g o h1 h2 h3=>h.kept g o h1 (fun x=>h2 (hS g x)) h3⟩
theorem Wr.of (h:Below B w w') (k:Lib.OthersKept 5 (some b) w w'):Wr B (fun g=>g=b) w w':=⟨h,fun g o h1 h2 h3=>k g o h1 (fun e=>h2 (Option.some.inj e)) h3⟩
theorem Wr.alloc (h:Wr B S w w') (hB:B≤w'.heap.size) (o:Obj):Wr B S w (w'.alloc o):=⟨h.below.alloc hB o,fun g x h1 h2 h3=>by
 have:=h.kept g x h1 h2 h3
 exact (Lib.alloc_old w' o g (Array.getElem?_eq_some_iff.1 this).1).trans this⟩
theorem Wr.same (h:Below w.heap.size w w') (hB:B≤w.heap.size):Wr B S w w':=⟨h.mono hB,fun g x h1 _ _=>(h.block g (Array.getElem?_eq_some_iff.1 h1).1).trans h1⟩
theorem Wr.set (h:Wr B S w w') {p:Addr} (hp:S p.block) (hB:B≤p.block) (v:Value):Wr B S w (w'.setCell p v):=⟨h.below.setCell hB v,fun g x h1 h2 h3=>(Below.heap_setCell _ _ _ _ (by rintro rfl;exact h2 hp)).trans (h.kept g x h1 h2 h3)⟩
theorem Wr.blk {g:Nat} {t:TypeId} {cs:Array Value} (h:Wr B S w w') (hb:Blk w g t cs) (hS:¬S g) (ht:t≠5):Blk w' g t cs:=h.kept g _ hb hS (fun c fz e=>by injection e with _ e;exact ht e)
theorem Buf.ge {l:List UInt8} (h:Buf B b l w):B≤b:=h.elim (fun x=>x.1) (fun x=>x.1)
theorem Buf.keep {l:List UInt8} (h:Buf B b l w) (hb:Below w.heap.size w w'):Buf B b l w':=by
 have key:∀p,Lib.BuilderAtF 110 5 B b p (Lib.byteCells l) w→Lib.BuilderAtF 110 5 B b p (Lib.byteCells l) w':=(by rintro p ⟨h1,v,h2,h3,h4⟩;refine ⟨h1,v,(hb.block b (Array.getElem?_eq_some_iff.1 h2).1).trans h2,⟨h3.1,h3.2.elim .inl fun ⟨g,cap,cur,fz,hv,g1,g2,g3⟩=>.inr ⟨g,cap,cur,fz,hv,g1,(hb.block g (Array.getElem?_eq_some_iff.1 g2).1).trans g2,g3⟩⟩,h4⟩)
 exact h.elim (fun x=>.inl (key _ x)) (fun x=>.inr (key _ x))
theorem Buf.set {l:List UInt8} (h:Buf B b l w) {p:Addr} {t:TypeId} {cs:Array Value} (hp:Blk w p.block t cs) (ht:t≠5) (hb:p.block≠b) (v:Value):Buf B b l (w.setCell p v):=by
 have key:∀q,Lib.BuilderAtF 110 5 B b q (Lib.byteCells l) w→Lib.BuilderAtF 110 5 B b q (Lib.byteCells l) (w.setCell p v):=(by rintro q ⟨h1,x,h2,h3,h4⟩;refine ⟨h1,x,(Below.heap_setCell _ _ _ _ (Ne.symm hb)).trans h2,⟨h3.1,h3.2.elim .inl fun ⟨g,cap,cur,fz,hv,g1,g2,g3⟩=>.inr ⟨g,cap,cur,fz,hv,g1,(Below.heap_setCell _ _ _ _ ?_).trans g2,g3⟩⟩,h4⟩;rintro rfl;have hp':w.heap[p.block]?=some (.cells cs t (0,0)):=hp;rw[hp'] at g2;injection g2 with g2;injection g2 with _ g2;exact ht g2)
 exact h.elim (fun x=>.inl (key _ x)) (fun x=>.inr (key _ x))
theorem Buf.size {l:List UInt8} (h:Buf B b l w):b<w.heap.size:=by
 rcases h with ⟨_,v,h2,_⟩ | ⟨_,v,h2,_⟩ <;> exact (Array.getElem?_eq_some_iff.1 h2).1
end
def Put (B b:Nat) (l x:List UInt8) (w:World) (e:Ending) (w':World):Prop:=Buf B b (l++x) w'∧Wr B (fun g=>g=b) w w'
def zl4 (B b:Nat) (l x:List UInt8) (w:World) (e:Ending) (w':World):Prop:=e = .returned (.tuple #[])∧Put B b l x w e w'
def zfx:Nat:=140737488355328
theorem zuw (l:List UInt8) (c:UInt8):Lib.byteCells l++[.int .u8 c.toNat]=Lib.byteCells (l++[c]):=by simp[Lib.byteCells]
theorem zb5 (B b:Nat) (l:List UInt8) (c:UInt8) (w:World) (h:Buf B b l w) (hl:l.length+1≤zfx):Calls Tryz.prog 89 #[.pointer (some ⟨b,0,none⟩),.int .u8 c.toNat] w fun e w'=>e = .returned .nilIface∧Put B b l [c] w e w':=
 (SBuilder.zno B b _ c.toNat w h (by simpa [Lib.byteCells,zfx] using hl) (by have:=h.ge;have:=h.size;omega)).mono fun e w' ⟨h1,h2,h3,h4⟩=>⟨h1,by rw[zuw] at h2;exact .inr h2,Wr.of h3 h4⟩
theorem zea (B b:Nat) (l:List UInt8) (s:ByteArray) (w:World) (h:Buf B b l w) (hl:l.length+s.size≤zfx):Calls Tryz.prog 86 #[.pointer (some ⟨b,0,none⟩),.string s] w fun e w'=>e = .returned (.tuple #[.int .i64 s.size,.nilIface])∧Put B b l s.data.toList w e w':=
 (SBuilder.zeg B b _ s w h (by simpa [Lib.byteCells,zfx] using hl) (by have:=h.ge;have:=h.size;omega)).mono fun e w' ⟨h1,h2,h3,h4⟩=>⟨h1,by
   have:Lib.byteCells l++Lib.strCells s=Lib.byteCells (l++s.data.toList):=by simp[Lib.byteCells,Lib.strCells]
   rw[this] at h2;exact .inr h2,Wr.of h3 h4⟩
end Go.Proofs.YtplkbdncgkgppaaGreatDoor.Qry
end
section
namespace Go.Proofs.YtplkbdncgkgppaaGreatDoor.Qry
open Go.RowKit Words Tree QryP Kit
theorem zmv {s:ByteArray} {k:Nat} (h:k<s.size):(s.data.toList.take (k+1)).flatMap zb1=(s.data.toList.take k).flatMap zb1++zb1 s[k]:=by
 rw[List.take_succ_eq_append_getElem (by simpa using h),List.flatMap_append];simp;rfl
theorem zux {s:ByteArray} {k:Nat}:((s.data.toList.take k).flatMap zb1).length≤(s.data.toList.flatMap zb1).length:=by
 conv=>rhs;rw[←List.take_append_drop k s.data.toList,List.flatMap_append,List.length_append]
 omega
theorem ygf:∀(n:Nat) (h:n<16),(⟨#[48,49,50,51,52,53,54,55,56,57,65,66,67,68,69,70]⟩:ByteArray)[n]'h=yan n:=by
 intro n h;have:∀m:Fin 16,(⟨#[48,49,50,51,52,53,54,55,56,57,65,66,67,68,69,70]⟩:ByteArray)[m.val]'m.isLt=yan m.val:=by decide
 exact this ⟨n,h⟩
theorem zxf (B b:Nat) (l:List UInt8) (n:Nat) (hn:n<16) (w:World) (h:Buf B b l w) (hl:l.length+1≤zfx):Calls Tryz.prog 89 #[.pointer (some ⟨b,0,none⟩),.int .u8 ((⟨#[48,49,50,51,52,53,54,55,56,57,65,66,67,68,69,70]⟩:ByteArray)[n]'hn).toNat] w fun e w'=>e = .returned .nilIface∧Put B b l [yan n] w e w':=by
 rw[ygf n hn];exact zb5 B b l _ w h hl
set_option maxRecDepth 100000 in
set_option maxHeartbeats 8000000 in
theorem zxg (B b:Nat) (l:List UInt8) (s:ByteArray) (w:World) (hs:s.size≤140737488351232) (h:Buf B b l w) (hl:l.length+(zcw s).length≤zfx):Calls Tryz.prog 95 #[.pointer (some ⟨b,0,none⟩),.string s] w (zl4 B b l (zcw s) w):=by
 have hq:(zcw s).length=(s.data.toList.flatMap zb1).length+2:=by simp[zcw]
 have HL:=hX hl;have HQ:=hX hq;have H1:=hX (zb5 B b l 34 w h (by omega));clear h hl hq;go_enter Tryz.func95,Tryz.ntmps95;go_wp2_with fail;refine H1.out.mono ?_;rintro e w1 ⟨rfl,hb,hw⟩;have HB:=hX hb;have HW:=hX hw;clear hb hw H1;go_wp2_with fail;go_loopw [10] (fun i wr=>∃k:Nat,k≤s.size∧i = .int .i64 k∧Hid (Buf B b (l++34::(s.data.toList.take k).flatMap zb1) wr)∧Hid (Wr B (fun g=>g=b) w wr)) (fun i _=>s.size - (intOf i).toNat);case atStart=>exact ⟨0,by omega,rfl,HB,HW⟩
 case round=>
  clear HB HW;obtain ⟨k,hk,rfl,HB,HW⟩:=hrel;by_cases hlt:k<s.size
  ·have hlt2:(k:Int)<(s.size:Int):=by omega
   have HS:=hX (zmv hlt)
   have HLE:Hid (l.length+(34::((s.data.toList.take k).flatMap zb1++zb1 s[k])).length≤zfx):=hX (by
    have:=zux (s:=s) (k:=k+1);rw[zmv hlt] at this;have h1:=HL.out;have h2:=HQ.out;simp only[List.length_cons] at *
    omega)
   generalize hc:s[k]=c at *;have hcl:=c.toNat_lt
   have HX:Hid ((l++34::(s.data.toList.take k).flatMap zb1).length+(zb1 c).length≤zfx):=hX (by
    have:=HLE.out;simp only[List.length_append,List.length_cons] at *
    omega)
   have HNX:Hid (∀W,Buf B b (l++34::(s.data.toList.take k).flatMap zb1++zb1 c) W→Buf B b (l++34::(s.data.toList.take (k+1)).flatMap zb1) W):=hX (fun W hW=>by rw[HS.out];simpa [List.append_assoc] using hW);clear HLE HS;generalize l++34::(s.data.toList.take k).flatMap zb1=L at *;by_cases h1:c.toNat=34∨c.toNat=92
   ·have hq:zb1 c=[92,c]:=by
     unfold zb1;rw[if_pos];rcases h1 with h1 | h1
     ·exact .inl (UInt8.toNat_inj.1 (by rw[h1];rfl))
     ·exact .inr (UInt8.toNat_inj.1 (by rw[h1];rfl))
    rw[hq] at HX HNX;have HXL:=HX.out;simp only[List.length_cons,List.length_nil] at HXL;have HP:=hX (fun W (hW:Buf B b L W)=>zb5 B b L 92 W hW (by omega));have HP2:=hX (fun W (hW:Buf B b (L++[92]) W)=>zb5 B b (L++[92]) c W hW (by simp;omega));clear hq HX HXL;by_cases h34:c.toNat=34
    ·have d1:((c.toNat:Int) == 34)=true:=by rw[h34];rfl
     clear h1 h34;go_wp2_with fail;refine (HP.out _ HB.out).mono ?_;rintro e w2 ⟨rfl,hb,hw⟩;have HB2:=hX hb;have HW2:=hX (HW.out.trans hw);clear hb hw;go_wp2_with fail;refine (HP2.out _ HB2.out).mono ?_;rintro e w3 ⟨rfl,hb,hw⟩;have HB3:=hX (HNX.out _ (by simpa using hb));have HW3:=hX (HW2.out.trans hw);clear hb hw;go_wp2_with fail;go_roundw;case rel=>exact ⟨k+1,by omega,by go_num,HB3,HW3⟩
     case measure=>simp[intOf];omega
    ·have d1:((c.toNat:Int) == 34)=false:=by rw[beq_eq_false_iff_ne];omega
     have d2:((c.toNat:Int) == 92)=true:=by rw[beq_iff_eq];omega
     clear h1 h34;go_wp2_with fail;refine (HP.out _ HB.out).mono ?_;rintro e w2 ⟨rfl,hb,hw⟩;have HB2:=hX hb;have HW2:=hX (HW.out.trans hw);clear hb hw;go_wp2_with fail;refine (HP2.out _ HB2.out).mono ?_;rintro e w3 ⟨rfl,hb,hw⟩;have HB3:=hX (HNX.out _ (by simpa using hb));have HW3:=hX (HW2.out.trans hw);clear hb hw;go_wp2_with fail;go_roundw;case rel=>exact ⟨k+1,by omega,by go_num,HB3,HW3⟩
     case measure=>simp[intOf];omega
   ·have d1:((c.toNat:Int) == 34)=false:=by rw[beq_eq_false_iff_ne];omega
    have d2:((c.toNat:Int) == 92)=false:=by rw[beq_eq_false_iff_ne];omega
    have hn:¬(c=34∨c=92):=(by rintro (rfl | rfl) <;> exact h1 (by decide))
    by_cases h2:c.toNat<32∨127≤c.toNat
    ·have hq:zb1 c=[92,120]++[yan (c.toNat / 16)]++[yan (c.toNat % 16)]:=by unfold zb1;rw[if_neg hn,if_pos h2];rfl
     rw[hq] at HX HNX;have HXL:=HX.out;simp only[List.length_cons,List.length_nil,List.length_append] at HXL;have HP:=hX (fun W (hW:Buf B b L W)=>zea B b L ⟨#[92,120]⟩ W hW (by show L.length+2≤zfx;omega));have HP2:=hX (fun W (hW:Buf B b (L++[92,120]) W)=>zxf B b (L++[92,120]) (c.toNat / 16) (by omega) W hW (by simp;omega));have HP3:=hX (fun W (hW:Buf B b (L++[92,120]++[yan (c.toNat / 16)]) W)=>zxf B b (L++[92,120]++[yan (c.toNat / 16)]) (c.toNat % 16) (by omega) W hW (by simp;omega));clear hq HX HXL h1 hn
     have d34:(decide ((c.toNat:Int)<32)=true)∨(decide ((c.toNat:Int)<32)=false∧decide (127≤(c.toNat:Int))=true):=by
      by_cases h3:c.toNat<32
      ·exact .inl (decide_eq_true (by omega))
      ·exact .inr ⟨decide_eq_false (by omega),decide_eq_true (by omega)⟩
     clear h2
     rcases d34 with d3 | ⟨d3,d4⟩
     all_goals
      go_wp2_with fail;refine (HP.out _ HB.out).mono ?_;rintro e w2 ⟨rfl,hb,hw⟩;have HB2:=hX hb;have HW2:=hX (HW.out.trans hw);clear hb hw;go_wp2_with fail;refine (HP2.out _ HB2.out).mono ?_;rintro e w3 ⟨rfl,hb,hw⟩;have HB3:=hX hb;have HW3:=hX (HW2.out.trans hw);clear hb hw;go_wp2_with fail;refine (HP3.out _ HB3.out).mono ?_;rintro e w4 ⟨rfl,hb,hw⟩;have HB4:=hX (HNX.out _ (by simpa using hb));have HW4:=hX (HW3.out.trans hw);clear hb hw;go_wp2_with fail;go_roundw;case rel=>exact ⟨k+1,by omega,by go_num,HB4,HW4⟩
      case measure=>simp[intOf];omega
    ·have hq:zb1 c=[c]:=by unfold zb1;rw[if_neg hn,if_neg h2]
     rw[hq] at HX HNX;have HXL:=HX.out;simp only[List.length_cons,List.length_nil] at HXL;have HP:=hX (fun W (hW:Buf B b L W)=>zb5 B b L c W hW (by omega));have d3:decide ((c.toNat:Int)<32)=false:=decide_eq_false (by omega);have d4:decide (127≤(c.toNat:Int))=false:=decide_eq_false (by omega);clear hq HX HXL h1 h2 hn;go_wp2_with fail;refine (HP.out _ HB.out).mono ?_;rintro e w2 ⟨rfl,hb,hw⟩;have HB2:=hX (HNX.out _ hb);have HW2:=hX (HW.out.trans hw);clear hb hw;go_wp2_with fail;go_roundw;case rel=>exact ⟨k+1,by omega,by go_num,HB2,HW2⟩
     case measure=>simp[intOf];omega
  ·obtain rfl:k=s.size:=by omega
   have HB1:Hid (Buf B b (l++34::s.data.toList.flatMap zb1) wr):=hX (by
    have:=HB.out
    rwa [List.take_of_length_le (by simp)] at this)
   have HP:=hX (zb5 B b _ 34 wr HB1.out (by
    have h1:=HL.out;have h2:=HQ.out;simp only[List.length_append,List.length_cons]
    omega))
   clear HB HB1;go_wp2_with fail;refine HP.out.mono ?_;rintro e w2 ⟨rfl,hb,hw⟩;have HB2:Hid (Buf B b (l++zcw s) w2):=hX (by simpa [zcw] using hb);have HW2:=hX (HW.out.trans hw);clear hb hw;go_wp2_with fail;go_end0;exact ⟨rfl,HB2.out,HW2.out⟩
end Go.Proofs.YtplkbdncgkgppaaGreatDoor.Qry
end
