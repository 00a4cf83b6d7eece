/- Lemmas that the last text leans on. -/
import Derived.Test.YtplkbdncgkgppaaGreatDoorTake
import Derived.Test.YtplkbdncgkgppaaGreatDoorChecked
import Derived.Test.YtplkbdncgkgppaaGreatDoorPack4
import Derived.Test.YtplkbdncgkgppaaGreatDoorPack6
import Derived.Lib.TrimUEq
import Derived.Lib.MapLaws
import Derived.Lib.SmallJoins
import Derived.Lib.LaidTab
import Derived.Deep.Light
import Derived.Shelf.GgClosure.StringsIndexFunc
import Derived.Outline
import Derived.WalkLawsBesides
import Derived.BigQuiet
import Derived.Deep.QuietTactic
import Derived.RegionTactic
import Derived.Deep.CutBlock
import Derived.Lib.AppendIntMem
import Derived.Test.YtplkbdncgkgppaaGreatDoorPack5
import Derived.Test.YtplkbdncgkgppaaGreatDoorPack2
import Derived.LoopTactic
import Derived.Lib.ItoaLen
import Derived.RangeFuncBox
import Derived.RangeFuncFrom
set_option linter.all false
section
namespace OrdP
open Go.Lib Go
end OrdP
namespace Go.Proofs.YtplkbdncgkgppaaGreatDoor.OrdLib
open Go.RowKit Go.Lib OrdP Kit OrdRef
def BoolB (b:Bool) (w:World) (e:Ending) (w':World):Prop:=e = .returned (.bool b)∧Below w.heap.size w w'
def StrB (l:List UInt8) (w:World) (e:Ending) (w':World):Prop:=e = .returned (.string (str l))∧Below w.heap.size w w'
end Go.Proofs.YtplkbdncgkgppaaGreatDoor.OrdLib
end
section
namespace Go.Proofs.YtplkbdncgkgppaaGreatDoor.OrdLib
open Go.RowKit Go.Lib OrdP Kit OrdRef
end Go.Proofs.YtplkbdncgkgppaaGreatDoor.OrdLib
end
section
namespace OrdP
open Go.Lib Go
end OrdP
namespace Go.Proofs.YtplkbdncgkgppaaGreatDoor.OrdLib
open Go.RowKit Go.Lib OrdP Kit OrdRef
theorem zsu (n:Int) (h0 : -9223372036854775808≤n) (h1:n≤9223372036854775807) (z:ByteArray) (hz:z=str (itoa n)) (w:World) (hT:Lib.TabIs Tryz.prog w "internal/strconv.uint64pow10" .u64 Lib.pow10Tab) :
 Calls Tryz.prog 125 #[.int .i64 n,.int .i64 10] w (fun e w'=>e = .returned (.string z)∧Below w.heap.size w w'):=by
 subst hz
 refine (Tryz.strconv_FormatInt_10 n h0 h1 w hT).mono fun e w' ⟨he,k,os,hw⟩=>⟨he,?_⟩
 subst hw;exact below_grow _ _ (Nat.le_refl _) _ _
end Go.Proofs.YtplkbdncgkgppaaGreatDoor.OrdLib
end
section
namespace Go.Proofs.YtplkbdncgkgppaaGreatDoor.Qry
open Go.RowKit Words Tree QryP Kit
def Buf (B b:Nat) (l:List UInt8) (w:World):Prop:=Lib.IsBuilderF 110 5 B b (Lib.byteCells l) w
structure Wr (B:Nat) (S:Nat→Prop) (w w':World):Prop where
 below:Below B w w'
 kept:∀g o,w.heap[g]?=some o→¬S g→(∀c fz,o≠.cells c 5 fz)→w'.heap[g]?=some o
section
variable {B b:Nat} {S S':Nat→Prop} {w w' w'':World}
theorem Wr.refl (B:Nat) (S:Nat→Prop) (w:World):Wr B S w w:=⟨Below.refl _ _,fun _ _ h _ _=>h⟩
theorem Wr.trans (h:Wr B S w w') (k:Wr B S w' w''):Wr B S w w'':=⟨h.below.trans k.below,fun g o h1 h2 h3=>k.kept g o (h.kept g o h1 h2 h3) h2 h3⟩
theorem Wr.mono (h:Wr B S w w') (hS:∀g,S g→S' g):Wr B S' w w':=⟨h.below,fun g o h1 h2 h3=>h.kept g o h1 (fun x=>h2 (hS g x)) h3⟩
theorem Wr.of (h:Below B w w') (k:Lib.OthersKept 5 (some b) w w'):Wr B (fun g=>g=b) w w':=⟨h,fun g o h1 h2 h3=>k g o h1 (fun e=>h2 (Option.some.inj e)) h3⟩
theorem Wr.alloc (h:Wr B S w w') (hB:B≤w'.heap.size) (o:Obj):Wr B S w (w'.alloc o):=⟨h.below.alloc hB o,fun g x h1 h2 h3=>by
 have:=h.kept g x h1 h2 h3
 exact (Lib.alloc_old w' o g (Array.getElem?_eq_some_iff.1 this).1).trans this⟩
theorem Wr.same (h:Below w.heap.size w w') (hB:B≤w.heap.size):Wr B S w w':=⟨h.mono hB,fun g x h1 _ _=>(h.block g (Array.getElem?_eq_some_iff.1 h1).1).trans h1⟩
theorem Wr.set (h:Wr B S w w') {p:Addr} (hp:S p.block) (hB:B≤p.block) (v:Value):Wr B S w (w'.setCell p v):=⟨h.below.setCell hB v,fun g x h1 h2 h3=>(Below.heap_setCell _ _ _ _ (by rintro rfl;exact h2 hp)).trans (h.kept g x h1 h2 h3)⟩
theorem Wr.blk {g:Nat} {t:TypeId} {cs:Array Value} (h:Wr B S w w') (hb:Blk w g t cs) (hS:¬S g) (ht:t≠5):Blk w' g t cs:=h.kept g _ hb hS (fun c fz e=>by injection e with _ e;exact ht e)
theorem Buf.ge {l:List UInt8} (h:Buf B b l w):B≤b:=h.elim (fun x=>x.1) (fun x=>x.1)
theorem Buf.keep {l:List UInt8} (h:Buf B b l w) (hb:Below w.heap.size w w'):Buf B b l w':=by
 have key:∀p,Lib.BuilderAtF 110 5 B b p (Lib.byteCells l) w→Lib.BuilderAtF 110 5 B b p (Lib.byteCells l) w':=(by rintro p ⟨h1,v,h2,h3,h4⟩;refine ⟨h1,v,(hb.block b (Array.getElem?_eq_some_iff.1 h2).1).trans h2,⟨h3.1,h3.2.elim .inl fun ⟨g,cap,cur,fz,hv,g1,g2,g3⟩=>.inr ⟨g,cap,cur,fz,hv,g1,(hb.block g (Array.getElem?_eq_some_iff.1 g2).1).trans g2,g3⟩⟩,h4⟩)
 exact h.elim (fun x=>.inl (key _ x)) (fun x=>.inr (key _ x))
theorem Buf.set {l:List UInt8} (h:Buf B b l w) {p:Addr} {t:TypeId} {cs:Array Value} (hp:Blk w p.block t cs) (ht:t≠5) (hb:p.block≠b) (v:Value):Buf B b l (w.setCell p v):=by
 have key:∀q,Lib.BuilderAtF 110 5 B b q (Lib.byteCells l) w→Lib.BuilderAtF 110 5 B b q (Lib.byteCells l) (w.setCell p v):=(by rintro q ⟨h1,x,h2,h3,h4⟩;refine ⟨h1,x,(Below.heap_setCell _ _ _ _ (Ne.symm hb)).trans h2,⟨h3.1,h3.2.elim .inl fun ⟨g,cap,cur,fz,hv,g1,g2,g3⟩=>.inr ⟨g,cap,cur,fz,hv,g1,(Below.heap_setCell _ _ _ _ ?_).trans g2,g3⟩⟩,h4⟩;rintro rfl;have hp':w.heap[p.block]?=some (.cells cs t (0,0)):=hp;rw[hp'] at g2;injection g2 with g2;injection g2 with _ g2;exact ht g2)
 exact h.elim (fun x=>.inl (key _ x)) (fun x=>.inr (key _ x))
theorem Buf.size {l:List UInt8} (h:Buf B b l w):b<w.heap.size:=by
 rcases h with ⟨_,v,h2,_⟩ | ⟨_,v,h2,_⟩ <;> exact (Array.getElem?_eq_some_iff.1 h2).1
end
def Put (B b:Nat) (l x:List UInt8) (w:World) (e:Ending) (w':World):Prop:=Buf B b (l++x) w'∧Wr B (fun g=>g=b) w w'
def zk5 (B b:Nat) (l x:List UInt8) (w:World) (e:Ending) (w':World):Prop:=e = .returned (.tuple #[])∧Put B b l x w e w'
def ze0:Nat:=140737488355328
theorem zsv (l:List UInt8) (c:UInt8):Lib.byteCells l++[.int .u8 c.toNat]=Lib.byteCells (l++[c]):=by simp[Lib.byteCells]
theorem zbz (B b:Nat) (l:List UInt8) (c:UInt8) (w:World) (h:Buf B b l w) (hl:l.length+1≤ze0):Calls Tryz.prog 89 #[.pointer (some ⟨b,0,none⟩),.int .u8 c.toNat] w fun e w'=>e = .returned .nilIface∧Put B b l [c] w e w':=
 (SBuilder.zmg B b _ c.toNat w h (by simpa [Lib.byteCells,ze0] using hl) (by have:=h.ge;have:=h.size;omega)).mono fun e w' ⟨h1,h2,h3,h4⟩=>⟨h1,by rw[zsv] at h2;exact .inr h2,Wr.of h3 h4⟩
theorem zdk (B b:Nat) (l:List UInt8) (s:ByteArray) (w:World) (h:Buf B b l w) (hl:l.length+s.size≤ze0):Calls Tryz.prog 86 #[.pointer (some ⟨b,0,none⟩),.string s] w fun e w'=>e = .returned (.tuple #[.int .i64 s.size,.nilIface])∧Put B b l s.data.toList w e w':=
 (SBuilder.zdp B b _ s w h (by simpa [Lib.byteCells,ze0] using hl) (by have:=h.ge;have:=h.size;omega)).mono fun e w' ⟨h1,h2,h3,h4⟩=>⟨h1,by
   have:Lib.byteCells l++Lib.strCells s=Lib.byteCells (l++s.data.toList):=by simp[Lib.byteCells,Lib.strCells]
   rw[this] at h2;exact .inr h2,Wr.of h3 h4⟩
end Go.Proofs.YtplkbdncgkgppaaGreatDoor.Qry
end
section
namespace Go.Proofs.YtplkbdncgkgppaaGreatDoor.Qry
open Go.RowKit Words Tree QryP Kit
abbrev zan (n:Int):List UInt8:=Lib.itoa n
theorem zj1 (sep:List UInt8):∀a b:List (List UInt8),(zbq sep a).length≤(zbq sep (a++b)).length
 | [],b=>Nat.zero_le _
 | [x],[]=>Nat.le_refl _
 | [x],y::b=>by simp[zbq]
 | x::y::a,b=>by have:=zj1 sep (y::a) b;simp only[List.cons_append,zbq,List.length_append] at *;omega
theorem zu3 {l:List Int} {k:Nat} (h:k<l.length):zce zan (l.take (k+1))=(if k=0 then zan l[k] else zce zan (l.take k)++[32]++zan l[k]):=by
 unfold zce;rw[List.take_succ_eq_append_getElem h,List.map_append,List.map_cons,List.map_nil,zh5];by_cases hk:k=0
 ·subst hk;rfl
 ·rw[if_neg hk,if_neg];intro e;have:=congrArg List.length e;rw[List.length_map,List.length_take] at this;simp only[List.length_nil] at this;omega
theorem ybh {l:List Int} {k:Nat}:(zce zan (l.take k)).length≤(zce zan l).length:=by
 unfold zce;conv=>rhs;rw[←List.take_append_drop k l,List.map_append]
 exact zj1 _ _ _
theorem zrw (z:Int) (h:I64 z) (w:World) (hT:Lib.TabIs Tryz.prog w "internal/strconv.uint64pow10" .u64 Lib.pow10Tab) :
 Calls Tryz.prog 125 #[.int .i64 z,.int .i64 10] w (fun e w'=>e = .returned (.string (str (zan z)))∧Below w.heap.size w w'):=OrdLib.zsu z h.1 h.2 _ rfl w hT
set_option maxRecDepth 100000 in
set_option maxHeartbeats 8000000 in
theorem zp2 (B b D:Nat) (l0:List UInt8) (A:Option Addr) (c:Nat) (l:List Int) (w:World) (hR:∀W,Wr B (fun g=>g=b) w W→Reads W D 1 A l.length (l.map (Value.int .i64))) (hl:l.length*8≤140737488351232) (hI:∀z∈l,I64 z) (h:Buf B b l0 w) (hm:l0.length+(zce zan l).length≤ze0)
 (hP:∀W,Wr B (fun g=>g=b) w W→Lib.TabIs Tryz.prog W "internal/strconv.uint64pow10" .u64 Lib.pow10Tab) :
 Calls Tryz.prog 91 #[.pointer (some ⟨b,0,none⟩),.slice A l.length c] w (zk5 B b l0 (zce zan l) w):=by
 have HR:=hX hR;have HI:=hX hI;have HP:=hX hP;have HM:=hX hm;have H0:Hid (Buf B b (l0++zce zan (l.take 0)) w):=hX (by simpa [zce,zbq] using h);have HBw:=hX (And.intro h.ge h.size);clear hR hI hP hm h;go_enter Tryz.func91,Tryz.ntmps91;go_wp2_with fail;go_loopw [8] (fun i wr=>∃k:Nat,k≤l.length∧i = .int .i64 k∧Hid (Buf B b (l0++zce zan (l.take k)) wr)∧Hid (Wr B (fun g=>g=b) w wr)) (fun i _=>l.length - (intOf i).toNat);case atStart=>exact ⟨0,by omega,rfl,H0,hX (Wr.refl _ _ _)⟩
 case round=>
  obtain ⟨k,hk,rfl,HB,HW⟩:=hrel;by_cases hlt:k<l.length
  ·have hlt2:(k:Int)<(l.length:Int):=by omega
   obtain ⟨ad,u,rfl,hbl,hu,hce⟩:=(HR.out _ HW.out).at_ hlt
   obtain rfl:u = .int .i64 l[k]:=(by rw[List.getElem?_map,List.getElem?_eq_getElem hlt] at hu;exact (Option.some.inj hu).symm)
   have hz:=HI.out l[k] (List.getElem_mem _);have HS:=hX (zu3 hlt);have HLE:Hid ((zce zan (l.take (k+1))).length≤(zce zan l).length):=hX ybh;clear hu hbl;generalize l[k]=z at *;have HF:=hX (fun W hW=>zrw z hz W (HP.out W hW));clear hz;by_cases hk0:k=0
   ·subst hk0;have e0:ad.add 0=ad:=by unfold Addr.add;split <;> simp_all
    rw[e0] at hce;clear e0
    have HX:=hX (fun (W:World) (hW:Buf B b (l0++zce zan (l.take 0)) W)=>zdk B b _ (str (zan z)) W hW (by
     have h1:=HM.out;have h2:=HLE.out;have h3:=HS.out;rw[if_pos rfl] at h3;rw[h3] at h2;show (l0++zce zan (l.take 0)).length+(zan z).length≤ze0;simp only[List.take_zero,zce,List.map_nil,zbq,List.append_nil] at *
     omega))
    go_wp2_with fail;refine (HF.out _ HW.out).mono ?_;rintro e w2 ⟨rfl,hb⟩;have HB2:=hX (HB.out.keep hb);have HW2:=hX (HW.out.trans (Wr.same hb (by have h1:=HBw.out;have h2:=HW.out.below.size;omega)));clear hb hce;go_wp2_with fail;refine (HX.out _ HB2.out).mono ?_;rintro e w3 ⟨rfl,hb,hw⟩
    have HB3:Hid (Buf B b (l0++zce zan (l.take (0+1))) w3):=hX (by
     have hb':Buf B b (l0++zce zan (l.take 0)++zan z) w3:=hb;rw[HS.out]
     simpa [zce,zbq] using hb')
    have HW3:=hX (HW2.out.trans hw);clear hb hw;go_wp2_with fail;go_roundw;case rel=>exact ⟨1,by omega,by go_num,HB3,HW3⟩
    case measure=>simp[intOf];omega
   ·have hkp:(0:Int)<(k:Int):=by omega
    have HXL:Hid ((l0++zce zan (l.take k)).length+1+(zan z).length≤ze0):=hX (by
     have h1:=HM.out;have h2:=HLE.out;have h3:=HS.out;rw[if_neg hk0] at h3;rw[h3] at h2;simp only[List.length_append,List.length_cons,List.length_nil] at *
     omega)
    have HP1:=hX (fun (W:World) (hW:Buf B b (l0++zce zan (l.take k)) W)=>zbz B b _ 32 W hW (by have:=HXL.out;omega))
    have HX:=hX (fun (W:World) (hW:Buf B b (l0++zce zan (l.take k)++[32]) W)=>zdk B b _ (str (zan z)) W hW (by
     have:=HXL.out;show _+(zan z).length≤ze0;simp only[List.length_append,List.length_cons,List.length_nil] at *
     omega))
    have HST:Hid (∀W,Buf B b (l0++zce zan (l.take k)++[32]++zan z) W→Buf B b (l0++zce zan (l.take (k+1))) W):=hX (fun W hW=>by
     rw[HS.out,if_neg hk0]
     simpa [List.append_assoc] using hW)
    clear hk0;go_wp2_with fail;refine (HP1.out _ HB.out).mono ?_;rintro e w2 ⟨rfl,hb,hw⟩;have HB2:=hX hb;have HW2:=hX (HW.out.trans hw);clear hb hw hce;go_wp2_with fail;refine (HF.out _ HW2.out).mono ?_;rintro e w3 ⟨rfl,hb⟩;have HB3:=hX (HB2.out.keep hb);have HW3:=hX (HW2.out.trans (Wr.same hb (by have h1:=HBw.out;have h2:=HW2.out.below.size;omega)));clear hb;go_wp2_with fail;refine (HX.out _ HB3.out).mono ?_;rintro e w4 ⟨rfl,hb,hw⟩;have HB4:=hX (HST.out _ hb);have HW4:=hX (HW3.out.trans hw);clear hb hw;go_wp2_with fail;go_roundw;case rel=>exact ⟨k+1,by omega,by go_num,HB4,HW4⟩
    case measure=>simp[intOf];omega
  ·obtain rfl:k=l.length:=by omega
   have HB1:Hid (Buf B b (l0++zce zan l) wr):=hX (by
    have:=HB.out
    rwa [List.take_length] at this)
   clear HB;go_wp2_with fail;go_end0;exact ⟨rfl,HB1.out,HW.out⟩
end Go.Proofs.YtplkbdncgkgppaaGreatDoor.Qry
end
section
namespace Go.Proofs.YtplkbdncgkgppaaGreatDoor.Qry
open Go.RowKit Words Tree QryP Kit
theorem znu (k:IntKind):∀l:List Int,T.bulkL (l.map fun z=>T.lit (.int k z))=l.length
 | []=>by simp[T.bulkL]
 | z::l=>by rw[List.map_cons,T.bulkL,znu k l,T.bulk,List.length_cons];omega;intro s h;cases h
theorem zlk (k o:Int) (f t u:ByteArray) (lo hi:List Int) (b p:Int) (ks:List QT):T.bulkL (cells (.mk k o f t u lo hi b p ks))=f.size+t.size+u.size+lo.length+hi.length+T.bulkL (zaw ks)+10:=by
 rw[cells];simp only[T.bulkL,zc8,T.bulk,znu];omega
theorem znv (s:ByteArray):(zcf s).length≤4*s.size+2:=by
 have h:∀l:List UInt8,(l.flatMap zbs).length≤4*l.length:=by
  intro l
  induction l with
  | nil=>simp
  | cons c l ih=>
   have:(zbs c).length≤4:=by unfold zbs;split;simp;split <;> simp
   rw[List.flatMap_cons,List.length_append,List.length_cons];omega
 have:=h s.data.toList;have h2:s.data.toList.length=s.size:=by simp
 unfold zcf;simp only[List.length_cons,List.length_append,List.length_nil];omega
theorem zmh (sep:List UInt8) (hs:sep.length≤2):∀l:List (List UInt8),(zbq sep l).length≤(l.map fun x=>x.length+2).sum
 | []=>by simp[zbq]
 | [a]=>by simp[zbq]
 | a::b::l=>by have:=zmh sep hs (b::l);rw[zbq,List.map_cons,List.sum_cons,List.length_append,List.length_append];omega
theorem zrx {l:List Int} (h:∀z∈l,I64 z):(zce zan l).length≤23*l.length:=by
 unfold zce;refine Nat.le_trans (zmh [32] (by decide) _) ?_
 induction l with
 | nil=>simp
 | cons z l ih=>
  have h1:=Lib.itoa_length_le z (h z (by simp)).1 (h z (by simp)).2;have h2:=ih fun y hy=>h y (List.mem_cons_of_mem _ hy);simp only[List.map_cons,List.sum_cons,List.length_cons];show (Lib.itoa z).length+2+_≤_;omega
theorem zyl (k:Int):(wordF k).length≤6:=by unfold wordF;split <;> decide
theorem ydi (k:Int):(opF k).length≤3:=by unfold opF;split <;> decide
theorem zym (k:Int):(markF k).length≤1:=by unfold markF;split <;> decide
theorem zsw {k o:Int} {f t u:ByteArray} {lo hi:List Int} {b p:Int} {ks:List QT} (hlo:∀z∈lo,I64 z) (hhi:∀z∈hi,I64 z) (hb:I64 b) :
 ((zgv zan (.mk k o f t u lo hi b p ks)).map fun x=>x.length+2).sum≤f.size+4*t.size+4*u.size+23*lo.length+23*hi.length+40:=by
 have h1:=znv t;have h2:=znv u;have h3:=zrx hlo;have h4:=zrx hhi;have h5:=Lib.itoa_length_le b hb.1 hb.2;have h6:=ydi p;have hf:f.data.toList.length=f.size:=by simp
 unfold zgv;split
 ·simp only[List.map_cons,List.map_nil,List.sum_cons,List.sum_nil,QryP.fd,QryP.tx];omega
 ·split
  ·simp only[List.map_cons,List.map_nil,List.sum_cons,List.sum_nil,QryP.fd,QryP.tx,QryP.up];omega
  ·split
   ·simp only[List.map_cons,List.map_nil,List.sum_cons,List.sum_nil,QryP.fd,QryP.lo,QryP.hi];omega
   ·split
    ·simp only[List.map_cons,List.map_nil,List.sum_cons,List.sum_nil,QryP.bo];show (Lib.itoa b).length+2+0≤_;omega
    ·split
     ·simp only[List.map_cons,List.map_nil,List.sum_cons,List.sum_nil,QryP.fd,QryP.lo,QryP.op];omega
     ·simp
mutual
theorem znw:∀{q:QT},Ok q→(zbp zan q).length+3≤23*T.bulkL (cells q)
 | .mk k o f t u lo hi b p ks,h=>by
  cases h with
  | mk _ _ _ _ _ h1 h2 h3 _ _ h4=>
   rw[zlk];have hw:=zyl k;have hl:=zj2 h4;rw[zbp];split
   ·omega
   ·have hp:=zsw (k:=k) (o:=o) (f:=f) (t:=t) (u:=u) (p:=p) (ks:=ks) h1.2 h2.2 h3;have hj:=zmh [44,32] (by decide) (zgv zan (.mk k o f t u lo hi b p ks)++zbj zan ks);rw[List.map_append,List.sum_append] at hj;simp only[List.length_append,List.length_cons,List.length_nil];omega
theorem zj2:∀{ks:List QT},(∀q∈ks,Ok q)→((zbj zan ks).map fun x=>x.length+2).sum≤23*T.bulkL (zaw ks)
 | [],h=>by simp[zbj]
 | q::ks,h=>by have h1:=znw (h q (by simp));have h2:=zj2 (ks:=ks) fun x hx=>h x (List.mem_cons_of_mem _ hx);have h3:=zym (QryP.oc q);rw[zbj,zaw,zcc,List.map_cons,List.sum_cons,List.length_append];omega
end
end Go.Proofs.YtplkbdncgkgppaaGreatDoor.Qry
end
section
namespace Go.Proofs.YtplkbdncgkgppaaGreatDoor.Tree
open Go.RowKit Go.WideShapes Go.ChangeShapes Words Owned
def zh8 (k:IntKind) (l:List Int):T:=.arr 1 l.length (l.map fun z=>.lit (.int k z))
def ybi {X:Type} (s:Nat) (f:X→List T) (xs:List X):T:=.arr s xs.length (xs.flatMap f)
section
variable {sent:Nat→List (List Value)} {w:World} {S:Nat→Prop} {X:Type} {f:X→List T} {s:Nat}
theorem zmi {B:Nat} {k:IntKind} {l:List Int} {v:Value} (h:T.At sent w (fun g=>g<B) (zh8 k l) v):∃A cap,v = .slice A l.length cap∧l.length≤cap∧cap≤maxLen∧Reads w B 1 A l.length (l.map (Value.int k)):=by
 obtain ⟨A,cap,vs,hv,h1,h2,h3,h4⟩:=At.reads h;obtain rfl:=AtL.lits h4;exact ⟨A,cap,hv,h1,h2,h3⟩
theorem zbg {n:Nat} {xs:List T} {v:Value} (h:T.At sent w S (.arr s n xs) v):∃A cap,v = .slice A n cap∧n+(sent s).length≤cap∧cap≤maxLen:=by
 simp only[T.At] at h;obtain ⟨A,cap,_,hv,h1,h2,_⟩:=h;exact ⟨A,cap,hv,h1,h2⟩
theorem zry (hf:∀x,(f x).length=s) {xs:List X} {v:Value} (h:T.At sent w S (ybi s f xs) v) :
 ∃A cap,v = .slice A xs.length cap∧xs.length+(sent s).length≤cap∧cap≤maxLen∧∀(i:Nat) (hi:i<xs.length),∃ad us,A=some ad∧S ad.block∧T.AtL sent w S (f xs[i]) us∧us.length=s∧zbv w (ad.add (i*s)) us:=by
 simp only[ybi,T.At] at h;obtain ⟨A,cap,vs,hv,hc,hm,hl,ha,hx⟩:=h;refine ⟨A,cap,hv,hc,hm,fun i hi=>?_⟩;obtain ⟨ad,e,hs,hcs⟩:=ha (by omega);obtain ⟨us,hul,hus,hj⟩:=AtL.elem hf hx i hi;exact ⟨ad,us,e,hs,hus,hul,(hcs.left).elem hj hul⟩
end
section
variable {P:Program}
theorem zp3 {α:Type} {f:α→List T} {C:α→Prop}:∀{rows:List (List T)},(∀r∈rows,∃a,r=f a∧C a)→∃l:List α,rows=l.map f∧∀a∈l,C a
 | [],_=>⟨[],rfl,by simp⟩
 | r::rows,h=>by obtain ⟨a,rfl,ha⟩:=h r (by simp);obtain ⟨l,rfl,hl⟩:=zp3 (rows:=rows) fun r hr=>h r (List.mem_cons_of_mem _ hr);exact ⟨a::l,rfl,by simpa using ⟨ha,hl⟩⟩
theorem znx {k:IntKind}:∀l:List Int,l.flatMap (fun z=>[T.lit (.int k z)])=l.map fun z=>T.lit (.int k z)
 | []=>rfl
 | z::l=>by rw[List.flatMap_cons,List.map_cons,znx l];rfl
theorem ybj {t e:TypeId} {k:IntKind} {ts:List T} (h:Typed P t ts) (ht:P.underlying t=some (.slice e)) (he:P.underlying e=some (.int k)) (hc:P.cellsOf e=1) :
 ∃l:List Int,ts=[zh8 k l]∧l.length*P.bytesOf e≤140737488351232∧∀z∈l,(Lit.int k z).wf=true:=by
 obtain ⟨rows,rfl,hr,_,hb,_⟩:=h.slice_inv ht
 obtain ⟨l,rfl,hl⟩:=zp3 (f:=fun z=>[T.lit (.int k z)]) (C:=fun z=>(Lit.int k z).wf=true) (fun r hr'=>by
  obtain ⟨n,h1,h2⟩:=(hr r hr').int_inv he
  exact ⟨n,h1,h2⟩)
 refine ⟨l,?_,by simpa using hb,hl⟩;rw[hc,List.length_map,zh8];congr 2
 rw[←List.flatMap_def];exact znx l
theorem ydj {X:Type} {f:X→List T} {C:X→Prop} {t e:TypeId} {ts:List T} (h:Typed P t ts) (ht:P.underlying t=some (.slice e)) (hf:∀r,Typed P e r→∃x,r=f x∧C x) :
 ∃l:List X,ts=[ybi (P.cellsOf e) f l]∧l.length*P.bytesOf e≤140737488351232∧l.length≤maxLen∧∀x∈l,C x:=by
 obtain ⟨rows,rfl,hr,_,hb,hm⟩:=h.slice_inv ht;obtain ⟨l,rfl,hl⟩:=zp3 (f:=f) (C:=C) (fun r hr'=>hf r (hr r hr'));refine ⟨l,?_,by simpa using hb,by simpa using hm,hl⟩;rw[List.length_map,ybi,List.flatMap_def]
end
end Go.Proofs.YtplkbdncgkgppaaGreatDoor.Tree
end
section
namespace Go.Proofs.YtplkbdncgkgppaaGreatDoor.Tree
open Go.RowKit Go.WideShapes Go.ChangeShapes Words Owned
section
variable {sent:Nat→List (List Value)} {X:Type} {f:X→List T} {s:Nat} {et:TypeId} {box:Option Nat} {N:Nat}
theorem zny (w:World) (B:Nat) (e:TypeId) (size:Nat) (hB:B≤w.heap.size):(w.alloc (.cells #[] e)).ownsRow B e size (.slice (some ⟨w.heap.size,0,none⟩) 0 0) 0 []:=
 ⟨by simp,.inr ⟨w.heap.size,0,#[],rfl,hB,heap_alloc_new w _,Nat.le_refl _,by unfold maxLen;omega,by simp,by simp⟩⟩
end
end Go.Proofs.YtplkbdncgkgppaaGreatDoor.Tree
end
section
namespace Go.Proofs.YtplkbdncgkgppaaGreatDoor.Tree
open Go.RowKit Go.WideShapes Go.ChangeShapes Words Owned
structure But (N:Nat→Prop) (w w':World):Prop where
 os:w'.os=w.os
 tape:w'.tape=w.tape
 output:w'.output=w.output
 size:w.heap.size≤w'.heap.size
 block:∀g,g<w.heap.size→¬N g→w'.heap[g]?=w.heap[g]?
section
variable {N N':Nat→Prop} {w w' w'':World}
theorem But.of_below (h:Below w.heap.size w w'):But N w w':=⟨h.os,h.tape,h.output,h.size,fun g hg _=>h.block g hg⟩
theorem But.refl (N:Nat→Prop) (w:World):But N w w:=But.of_below (Below.refl _ _)
theorem But.trans (h:But N w w') (k:But N w' w''):But N w w'':=⟨k.os.trans h.os,k.tape.trans h.tape,k.output.trans h.output,Nat.le_trans h.size k.size,fun g hg hn=>(k.block g (Nat.lt_of_lt_of_le hg h.size) hn).trans (h.block g hg hn)⟩
theorem But.mono (h:But N w w') (hN:∀g,N g→N' g):But N' w w':=⟨h.os,h.tape,h.output,h.size,fun g hg hn=>h.block g hg fun hg'=>hn (hN g hg')⟩
theorem But.below {B:Nat} (h:But N w w') (hB:B≤w.heap.size) (hN:∀g,g<B→¬N g):Below B w w':=⟨h.os,h.tape,h.output,h.size,fun g hg=>h.block g (by omega) (hN g hg)⟩
theorem But.grown {row:Option Nat} (h:w.grownBy w' row) (hr:∀r,row=some r→N r):But N w w':=⟨h.os,h.tape,h.output,h.size,fun g hg hn=>h.block g hg (fun e=>hn (hr g e.symm))⟩
theorem But.alloc (h:But N w w') (o:Obj):But N w (w'.alloc o):=h.trans (But.of_below ((Below.refl _ _).alloc (Nat.le_refl _) _))
theorem But.set (h:But N w w') {p:Addr} (hp:N p.block∨w.heap.size≤p.block) (u:Value):But N w (w'.setCell p u):=
 ⟨h.os,h.tape,h.output,by simpa [World.setCell] using h.size,fun g hg hn=>(Below.heap_setCell w' p u g (by rintro rfl;rcases hp with hp | hp;exact hn hp;omega)).trans (h.block g hg hn)⟩
theorem But.more (h:But N w w') (k:But N' w' w'') (hN:∀g,N' g→N g∨w.heap.size≤g):But N w w'':=
 ⟨k.os.trans h.os,k.tape.trans h.tape,k.output.trans h.output,Nat.le_trans h.size k.size,fun g hg hn=>(k.block g (Nat.lt_of_lt_of_le hg h.size) (fun h'=>(hN g h').elim hn (fun h''=>by omega))).trans (h.block g hg hn)⟩
theorem But.blk {g:Nat} {t:TypeId} {cs:Array Value} (h:But N w w') (hb:Blk w g t cs) (hn:¬N g):Blk w' g t cs:=(h.block g hb.lt hn).trans hb
end
end Go.Proofs.YtplkbdncgkgppaaGreatDoor.Tree
end
section
namespace Go.Proofs.YtplkbdncgkgppaaGreatDoor.Qry
open Go.RowKit Go.WideShapes Go.ChangeShapes Words Tree QryP Owned
def ze1 (w:World) (B:Nat) (v:Value) (l:List Int):Prop:=w.ownsRow B 2 1 v l.length (l.map (Value.int .i64))
mutual
def OQ (w:World) (B:Nat):QT→List Value→List Nat→Prop
 | .mk k o f t u lo hi b op ks,us,bs=>∃(vl vh vk:Value) (xs:List Value) (bk:List Nat),us=[.int .i64 k,.int .i64 o,.string f,.string t,.string u,vl,vh,.int .i64 b,.int .i64 op,vk]∧ze1 w B vl lo∧ze1 w B vh hi∧
  w.ownsRow B 28 10 vk ks.length xs∧OQL w B ks xs bk∧bs=vl.ownBlock.toList++(vh.ownBlock.toList++(vk.ownBlock.toList++bk))
def OQL (w:World) (B:Nat):List QT→List Value→List Nat→Prop
 | [],xs,bs=>xs=[]∧bs=[]
 | q::qs,xs,bs=>∃(us xs':List Value) (b1 b2:List Nat),xs=us++xs'∧bs=b1++b2∧OQ w B q us b1∧OQL w B qs xs' b2
end
section
variable {w w':World} {B B':Nat}
theorem za8 {n m:Nat} {e:TypeId} {v:Value} {xs:List Value} (h:w.ownsRow B e m v n xs) (hk:∀g,v.ownBlock=some g→w'.heap[g]?=w.heap[g]?):w'.ownsRow B e m v n xs:=
 ⟨h.1,h.2.elim .inl fun ⟨g,cap,cur,hv,h1,h2,h3⟩=>.inr ⟨g,cap,cur,hv,h1,(hk g (by rw[hv];rfl)).trans h2,h3⟩⟩
theorem zdr {k m:Nat} {e:TypeId} {v:Value} {ys:List Value} (h:w.ownsRow B e m v k ys) (hB:B'≤B):w.ownsRow B' e m v k ys:=
 ⟨h.1,h.2.elim .inl fun ⟨g,cap,cur,hv,g1,g2,g3⟩=>.inr ⟨g,cap,cur,hv,Nat.le_trans hB g1,g2,g3⟩⟩
theorem zat {v:Value} {g:Nat}:g∈v.ownBlock.toList↔v.ownBlock=some g:=by cases v.ownBlock <;> simp[eq_comm]
mutual
theorem OQ.keep:∀{q:QT} {us:List Value} {bs:List Nat},OQ w B q us bs→(∀g∈bs,w'.heap[g]?=w.heap[g]?)→OQ w' B q us bs
 | .mk k o f t u lo hi b op ks,us,bs,h,hk=>by rw[OQ] at h ⊢;obtain ⟨vl,vh,vk,xs,bk,rfl,h1,h2,h3,h4,rfl⟩:=h;exact ⟨vl,vh,vk,xs,bk,rfl,za8 h1 fun g hg=>hk g (by simp[hg]),za8 h2 fun g hg=>hk g (by simp[hg]),za8 h3 fun g hg=>hk g (by simp[hg]),OQL.keep h4 fun g hg=>hk g (by simp[hg]),rfl⟩
theorem OQL.keep:∀{qs:List QT} {xs:List Value} {bs:List Nat},OQL w B qs xs bs→(∀g∈bs,w'.heap[g]?=w.heap[g]?)→OQL w' B qs xs bs
 | [],xs,bs,h,hk=>by rw[OQL] at h ⊢;exact h
 | q::qs,xs,bs,h,hk=>by rw[OQL] at h ⊢;obtain ⟨us,xs',b1,b2,rfl,rfl,h1,h2⟩:=h;exact ⟨us,xs',b1,b2,rfl,rfl,OQ.keep h1 fun g hg=>hk g (by simp[hg]),OQL.keep h2 fun g hg=>hk g (by simp[hg])⟩
end
mutual
theorem OQ.le (hB:B'≤B):∀{q:QT} {us:List Value} {bs:List Nat},OQ w B q us bs→OQ w B' q us bs
 | .mk k o f t u lo hi b op ks,us,bs,h=>by rw[OQ] at h ⊢;obtain ⟨vl,vh,vk,xs,bk,rfl,h1,h2,h3,h4,rfl⟩:=h;exact ⟨vl,vh,vk,xs,bk,rfl,zdr h1 hB,zdr h2 hB,zdr h3 hB,OQL.le hB h4,rfl⟩
theorem OQL.le (hB:B'≤B):∀{qs:List QT} {xs:List Value} {bs:List Nat},OQL w B qs xs bs→OQL w B' qs xs bs
 | [],xs,bs,h=>by rw[OQL] at h ⊢;exact h
 | q::qs,xs,bs,h=>by rw[OQL] at h ⊢;obtain ⟨us,xs',b1,b2,rfl,rfl,h1,h2⟩:=h;exact ⟨us,xs',b1,b2,rfl,rfl,OQ.le hB h1,OQL.le hB h2⟩
end
mutual
theorem OQ.mem:∀{q:QT} {us:List Value} {bs:List Nat},OQ w B q us bs→∀g∈bs,B≤g∧g<w.heap.size
 | .mk k o f t u lo hi b op ks,us,bs,h,g,hg=>by
  rw[OQ] at h;obtain ⟨vl,vh,vk,xs,bk,rfl,h1,h2,h3,h4,rfl⟩:=h;simp only[List.mem_append,zat] at hg;rcases hg with hg | hg | hg | hg
  ·exact World.ownsRow.lt h1 g hg
  ·exact World.ownsRow.lt h2 g hg
  ·exact World.ownsRow.lt h3 g hg
  ·exact OQL.mem h4 g hg
theorem OQL.mem:∀{qs:List QT} {xs:List Value} {bs:List Nat},OQL w B qs xs bs→∀g∈bs,B≤g∧g<w.heap.size
 | [],xs,bs,h,g,hg=>by rw[OQL] at h;rw[h.2] at hg;cases hg
 | q::qs,xs,bs,h,g,hg=>by
  rw[OQL] at h;obtain ⟨us,xs',b1,b2,rfl,rfl,h1,h2⟩:=h;rcases List.mem_append.1 hg with hg | hg
  ·exact OQ.mem h1 g hg
  ·exact OQL.mem h2 g hg
end
theorem OQ.len:∀{q:QT} {us:List Value} {bs:List Nat},OQ w B q us bs→us.length=10
 | .mk k o f t u lo hi b op ks,us,bs,h=>by rw[OQ] at h;obtain ⟨vl,vh,vk,xs,bk,rfl,_⟩:=h;rfl
theorem OQL.len:∀{qs:List QT} {xs:List Value} {bs:List Nat},OQL w B qs xs bs→xs.length=qs.length*10
 | [],xs,bs,h=>by rw[OQL] at h;rw[h.1];rfl
 | q::qs,xs,bs,h=>by rw[OQL] at h;obtain ⟨us,xs',b1,b2,rfl,rfl,h1,h2⟩:=h;rw[List.length_append,OQ.len h1,OQL.len h2,List.length_cons];omega
theorem OQL.snoc:∀{qs:List QT} {xs:List Value} {bs:List Nat} {q:QT} {us:List Value} {b1:List Nat},OQL w B qs xs bs→OQ w B q us b1→OQL w B (qs++[q]) (xs++us) (bs++b1)
 | [],xs,bs,q,us,b1,h,h1=>by rw[OQL] at h;obtain ⟨rfl,rfl⟩:=h;rw[List.nil_append,OQL];exact ⟨us,[],b1,[],by simp,by simp,h1,by rw[OQL];exact ⟨rfl,rfl⟩⟩
 | q'::qs,xs,bs,q,us,b1,h,h1=>by rw[OQL] at h;obtain ⟨us',xs',b1',b2',rfl,rfl,h2,h3⟩:=h;rw[List.cons_append,OQL];exact ⟨us',xs'++us,b1',b2'++b1,by simp,by simp,h2,OQL.snoc h3 h1⟩
theorem OQL.nil_:OQL w B [] [] []:=by rw[OQL];exact ⟨rfl,rfl⟩
theorem OQL.split:∀{qs:List QT} {xs:List Value} {bs:List Nat} {q:QT},OQL w B (qs++[q]) xs bs→∃(ys us:List Value) (b1 b2:List Nat),xs=ys++us∧bs=b1++b2∧OQL w B qs ys b1∧OQ w B q us b2
 | [],xs,bs,q,h=>by rw[List.nil_append,OQL] at h;obtain ⟨us,xs',b1,b2,rfl,rfl,h1,h2⟩:=h;rw[OQL] at h2;obtain ⟨rfl,rfl⟩:=h2;exact ⟨[],us,[],b1,by simp,by simp,OQL.nil_,h1⟩
 | q'::qs,xs,bs,q,h=>by rw[List.cons_append,OQL] at h;obtain ⟨us',xs',b1,b2,rfl,rfl,h1,h2⟩:=h;obtain ⟨ys,us,c1,c2,rfl,rfl,h3,h4⟩:=OQL.split h2;exact ⟨us'++ys,us,b1++c1,c2,by simp,by simp,by rw[OQL];exact ⟨us',ys,b1,c1,rfl,rfl,h1,h3⟩,h4⟩
theorem zj3 {S:Nat→Prop} {e:TypeId} {m n:Nat} {v:Value} {cs:List Value} {ts:List T} (h:w.ownsRow B e m v n cs) (hl:ts.length=n*m) (hS:∀g,v.ownBlock=some g→S g) (ha:T.AtL bare w S ts cs):T.At bare w S (.arr m n ts) v:=by
 simp only[T.At]
 rcases h.2 with ⟨rfl,h0⟩ | ⟨g,cap,cur,rfl,hB,hgg,hn,hm,hcs,ht⟩
 ·exact ⟨none,0,cs,by rw[h0],by simp[bare,h0],by unfold maxLen;omega,hl,fun hlt=>by simp[bare,h0] at hlt,ha⟩
 ·refine ⟨_,cap,cs,rfl,by simpa [bare] using hn,hm,hl,fun _=>⟨_,rfl,hS g rfl,?_⟩,ha⟩;have:=h.cells (g:=g) rfl;simpa [bare,zbv] using this
mutual
theorem OQ.at_:∀{q:QT} {us:List Value} {bs:List Nat},OQ w B q us bs→T.AtL bare w (fun g=>g∈bs) (cells q) us
 | .mk k o f t u lo hi b op ks,us,bs,h=>by rw[OQ] at h;obtain ⟨vl,vh,vk,xs,bk,rfl,h1,h2,h3,h4,rfl⟩:=h;refine zrs (zj3 h1 (by simp) (fun g hg=>by simp[hg]) AtL.of_lits) (zj3 h2 (by simp) (fun g hg=>by simp[hg]) AtL.of_lits) (zj3 h3 (zga ks) (fun g hg=>by simp[hg]) ?_);exact AtL.keep (fun _ _=>rfl) (fun g hg=>by simp[hg]) (OQL.at_ h4)
theorem OQL.at_:∀{qs:List QT} {xs:List Value} {bs:List Nat},OQL w B qs xs bs→T.AtL bare w (fun g=>g∈bs) (zaw qs) xs
 | [],xs,bs,h=>by rw[OQL] at h;rw[h.1,zaw];simp only[T.AtL]
 | q::qs,xs,bs,h=>by rw[OQL] at h;obtain ⟨us,xs',b1,b2,rfl,rfl,h1,h2⟩:=h;rw[zaw];exact AtL.append (AtL.keep (fun _ _=>rfl) (fun g hg=>by simp[hg]) (OQ.at_ h1)) (AtL.keep (fun _ _=>rfl) (fun g hg=>by simp[hg]) (OQL.at_ h2))
end
theorem OQ.occ:∀{q:QT} {us:List Value} {bs:List Nat} (o:Int),OQ w B q us bs→OQ w B (zcp o q) (us.set 1 (.int .i64 o)) bs
 | .mk k o' f t u lo hi b op ks,us,bs,o,h=>by rw[OQ] at h;obtain ⟨vl,vh,vk,xs,bk,rfl,h1,h2,h3,h4,rfl⟩:=h;rw[zcp,OQ];exact ⟨vl,vh,vk,xs,bk,rfl,h1,h2,h3,h4,rfl⟩
theorem OQ.below {C:Nat} {q:QT} {us:List Value} {bs:List Nat} (h:OQ w B q us bs) (hb:Below C w w') (hC:w.heap.size≤C):OQ w' B q us bs:=h.keep fun g hg=>hb.block g (by have:=(h.mem g hg).2;omega)
theorem OQL.below {C:Nat} {q:List QT} {us:List Value} {bs:List Nat} (h:OQL w B q us bs) (hb:Below C w w') (hC:w.heap.size≤C):OQL w' B q us bs:=h.keep fun g hg=>hb.block g (by have:=(h.mem g hg).2;omega)
theorem OQ.grown {row:Option Nat} {q:QT} {us:List Value} {bs:List Nat} (h:OQ w B q us bs) (hg:w.grownBy w' row) (hr:∀g∈bs,row≠some g):OQ w' B q us bs:=h.keep fun g hgm=>hg.block g (h.mem g hgm).2 fun e=>hr g hgm e.symm
theorem OQL.grown {row:Option Nat} {q:List QT} {us:List Value} {bs:List Nat} (h:OQL w B q us bs) (hg:w.grownBy w' row) (hr:∀g∈bs,row≠some g):OQL w' B q us bs:=h.keep fun g hgm=>hg.block g (h.mem g hgm).2 fun e=>hr g hgm e.symm
end
end Go.Proofs.YtplkbdncgkgppaaGreatDoor.Qry
end
