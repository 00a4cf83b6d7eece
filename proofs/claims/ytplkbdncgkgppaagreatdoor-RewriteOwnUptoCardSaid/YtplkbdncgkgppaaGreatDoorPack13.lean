/- Lemmas that the last text leans on. -/
import Derived.Test.YtplkbdncgkgppaaGreatDoorTake
import Derived.Test.YtplkbdncgkgppaaGreatDoorPack6
import Derived.Deep.QuietTactic
import Derived.BigQuiet
import Derived.StillTailTactics
import Derived.LoopTactic
set_option linter.all false
set_option maxRecDepth 100000
section
namespace Go.Proofs.YtplkbdncgkgppaaGreatDoor.Qry
open Go.RowKit Words Tree QryP Kit
def BoolB (b:Bool) (w:World) (e:Ending) (w':World):Prop:=e = .returned (.bool b)∧Below w.heap.size w w'
theorem reads_int {w:World} {B:Nat} {A:Option Addr} {l:List Int} {i:IntKind} (h:Reads w B 1 A l.length (l.map (Value.int i))) {k:Nat} (hk:k<l.length) :
 ∃ad,A=some ad∧ad.block<B∧w.cell? (ad.add k)=some (.int i l[k]):=by
 obtain ⟨ad,e,hb,hc⟩:=h.2 (by omega);exact ⟨ad,e,hb,hc k _ (by simp[hk])⟩
theorem ziv {w:World} (n:Nat):Below w.heap.size w (w.drewN n):=⟨rfl,rfl,rfl,Nat.le_refl _,fun _ _=>rfl⟩
theorem zbc {α:Type} {l:List α} {k:Nat} (h:k<l.length):l.take (k+1)=l.take k++[l[k]]:=List.take_succ_eq_append_getElem h
theorem zh9 (ao bo:Option Addr) (c d:Nat) (xs ys:List Int) (w:World) (ha:Reads w w.heap.size 1 ao xs.length (xs.map (Value.int .i64))) (hb:Reads w w.heap.size 1 bo ys.length (ys.map (Value.int .i64))) (hla:xs.length*8≤140737488351232) (hlb:ys.length*8≤140737488351232) (r:Bool) (hr:r=true↔xs=ys) :
 Calls Tryz.prog 49 #[.slice ao xs.length c,.slice bo ys.length d] w (BoolB r w):=by
 have HA:=hX ha;have HB:=hX hb;have HR:=hX hr;clear ha hb hr;by_cases hl:xs.length=ys.length
 ·have HL:=hX hl;have hbne:((xs.length:Int) != (ys.length:Int))=false:=by rw[hl];simp
  clear hl;go_enter Tryz.func49,Tryz.ntmps49;go_wp2_with fail;go_loopw [5] (fun i wr=>∃(k m:Nat),k≤xs.length∧i = .int .i64 k∧Hid (xs.take k=ys.take k)∧wr=w.drewN m) (fun i _=>xs.length - (intOf i).toNat);case atStart=>exact ⟨0,0,by omega,rfl,hX (by simp),rfl⟩
  case round=>
   obtain ⟨k,m,hk,rfl,HE,rfl⟩:=hrel;by_cases hlt:k<xs.length
   ·have hlt2:k<ys.length:=by have:=HL.out;omega
    obtain ⟨ad,rfl,hba,a0⟩:=reads_int HA.out hlt;obtain ⟨bd,rfl,hbb,b0⟩:=reads_int HB.out hlt2;have HST:Hid (xs.take (k+1)=xs.take k++[xs[k]]∧ys.take (k+1)=ys.take k++[ys[k]]):=hX ⟨zbc hlt,zbc hlt2⟩
    have HNE:Hid (¬xs[k]=ys[k]→r=false):=hX (fun h=>by
     cases hr0:r with
     | false=>rfl
     | true=>
      have e:=HR.out.1 hr0;subst e
      exact absurd rfl h)
    by_cases he:xs[k]=ys[k]
    ·have HQ:=hX he;rw[←he] at b0;clear he HNE;generalize hx:xs[k]=x at *;clear hx;go_wp2_with fail;go_quiet (fail);go_wp2_with fail;go_roundw;case rel=>exact ⟨k+1,_,by omega,by go_num,hX (by rw[HST.out.1,HST.out.2,HE.out,←HQ.out]),by first | rfl | (rw[World.drewN_drewN])⟩
     case measure=>simp[intOf];omega
    ·have HRF:=hX (HNE.out he);have hne:(xs[k] != ys[k])=true:=by rw[bne_iff_ne];exact he
     clear he HNE HST;generalize xs[k]=x at *;generalize ys[k]=y at *;go_wp2_with fail;go_quiet (fail);go_wp2_with fail;go_ret;rw[HRF.out];exact ⟨rfl,⟨rfl,rfl,rfl,Nat.le_refl _,fun _ _=>rfl⟩⟩
   ·obtain rfl:k=xs.length:=by omega
    have hT:r=true:=(by rw[HR.out];have:=HE.out;rw[List.take_of_length_le (Nat.le_refl _),HL.out,List.take_of_length_le (Nat.le_refl _)] at this;exact this)
    have HRT:=hX hT;clear hT;go_wp2_with fail;go_ret;rw[HRT.out];exact ⟨rfl,ziv _⟩
 ·have hbne:((xs.length:Int) != (ys.length:Int))=true:=by rw[bne_iff_ne];omega
  have HRF:Hid (r=false):=hX (by
   cases hr0:r with
   | false=>rfl
   | true=>exact absurd (by rw[HR.out.1 hr0]) hl)
  clear hl;go_enter Tryz.func49,Tryz.ntmps49;go_wp2_with fail;go_ret;rw[HRF.out];exact ⟨rfl,Below.refl _ _⟩
theorem zn9 (ao bo:Option Addr) (c d:Nat) (xs ys:List Int) (w:World) (ha:Reads w w.heap.size 1 ao xs.length (xs.map (Value.int .i64))) (hb:Reads w w.heap.size 1 bo ys.length (ys.map (Value.int .i64))) (hla:xs.length*8≤140737488351232) (hlb:ys.length*8≤140737488351232) (r:Bool) (hr:r=true↔xs=ys) :
 Calls Tryz.prog 165 #[.slice ao xs.length c,.slice bo ys.length d] w (BoolB r w):=by
 have HA:=hX ha;have HB:=hX hb;have HR:=hX hr;clear ha hb hr;by_cases hl:xs.length=ys.length
 ·have HL:=hX hl;have hbne:((xs.length:Int) != (ys.length:Int))=false:=by rw[hl];simp
  clear hl;go_enter Tryz.func165,Tryz.ntmps165;go_wp2_with fail;go_loopw [13] (fun i wr=>∃(k m:Nat),k≤xs.length∧i = .int .i64 k∧Hid (xs.take k=ys.take k)∧wr=w.drewN m) (fun i _=>xs.length - (intOf i).toNat);case atStart=>exact ⟨0,0,by omega,rfl,hX (by simp),rfl⟩
  case round=>
   obtain ⟨k,m,hk,rfl,HE,rfl⟩:=hrel;by_cases hlt:k<xs.length
   ·have hlt2:k<ys.length:=by have:=HL.out;omega
    obtain ⟨ad,rfl,hba,a0⟩:=reads_int HA.out hlt;obtain ⟨bd,rfl,hbb,b0⟩:=reads_int HB.out hlt2;have HST:Hid (xs.take (k+1)=xs.take k++[xs[k]]∧ys.take (k+1)=ys.take k++[ys[k]]):=hX ⟨zbc hlt,zbc hlt2⟩
    have HNE:Hid (¬xs[k]=ys[k]→r=false):=hX (fun h=>by
     cases hr0:r with
     | false=>rfl
     | true=>
      have e:=HR.out.1 hr0;subst e
      exact absurd rfl h)
    by_cases he:xs[k]=ys[k]
    ·have HQ:=hX he;rw[←he] at b0;clear he HNE;generalize hx:xs[k]=x at *;clear hx;go_wp2_with fail;go_quiet (fail);go_wp2_with fail;go_roundw;case rel=>exact ⟨k+1,_,by omega,by go_num,hX (by rw[HST.out.1,HST.out.2,HE.out,←HQ.out]),by first | rfl | (rw[World.drewN_drewN])⟩
     case measure=>simp[intOf];omega
    ·have HRF:=hX (HNE.out he);have hne:(xs[k] != ys[k])=true:=by rw[bne_iff_ne];exact he
     clear he HNE HST;generalize xs[k]=x at *;generalize ys[k]=y at *;go_wp2_with fail;go_quiet (fail);go_wp2_with fail;go_ret;rw[HRF.out];exact ⟨rfl,⟨rfl,rfl,rfl,Nat.le_refl _,fun _ _=>rfl⟩⟩
   ·obtain rfl:k=xs.length:=by omega
    have hT:r=true:=(by rw[HR.out];have:=HE.out;rw[List.take_of_length_le (Nat.le_refl _),HL.out,List.take_of_length_le (Nat.le_refl _)] at this;exact this)
    have HRT:=hX hT;clear hT;go_wp2_with fail;go_ret;rw[HRT.out];exact ⟨rfl,ziv _⟩
 ·have hbne:((xs.length:Int) != (ys.length:Int))=true:=by rw[bne_iff_ne];omega
  have HRF:Hid (r=false):=hX (by
   cases hr0:r with
   | false=>rfl
   | true=>exact absurd (by rw[HR.out.1 hr0]) hl)
  clear hl;go_enter Tryz.func165,Tryz.ntmps165;go_wp2_with fail;go_ret;rw[HRF.out];exact ⟨rfl,Below.refl _ _⟩
end Go.Proofs.YtplkbdncgkgppaaGreatDoor.Qry
end
section
namespace Go.Proofs.YtplkbdncgkgppaaGreatDoor.Qry
open Go.RowKit Words Tree QryP Kit Owned
def zsz:List Value:=[.int .i64 (-71),.int .i64 0,.string ⟨#[]⟩,.string ⟨#[]⟩,.string ⟨#[]⟩,.slice none 0 0,.slice none 0 0,.int .i64 0,.int .i64 0,.slice none 0 0]
def lent:Nat→List (List Value):=fun s=>if s=1 then [[.int .i64 (-7171)]] else if s=10 then [zsz] else []
theorem lent_one:lent 1=[[.int .i64 (-7171)]]:=rfl
theorem zmm:lent 10=[zsz]:=rfl
theorem infoI64:(Tryz.prog.info? 2).map (fun i=>(i.zero,i.size,i.bytes))=some (some (.int .i64 0),1,8):=by kernel_rfl
theorem zs0:(Tryz.prog.info? 28).map (fun i=>(i.zero,i.size,i.bytes))=some (some (.agg #[.int .i64 0,.int .i64 0,.string ⟨#[]⟩,.string ⟨#[]⟩,.string ⟨#[]⟩,.slice none 0 0,.slice none 0 0,.int .i64 0,.int .i64 0,.slice none 0 0]),10,152):=by kernel_rfl
theorem cells_new (w:World) (l:List Value) (t:TypeId) (j:Nat) (u:Value) (h:l[j]?=some u):(w.alloc (.cells l.toArray t)).cell? ((⟨w.heap.size,0,none⟩:Addr).add j)=some u:=by
 have e:(⟨w.heap.size,0,none⟩:Addr).add j=⟨w.heap.size,j,none⟩:=by unfold Addr.add;split <;> simp_all
 rw[e,World.cell?_alloc_new];simpa using h
def LentT (t:T) (w:World) (e:Ending) (w':World):Prop:=∃v,e = .returned v∧T.At lent w' (fun g=>w.heap.size≤g∧g<w'.heap.size) t v∧Below w.heap.size w w'
theorem zlm (A:Option Addr) (c:Nat) (l:List Int) (w:World) (hr:Reads w w.heap.size 1 A l.length (l.map (Value.int .i64))) (hl:l.length*8≤140737488351232) :
 Calls Tryz.prog 24 #[.slice A l.length c] w (LentT (zc8 .i64 l) w):=by
 obtain ⟨i0,hi,hz0,hz1,hz2⟩:=info_parts infoI64;go_enter Tryz.func24,Tryz.ntmps24;go_wp2_with (at_builtin;refine zao _ rfl (.tmp 4) (.tmp 5) 25 rfl w.heap.size 2 i0 (.int .i64 0) 1 8 Tryz.underlying25 hi hz0 hz1 hz2 rfl (by decide) (.slice none 0 0) 0 [] rfl (World.ownsRow_nil _ _ _ _) w.heap.size A l.length c (l.map (Value.int .i64)) rfl hr ?c2 ?c3 ?c4 ?c5 ?_);case c2=>intro u hu;obtain ⟨z,_,rfl⟩:=List.mem_map.1 hu;rfl
 case c3=>unfold maxLen;omega
 case c4=>omega
 case c5=>exact Nat.le_refl _
 intro v1 w1 ho1 hg1 _;have hb1:Below w.heap.size w w1:=(Below.refl _ w).grown hg1 (Nat.le_refl _) (fun r e=>by cases e);replace ho1:w1.ownsRow w.heap.size 2 1 v1 l.length (l.map (Value.int .i64)):=by simpa using ho1
 have HB1:=hX hb1;have hsz1:=hb1.size;clear hg1 hb1;go_wp2_with (at_builtin;refine wpList_append_own _ rfl (.tmp 7) (.tmp 8) 25 rfl w.heap.size 2 i0 (.int .i64 0) 1 8 Tryz.underlying25 hi hz0 hz1 hz2 rfl (by decide) _ l.length (l.map (Value.int .i64)) rfl (ho1.alloc _) ⟨w1.heap.size,0,none⟩ 1 1 [.int .i64 (-7171)] rfl rfl ?d1 ?d2 ?d3 ?d4 ?d5 ?_);case d1=>intro j u hu;exact cells_new _ _ _ j u hu
 case d2=>intro u hu;simp at hu;subst hu;rfl
 case d3=>unfold maxLen;omega
 case d4=>omega
 case d5=>simp;omega
 intro v2 w2 ho2 hg2 _;have hb2:Below w.heap.size w w2:=(HB1.out.alloc HB1.out.size _).grown hg2 (by simp;omega) (fun r e=>(ho1.lt r e).1);have HB2:=hX hb2
 rcases ho2.2 with ⟨_,h0⟩ | ⟨g,cap,cur,rfl,hB,hgg,hn,hm,hcs,ht⟩
 ·omega
 ·have HOW:=hX (ho2.cells (g:=g) rfl);have HG:Hid (g<w2.heap.size):=hX (Array.getElem?_eq_some_iff.1 hgg).1;have hm':=hm;unfold maxLen at hm';clear hg2 hb2 ho1 hr hgg hcs ht ho2;go_wp2_with fail;go_ret;refine ⟨_,rfl,?_,HB2.out⟩;simp only[zc8,T.At];refine ⟨_,cap,l.map (Value.int .i64),rfl,by simp[lent_one];omega,hm,by simp,fun _=>⟨_,rfl,⟨hB,HG.out⟩,?_⟩,AtL.of_lits⟩;rw[lent_one];exact HOW.out
theorem zoa {w:World} {S:Nat→Prop} {l:List Int} {v:Value} (h:T.At lent w S (zc8 .i64 l) v) :
 ∃ad cap,v = .slice (some ad) l.length cap∧l.length+1≤cap∧cap≤maxLen∧S ad.block∧w.cell? (ad.add l.length)=some (.int .i64 (-7171)):=by
 simp only[zc8,T.At] at h;obtain ⟨A,cap,vs,hv,hc,hm,hl,ha,hx⟩:=h;rw[lent_one] at hc ha;obtain ⟨ad,rfl,hs,hcs⟩:=ha (by simp);obtain rfl:=AtL.lits hx;refine ⟨ad,cap,hv,hc,hm,hs,?_⟩;have:=hcs.right.zero;rwa [List.length_map] at this
theorem zln (v:Value) (A:Option Addr) (c:Nat) (l m:List Int) (w:World) (hv:T.At lent w (fun g=>g<w.heap.size) (zc8 .i64 l) v) (hr:Reads w w.heap.size 1 A m.length (m.map (Value.int .i64))) (hl:l.length*8≤140737488351232) (hml:m.length*8≤140737488351232) (r:Bool) (hq:r=true↔l=m) :
 Calls Tryz.prog 31 #[v,.slice A m.length c] w (BoolB r w):=by
 obtain ⟨ad,cap,rfl,hc,hm,hs,hcell⟩:=zoa hv;obtain ⟨_,_,he,_,_,hrl⟩:=zau (At.bare hv);injection he with e1 e2 e3;subst e1 e3;have HC:=zh9 _ _ cap c l m w hrl hr hl hml r hq;have hm':=hm;unfold maxLen at hm';have HQ:=hX hq;have HV:=hX hv;have HR:=hX hr;have HRL:=hX hrl;clear hq hv hr hrl;have HCC:=hX hcell;clear hcell
 cases r with
 | false=>
  go_enter Tryz.func31,Tryz.ntmps31;go_wp2_with fail;refine HC.mono ?_;rintro e w1 ⟨rfl,b1⟩;have B1:=hX b1;clear b1;go_wp2_with fail;go_ret;exact ⟨rfl,B1.out⟩
 | true=>
  go_enter Tryz.func31,Tryz.ntmps31;go_wp2_with fail;refine HC.mono ?_;rintro e w1 ⟨rfl,b1⟩;have hcell:w1.cell? (ad.add l.length)=some (.int .i64 (-7171)):=(b1.cell (by rw[zab];exact hs)).trans HCC.out;have B1:=hX b1;clear b1;go_wp2_with fail;go_ret;exact ⟨rfl,B1.out⟩
end Go.Proofs.YtplkbdncgkgppaaGreatDoor.Qry
end
section
namespace Go.Proofs.YtplkbdncgkgppaaGreatDoor.Qry
open Go.RowKit Words Tree QryP Kit Owned
theorem zfg {a b:Int} (h:¬a=b):(a != b)=true∧(a == b)=false:=⟨by rw[bne_iff_ne];exact h,by rw[beq_eq_false_iff_ne];exact h⟩
theorem zia {a b:ByteArray} (h:¬a=b):(a.toList != b.toList)=true∧(a.toList == b.toList)=false:=by
 have:¬a.toList=b.toList:=fun e=>by rw[ByteArray.toList_eq,ByteArray.toList_eq] at e;exact h (ByteArray.ext (Array.toList_inj.1 e))
 exact ⟨by rw[bne_iff_ne];exact this,by rw[beq_eq_false_iff_ne];exact this⟩
theorem below2 {w:World} (o1 o2:Obj):Below w.heap.size w ((w.alloc o1).alloc o2):=((Below.refl _ _).alloc (Nat.le_refl _) _).alloc (by simp) _
theorem zg0 (w:World) (cs ds:Array Value) (t t':TypeId):Blk ((w.alloc (.cells cs t)).alloc (.cells ds t')) w.heap.size t cs:=(Blk.new w t cs).alloc _
theorem blk_b (w:World) (cs ds:Array Value) (t t':TypeId):Blk ((w.alloc (.cells cs t)).alloc (.cells ds t')) (w.heap.size+1) t' ds:=by
 have:=Blk.new (w.alloc (.cells cs t)) t' ds;rwa [World.size_alloc] at this
theorem zas {w:World} {g:Nat} {t:TypeId} {v0 v1 v2 v3 v4 v5 v6 v7 v8 v9:Value} (h:Blk w g t #[v0,v1,v2,v3,v4,v5,v6,v7,v8,v9]) :
 w.cell? ⟨g,0,none⟩=some v0∧w.cell? ⟨g,1,none⟩=some v1∧w.cell? ⟨g,2,none⟩=some v2∧w.cell? ⟨g,3,none⟩=some v3∧w.cell? ⟨g,4,none⟩=some v4∧w.cell? ⟨g,5,none⟩=some v5∧w.cell? ⟨g,6,none⟩=some v6∧w.cell? ⟨g,7,none⟩=some v7∧w.cell? ⟨g,8,none⟩=some v8∧w.cell? ⟨g,9,none⟩=some v9:=
 ⟨h.cell 0,h.cell 1,h.cell 2,h.cell 3,h.cell 4,h.cell 5,h.cell 6,h.cell 7,h.cell 8,h.cell 9⟩
theorem ten {w:World} {ad:Addr} {v0 v1 v2 v3 v4 v5 v6 v7 v8 v9:Value} (h:zbv w ad [v0,v1,v2,v3,v4,v5,v6,v7,v8,v9]) :
 w.cell? ad=some v0∧w.cell? ⟨ad.block,ad.off+1,none⟩=some v1∧w.cell? ⟨ad.block,ad.off+2,none⟩=some v2∧w.cell? ⟨ad.block,ad.off+3,none⟩=some v3∧w.cell? ⟨ad.block,ad.off+4,none⟩=some v4∧
 w.cell? ⟨ad.block,ad.off+5,none⟩=some v5∧w.cell? ⟨ad.block,ad.off+6,none⟩=some v6∧w.cell? ⟨ad.block,ad.off+7,none⟩=some v7∧w.cell? ⟨ad.block,ad.off+8,none⟩=some v8∧w.cell? ⟨ad.block,ad.off+9,none⟩=some v9:=
 ⟨h.zero,h.at_ 1 _ rfl (by omega),h.at_ 2 _ rfl (by omega),h.at_ 3 _ rfl (by omega),h.at_ 4 _ rfl (by omega),h.at_ 5 _ rfl (by omega),h.at_ 6 _ rfl (by omega),h.at_ 7 _ rfl (by omega),h.at_ 8 _ rfl (by omega),h.at_ 9 _ rfl (by omega)⟩
theorem zr1 {α:Type} {l m:List α} (h:l.take l.length=m.take l.length) (hl:l.length=m.length):l=m:=by
 rw[List.take_of_length_le (Nat.le_refl _),hl,List.take_of_length_le (Nat.le_refl _)] at h;exact h
theorem yax {ks js:List QT} {k:Nat} (h1:k<ks.length) (h2:k<js.length) (h:¬ks[k]=js[k]):¬ks=js:=fun e=>by subst e;exact h rfl
theorem zap {b:Bool} {p:Prop} (h:b=true↔p):(p∧b=true)∨(¬p∧b=false):=by cases b <;> simp_all
end Go.Proofs.YtplkbdncgkgppaaGreatDoor.Qry
end
section
namespace Go.Proofs.YtplkbdncgkgppaaGreatDoor.Qry
open Go.RowKit Words Tree QryP Kit Owned
theorem zib {kd oc kd2 oc2:Int} {f t u f2 t2 u2:ByteArray} {lo hi lo2 hi2:List Int} {b op b2 op2:Int} {ks ks2:List QT} :
 (¬kd=kd2)∨(kd=kd2∧¬oc=oc2)∨(kd=kd2∧oc=oc2∧¬f=f2)∨(kd=kd2∧oc=oc2∧f=f2∧¬t=t2)∨(kd=kd2∧oc=oc2∧f=f2∧t=t2∧¬u=u2)∨(kd=kd2∧oc=oc2∧f=f2∧t=t2∧u=u2∧¬lo=lo2)∨(kd=kd2∧oc=oc2∧f=f2∧t=t2∧u=u2∧lo=lo2∧¬hi=hi2)∨(kd=kd2∧oc=oc2∧f=f2∧t=t2∧u=u2∧lo=lo2∧hi=hi2∧¬b=b2)∨(kd=kd2∧oc=oc2∧f=f2∧t=t2∧u=u2∧lo=lo2∧hi=hi2∧b=b2∧¬op=op2)∨(kd=kd2∧oc=oc2∧f=f2∧t=t2∧u=u2∧lo=lo2∧hi=hi2∧b=b2∧op=op2∧¬ks.length=ks2.length)∨(kd=kd2∧oc=oc2∧f=f2∧t=t2∧u=u2∧lo=lo2∧hi=hi2∧b=b2∧op=op2∧ks.length=ks2.length):=by
 by_cases h0:kd=kd2;rotate_left
 ·exact .inl h0
 by_cases h1:oc=oc2;rotate_left
 ·exact .inr (.inl ⟨h0,h1⟩)
 by_cases h2:f=f2;rotate_left
 ·exact .inr (.inr (.inl ⟨h0,h1,h2⟩))
 by_cases h3:t=t2;rotate_left
 ·exact .inr (.inr (.inr (.inl ⟨h0,h1,h2,h3⟩)))
 by_cases h4:u=u2;rotate_left
 ·exact .inr (.inr (.inr (.inr (.inl ⟨h0,h1,h2,h3,h4⟩))))
 by_cases h5:lo=lo2;rotate_left
 ·exact .inr (.inr (.inr (.inr (.inr (.inl ⟨h0,h1,h2,h3,h4,h5⟩)))))
 by_cases h6:hi=hi2;rotate_left
 ·exact .inr (.inr (.inr (.inr (.inr (.inr (.inl ⟨h0,h1,h2,h3,h4,h5,h6⟩))))))
 by_cases h7:b=b2;rotate_left
 ·exact .inr (.inr (.inr (.inr (.inr (.inr (.inr (.inl ⟨h0,h1,h2,h3,h4,h5,h6,h7⟩)))))))
 by_cases h8:op=op2;rotate_left
 ·exact .inr (.inr (.inr (.inr (.inr (.inr (.inr (.inr (.inl ⟨h0,h1,h2,h3,h4,h5,h6,h7,h8⟩))))))))
 by_cases h9:ks.length=ks2.length;rotate_left
 ·exact .inr (.inr (.inr (.inr (.inr (.inr (.inr (.inr (.inr (.inl ⟨h0,h1,h2,h3,h4,h5,h6,h7,h8,h9⟩)))))))))
 exact .inr (.inr (.inr (.inr (.inr (.inr (.inr (.inr (.inr (.inr ⟨h0,h1,h2,h3,h4,h5,h6,h7,h8,h9⟩)))))))))
set_option maxHeartbeats 4000000 in
theorem zob:∀(n:Nat) (q r:QT) (vs us:List Value) (w:World),q.sz≤n→Ok q→Ok r→T.AtL bare w (fun g=>g<w.heap.size) (cells q) vs→T.AtL bare w (fun g=>g<w.heap.size) (cells r) us→
 ∀x:Bool,(x=true↔q=r)→Calls Tryz.prog 30 #[.agg vs.toArray,.agg us.toArray] w (BoolB x w):=by
 intro n
 induction n with
 | zero=>intro q r vs us w hs;have:=q.sz_pos;omega
 | succ n ih=>
 intro q r vs us w hs hq hr hv hu x hx
 cases hq with
 | @mk kd oc f t u lo hi b op ks hkd hoc hf ht hu' hlo hhi hb hop hks hk=>
 cases hr with
 | @mk kd2 oc2 f2 t2 u2 lo2 hi2 b2 op2 ks2 hkd2 hoc2 hf2 ht2 hu2 hlo2 hhi2 hb2 hop2 hks2 hk2=>
 have IH:=hX ih;clear ih;obtain ⟨vl,vh,vk,rfl,hvl,hvh,hvk⟩:=zal hv;obtain ⟨ul,uh,uk,rfl,hul,huh,huk⟩:=zal hu;obtain ⟨A1,c1,rfl,_,_,r1⟩:=zau hvl;obtain ⟨A2,c2,rfl,_,_,r2⟩:=zau hvh;obtain ⟨B1,d1,rfl,_,_,s1⟩:=zau hul;obtain ⟨B2,d2,rfl,_,_,s2⟩:=zau huh;obtain ⟨AK,cK,rfl,_,hmK,eK⟩:=zc9 hvk;obtain ⟨BK,dK,rfl,_,hmB,eB⟩:=zc9 huk
 have hLO:∀y:Bool,(y=true↔lo=lo2)→∀W,Below w.heap.size w W→Calls Tryz.prog 49 #[.slice A1 lo.length c1,.slice B1 lo2.length d1] W (BoolB y W):=fun y hy W hW=>
  zh9 _ _ _ _ _ _ W ((r1.below hW).more hW.size) ((s1.below hW).more hW.size) hlo.1 hlo2.1 y hy
 have hHI:∀y:Bool,(y=true↔hi=hi2)→∀W,Below w.heap.size w W→Calls Tryz.prog 49 #[.slice A2 hi.length c2,.slice B2 hi2.length d2] W (BoolB y W):=fun y hy W hW=>
  zh9 _ _ _ _ _ _ W ((r2.below hW).more hW.size) ((s2.below hW).more hW.size) hhi.1 hhi2.1 y hy
 have LO:=hX hLO;have HI:=hX hHI;have EK:=hX eK;have EB:=hX eB;have HX:=hX hx;have HK:=hX hk;have HK2:=hX hk2;have HS:=hX hs;clear hLO hHI eK eB hx hk hk2 hv hu hvl hvh hvk hul huh huk r1 r2 s1 s2 hkd hoc hf ht hu' hlo hhi hb hop hkd2 hoc2 hf2 ht2 hu2 hlo2 hhi2 hb2 hop2 hs
 rcases @zib kd oc kd2 oc2 f t u f2 t2 u2 lo hi lo2 hi2 b op b2 op2 ks ks2 with hd | ⟨rfl,hd⟩ | ⟨rfl,rfl,hd⟩ | ⟨rfl,rfl,rfl,hd⟩ | ⟨rfl,rfl,rfl,rfl,hd⟩ | ⟨rfl,rfl,rfl,rfl,rfl,hd⟩ | ⟨rfl,rfl,rfl,rfl,rfl,rfl,hd⟩ | ⟨rfl,rfl,rfl,rfl,rfl,rfl,rfl,hd⟩ | ⟨rfl,rfl,rfl,rfl,rfl,rfl,rfl,rfl,hd⟩ | ⟨rfl,rfl,rfl,rfl,rfl,rfl,rfl,rfl,rfl,hd⟩ | ⟨rfl,rfl,rfl,rfl,rfl,rfl,rfl,rfl,rfl,hlen⟩
 ·have HXF:Hid (x=false):=hX (by rcases zap HX.out with ⟨e,_⟩ | ⟨_,e⟩;exact absurd e (by simp only[QT.mk.injEq,not_and];intros;first | exact absurd ‹_› hd | (rintro rfl;exact hd rfl));exact e);obtain ⟨hn1,hn2⟩:=zfg hd;clear hd;go_enter Tryz.func30,Tryz.ntmps30;go_wp2_with fail;go_ret;rw[HXF.out];exact ⟨rfl,below2 _ _⟩
 ·have HXF:Hid (x=false):=hX (by rcases zap HX.out with ⟨e,_⟩ | ⟨_,e⟩;exact absurd e (by simp only[QT.mk.injEq,not_and];intros;first | exact absurd ‹_› hd | (rintro rfl;exact hd rfl));exact e);obtain ⟨hn1,hn2⟩:=zfg hd;clear hd;go_enter Tryz.func30,Tryz.ntmps30;go_wp2_with fail;go_ret;rw[HXF.out];exact ⟨rfl,below2 _ _⟩
 ·have HXF:Hid (x=false):=hX (by rcases zap HX.out with ⟨e,_⟩ | ⟨_,e⟩;exact absurd e (by simp only[QT.mk.injEq,not_and];intros;first | exact absurd ‹_› hd | (rintro rfl;exact hd rfl));exact e);obtain ⟨hn1,hn2⟩:=zia hd;clear hd;go_enter Tryz.func30,Tryz.ntmps30;go_wp2_with fail;go_ret;rw[HXF.out];exact ⟨rfl,below2 _ _⟩
 ·have HXF:Hid (x=false):=hX (by rcases zap HX.out with ⟨e,_⟩ | ⟨_,e⟩;exact absurd e (by simp only[QT.mk.injEq,not_and];intros;first | exact absurd ‹_› hd | (rintro rfl;exact hd rfl));exact e);obtain ⟨hn1,hn2⟩:=zia hd;clear hd;go_enter Tryz.func30,Tryz.ntmps30;go_wp2_with fail;go_ret;rw[HXF.out];exact ⟨rfl,below2 _ _⟩
 ·have HXF:Hid (x=false):=hX (by rcases zap HX.out with ⟨e,_⟩ | ⟨_,e⟩;exact absurd e (by simp only[QT.mk.injEq,not_and];intros;first | exact absurd ‹_› hd | (rintro rfl;exact hd rfl));exact e);obtain ⟨hn1,hn2⟩:=zia hd;clear hd;go_enter Tryz.func30,Tryz.ntmps30;go_wp2_with fail;go_ret;rw[HXF.out];exact ⟨rfl,below2 _ _⟩
 ·have HXF:Hid (x=false):=hX (by rcases zap HX.out with ⟨e,_⟩ | ⟨_,e⟩;exact absurd e (by simp only[QT.mk.injEq,not_and];intros;first | exact absurd ‹_› hd | (rintro rfl;exact hd rfl));exact e);go_enter Tryz.func30,Tryz.ntmps30;go_wp2_with fail;refine (LO.out false (by simpa using hd) _ (below2 _ _)).mono ?_;rintro e W0 ⟨rfl,b0⟩;have HB0:=hX ((below2 _ _).trans (b0.mono (by simp;omega)):Below w.heap.size w W0);have BA0:=hX ((zg0 _ _ _ _ _).below b0 (by simp;omega));have BB0:=hX ((blk_b _ _ _ _ _).below b0 (by simp));obtain ⟨p0_0,p0_1,p0_2,p0_3,p0_4,p0_5,p0_6,p0_7,p0_8,p0_9⟩:=zas BA0.out;obtain ⟨q0_0,q0_1,q0_2,q0_3,q0_4,q0_5,q0_6,q0_7,q0_8,q0_9⟩:=zas BB0.out;clear b0;go_wp2_with fail;go_ret;rw[HXF.out];exact ⟨rfl,HB0.out⟩
 ·have HXF:Hid (x=false):=hX (by rcases zap HX.out with ⟨e,_⟩ | ⟨_,e⟩;exact absurd e (by simp only[QT.mk.injEq,not_and];intros;first | exact absurd ‹_› hd | (rintro rfl;exact hd rfl));exact e);go_enter Tryz.func30,Tryz.ntmps30;go_wp2_with fail;refine (LO.out true (by simp) _ (below2 _ _)).mono ?_;rintro e W0 ⟨rfl,b0⟩;have HB0:=hX ((below2 _ _).trans (b0.mono (by simp;omega)):Below w.heap.size w W0);have BA0:=hX ((zg0 _ _ _ _ _).below b0 (by simp;omega));have BB0:=hX ((blk_b _ _ _ _ _).below b0 (by simp));obtain ⟨p0_0,p0_1,p0_2,p0_3,p0_4,p0_5,p0_6,p0_7,p0_8,p0_9⟩:=zas BA0.out;obtain ⟨q0_0,q0_1,q0_2,q0_3,q0_4,q0_5,q0_6,q0_7,q0_8,q0_9⟩:=zas BB0.out;clear b0;go_wp2_with fail;refine (HI.out false (by simpa using hd) _ HB0.out).mono ?_;rintro e W1 ⟨rfl,b1⟩;have HB1:=hX (HB0.out.trans (b1.mono HB0.out.size));have BA1:=hX ((BA0.out).below b1 (BA0.out).lt);have BB1:=hX ((BB0.out).below b1 (BB0.out).lt);clear p0_0 q0_0 p0_1 q0_1 p0_2 q0_2 p0_3 q0_3 p0_4 q0_4 p0_5 q0_5 p0_6 q0_6 p0_7 q0_7 p0_8 q0_8 p0_9 q0_9;obtain ⟨p1_0,p1_1,p1_2,p1_3,p1_4,p1_5,p1_6,p1_7,p1_8,p1_9⟩:=zas BA1.out;obtain ⟨q1_0,q1_1,q1_2,q1_3,q1_4,q1_5,q1_6,q1_7,q1_8,q1_9⟩:=zas BB1.out;clear b1;go_wp2_with fail;go_ret;rw[HXF.out];exact ⟨rfl,HB1.out⟩
 ·have HXF:Hid (x=false):=hX (by rcases zap HX.out with ⟨e,_⟩ | ⟨_,e⟩;exact absurd e (by simp only[QT.mk.injEq,not_and];intros;first | exact absurd ‹_› hd | (rintro rfl;exact hd rfl));exact e);obtain ⟨hn1,hn2⟩:=zfg hd;clear hd;go_enter Tryz.func30,Tryz.ntmps30;go_wp2_with fail;refine (LO.out true (by simp) _ (below2 _ _)).mono ?_;rintro e W0 ⟨rfl,b0⟩;have HB0:=hX ((below2 _ _).trans (b0.mono (by simp;omega)):Below w.heap.size w W0);have BA0:=hX ((zg0 _ _ _ _ _).below b0 (by simp;omega));have BB0:=hX ((blk_b _ _ _ _ _).below b0 (by simp));obtain ⟨p0_0,p0_1,p0_2,p0_3,p0_4,p0_5,p0_6,p0_7,p0_8,p0_9⟩:=zas BA0.out;obtain ⟨q0_0,q0_1,q0_2,q0_3,q0_4,q0_5,q0_6,q0_7,q0_8,q0_9⟩:=zas BB0.out;clear b0;go_wp2_with fail;refine (HI.out true (by simp) _ HB0.out).mono ?_;rintro e W1 ⟨rfl,b1⟩;have HB1:=hX (HB0.out.trans (b1.mono HB0.out.size));have BA1:=hX ((BA0.out).below b1 (BA0.out).lt);have BB1:=hX ((BB0.out).below b1 (BB0.out).lt);clear p0_0 q0_0 p0_1 q0_1 p0_2 q0_2 p0_3 q0_3 p0_4 q0_4 p0_5 q0_5 p0_6 q0_6 p0_7 q0_7 p0_8 q0_8 p0_9 q0_9;obtain ⟨p1_0,p1_1,p1_2,p1_3,p1_4,p1_5,p1_6,p1_7,p1_8,p1_9⟩:=zas BA1.out;obtain ⟨q1_0,q1_1,q1_2,q1_3,q1_4,q1_5,q1_6,q1_7,q1_8,q1_9⟩:=zas BB1.out;clear b1;go_wp2_with fail;go_ret;rw[HXF.out];exact ⟨rfl,HB1.out⟩
 ·have HXF:Hid (x=false):=hX (by rcases zap HX.out with ⟨e,_⟩ | ⟨_,e⟩;exact absurd e (by simp only[QT.mk.injEq,not_and];intros;first | exact absurd ‹_› hd | (rintro rfl;exact hd rfl));exact e);obtain ⟨hn1,hn2⟩:=zfg hd;clear hd;go_enter Tryz.func30,Tryz.ntmps30;go_wp2_with fail;refine (LO.out true (by simp) _ (below2 _ _)).mono ?_;rintro e W0 ⟨rfl,b0⟩;have HB0:=hX ((below2 _ _).trans (b0.mono (by simp;omega)):Below w.heap.size w W0);have BA0:=hX ((zg0 _ _ _ _ _).below b0 (by simp;omega));have BB0:=hX ((blk_b _ _ _ _ _).below b0 (by simp));obtain ⟨p0_0,p0_1,p0_2,p0_3,p0_4,p0_5,p0_6,p0_7,p0_8,p0_9⟩:=zas BA0.out;obtain ⟨q0_0,q0_1,q0_2,q0_3,q0_4,q0_5,q0_6,q0_7,q0_8,q0_9⟩:=zas BB0.out;clear b0;go_wp2_with fail;refine (HI.out true (by simp) _ HB0.out).mono ?_;rintro e W1 ⟨rfl,b1⟩;have HB1:=hX (HB0.out.trans (b1.mono HB0.out.size));have BA1:=hX ((BA0.out).below b1 (BA0.out).lt);have BB1:=hX ((BB0.out).below b1 (BB0.out).lt);clear p0_0 q0_0 p0_1 q0_1 p0_2 q0_2 p0_3 q0_3 p0_4 q0_4 p0_5 q0_5 p0_6 q0_6 p0_7 q0_7 p0_8 q0_8 p0_9 q0_9;obtain ⟨p1_0,p1_1,p1_2,p1_3,p1_4,p1_5,p1_6,p1_7,p1_8,p1_9⟩:=zas BA1.out;obtain ⟨q1_0,q1_1,q1_2,q1_3,q1_4,q1_5,q1_6,q1_7,q1_8,q1_9⟩:=zas BB1.out;clear b1;go_wp2_with fail;go_ret;rw[HXF.out];exact ⟨rfl,HB1.out⟩
 ·have HXF:Hid (x=false):=hX (by rcases zap HX.out with ⟨e,_⟩ | ⟨_,e⟩;exact absurd e (by simp only[QT.mk.injEq,not_and];intros;first | exact absurd ‹_› hd | (rintro rfl;exact hd rfl));exact e);have hn1:((ks.length:Int) != (ks2.length:Int))=true:=by rw[bne_iff_ne];omega
  clear hd;go_enter Tryz.func30,Tryz.ntmps30;go_wp2_with fail;refine (LO.out true (by simp) _ (below2 _ _)).mono ?_;rintro e W0 ⟨rfl,b0⟩;have HB0:=hX ((below2 _ _).trans (b0.mono (by simp;omega)):Below w.heap.size w W0);have BA0:=hX ((zg0 _ _ _ _ _).below b0 (by simp;omega));have BB0:=hX ((blk_b _ _ _ _ _).below b0 (by simp));obtain ⟨p0_0,p0_1,p0_2,p0_3,p0_4,p0_5,p0_6,p0_7,p0_8,p0_9⟩:=zas BA0.out;obtain ⟨q0_0,q0_1,q0_2,q0_3,q0_4,q0_5,q0_6,q0_7,q0_8,q0_9⟩:=zas BB0.out;clear b0;go_wp2_with fail;refine (HI.out true (by simp) _ HB0.out).mono ?_;rintro e W1 ⟨rfl,b1⟩;have HB1:=hX (HB0.out.trans (b1.mono HB0.out.size));have BA1:=hX ((BA0.out).below b1 (BA0.out).lt);have BB1:=hX ((BB0.out).below b1 (BB0.out).lt);clear p0_0 q0_0 p0_1 q0_1 p0_2 q0_2 p0_3 q0_3 p0_4 q0_4 p0_5 q0_5 p0_6 q0_6 p0_7 q0_7 p0_8 q0_8 p0_9 q0_9;obtain ⟨p1_0,p1_1,p1_2,p1_3,p1_4,p1_5,p1_6,p1_7,p1_8,p1_9⟩:=zas BA1.out;obtain ⟨q1_0,q1_1,q1_2,q1_3,q1_4,q1_5,q1_6,q1_7,q1_8,q1_9⟩:=zas BB1.out;clear b1;go_wp2_with fail;go_ret;rw[HXF.out];exact ⟨rfl,HB1.out⟩
 ·have hl1:((ks.length:Int) != (ks2.length:Int))=false:=by rw[hlen];simp
  have HL:=hX hlen;clear hlen;have HXK:Hid (x=true↔ks=ks2):=hX (by rw[HX.out];simp);clear HX;go_enter Tryz.func30,Tryz.ntmps30;go_wp2_with fail;refine (LO.out true (by simp) _ (below2 _ _)).mono ?_;rintro e W0 ⟨rfl,b0⟩;have HB0:=hX ((below2 _ _).trans (b0.mono (by simp;omega)):Below w.heap.size w W0);have BA0:=hX ((zg0 _ _ _ _ _).below b0 (by simp;omega));have BB0:=hX ((blk_b _ _ _ _ _).below b0 (by simp));obtain ⟨p0_0,p0_1,p0_2,p0_3,p0_4,p0_5,p0_6,p0_7,p0_8,p0_9⟩:=zas BA0.out;obtain ⟨q0_0,q0_1,q0_2,q0_3,q0_4,q0_5,q0_6,q0_7,q0_8,q0_9⟩:=zas BB0.out;clear b0;go_wp2_with fail;refine (HI.out true (by simp) _ HB0.out).mono ?_;rintro e W1 ⟨rfl,b1⟩;have HB1:=hX (HB0.out.trans (b1.mono HB0.out.size));have BA1:=hX ((BA0.out).below b1 (BA0.out).lt);have BB1:=hX ((BB0.out).below b1 (BB0.out).lt);clear p0_0 q0_0 p0_1 q0_1 p0_2 q0_2 p0_3 q0_3 p0_4 q0_4 p0_5 q0_5 p0_6 q0_6 p0_7 q0_7 p0_8 q0_8 p0_9 q0_9;obtain ⟨p1_0,p1_1,p1_2,p1_3,p1_4,p1_5,p1_6,p1_7,p1_8,p1_9⟩:=zas BA1.out;obtain ⟨q1_0,q1_1,q1_2,q1_3,q1_4,q1_5,q1_6,q1_7,q1_8,q1_9⟩:=zas BB1.out;clear b1;go_wp2_with fail;have CA:Hid (W1.cell? ⟨w.heap.size,9,none⟩=some (.slice AK ks.length cK)):=hX p1_9;have CB:Hid (W1.cell? ⟨w.heap.size+1,9,none⟩=some (.slice BK ks2.length dK)):=hX q1_9;have hzz:w.heap.size+2≤W1.heap.size:=BB1.out.lt;clear p1_0 q1_0 p1_1 q1_1 p1_2 q1_2 p1_3 q1_3 p1_4 q1_4 p1_5 q1_5 p1_6 q1_6 p1_7 q1_7 p1_8 q1_8 p1_9 q1_9
  go_loopw [5] (fun i wr=>∃k:Nat,k≤ks.length∧i = .int .i64 k∧Hid (ks.take k=ks2.take k)∧Hid (Below W1.heap.size W1 wr)) (fun i _=>ks.length - (intOf i).toNat);case atStart=>exact ⟨0,by omega,rfl,hX (by simp),hX (Below.refl _ _)⟩
  case round=>
   obtain ⟨k,hkk,rfl,HE,HW⟩:=hrel;have hcA:wr.cell? ⟨w.heap.size,9,none⟩=some (.slice AK ks.length cK):=(HW.out.cell (by show w.heap.size<_;omega)).trans CA.out;have hcB:wr.cell? ⟨w.heap.size+1,9,none⟩=some (.slice BK ks2.length dK):=(HW.out.cell (by show w.heap.size+1<_;omega)).trans CB.out;have hwz:=HW.out.size;by_cases hlt:k<ks.length
   ·have hlt2:k<ks2.length:=by have:=HL.out;omega
    have HWW:Hid (Below w.heap.size w wr):=hX (HB1.out.trans (HW.out.mono HB1.out.size));obtain ⟨ad,us,rfl,hba,au,lu,cu⟩:=EK.out k hlt;obtain ⟨bd,us2,rfl,hbb,au2,lu2,cu2⟩:=EB.out k hlt2;replace cu:=cu.keep (w':=wr) (fun p hp=>HWW.out.cell (by rw[hp,zab];exact hba));replace cu2:=cu2.keep (w':=wr) (fun p hp=>HWW.out.cell (by rw[hp,zab];exact hbb));have hok:=HK.out _ (List.getElem_mem hlt);have hok2:=HK2.out _ (List.getElem_mem hlt2);have hsz:ks[k].sz≤n:=by have:=QT.sz_kid (kd:=kd) (oc:=oc) (f:=f) (t:=t) (u:=u) (lo:=lo) (hi:=hi) (b:=b) (op:=op) (List.getElem_mem hlt);have:=HS.out;omega
    have HST:Hid (ks.take (k+1)=ks.take k++[ks[k]]∧ks2.take (k+1)=ks2.take k++[ks2[k]]):=hX ⟨zbc hlt,zbc hlt2⟩
    have HNE:Hid (¬ks[k]=ks2[k]→x=false):=hX (fun h=>by
     rcases zap HXK.out with ⟨e,_⟩ | ⟨_,e⟩
     ·exact absurd e (yax hlt hlt2 h)
     ·exact e)
    have hC:∀(y:Bool) (W:World),(y=true↔ks[k]=ks2[k])→Below w.heap.size w W→Calls Tryz.prog 30 #[.agg us.toArray,.agg us2.toArray] W (BoolB y W):=fun y W hy hW=>
     IH.out _ _ us us2 W hsz hok hok2 (AtL.below au hW (fun g hg=>Nat.lt_of_lt_of_le hg hW.size)) (AtL.below au2 hW (fun g hg=>Nat.lt_of_lt_of_le hg hW.size)) y hy
    have HC:=hX hC;clear hC hok hok2 hsz;generalize hx1:ks[k]=q1 at *;generalize hx2:ks2[k]=q2 at *;clear hx1 hx2;have HQ:Hid (q1=q2∨¬q1=q2):=hX (Classical.em _);obtain ⟨k1,o1,f1,t1,u1,l1,h1,b1,p1,e1⟩:=q1;obtain ⟨k2,o2,f2',t2',u2',l2,h2,b2',p2,e2⟩:=q2;obtain ⟨x5,x6,x9,rfl,-,-,-⟩:=zal au;obtain ⟨y5,y6,y9,rfl,-,-,-⟩:=zal au2;obtain ⟨a0,a1,a2,a3,a4,a5,a6,a7,a8,a9⟩:=ten cu;obtain ⟨b0,b1'',b2'',b3,b4,b5,b6,b7,b8,b9⟩:=ten cu2;clear cu cu2 au au2 lu lu2;go_upto_region 6 with fail;have hBW:Below w.heap.size w ({ wr with drawn:=wr.drawn+1 }:World):=HWW.out.trans ⟨rfl,rfl,rfl,Nat.le_refl _,fun _ _=>rfl⟩;have hBV:Below W1.heap.size W1 ({ wr with drawn:=wr.drawn+1 }:World):=HW.out.trans ⟨rfl,rfl,rfl,Nat.le_refl _,fun _ _=>rfl⟩;change ({ wr with drawn:=wr.drawn+1 }:World).cell? _=_ at hcA hcB a0 a1 a2 a3 a4 a5 a6 a7 a8 a9 b0 b1'' b2'' b3 b4 b5 b6 b7 b8 b9;refine wp_region_still_tail 10 (by kernel_rfl) (by kernel_rfl) ?_;simp only[List.take_succ_cons,List.take_zero,List.drop_succ_cons,List.drop_zero];clear HW HWW hwz;generalize ({ wr with drawn:=wr.drawn+1 }:World)=W at *;repeat still_step
    refine wpStill_nil ?_;change wpList _ _ _ _ _ _;have HBW:=hX hBW;have HBV:=hX hBV;clear hBW hBV;clear hcA hcB a0 a1 a2 a3 a4 a5 a6 a7 a8 a9 b0 b1'' b2'' b3 b4 b5 b6 b7 b8 b9;rcases HQ.out with hq | hq
    ·go_wp2_with fail;refine (HC.out true _ (by simpa using hq) HBW.out).mono ?_;rintro e W2 ⟨rfl,bW⟩;have BV:=hX (HBV.out.trans (bW.mono HBV.out.size));have HQ2:=hX hq;clear bW hq;go_wp2_with fail;go_roundw;case rel=>exact ⟨k+1,by omega,by go_num,hX (by rw[HST.out.1,HST.out.2,HE.out,HQ2.out]),BV⟩
     case measure=>simp[intOf];omega
    ·have HF:=hX (HNE.out hq);go_wp2_with fail;refine (HC.out false _ (by simpa using hq) HBW.out).mono ?_;rintro e W2 ⟨rfl,bW⟩;have BW:=hX (HBW.out.trans (bW.mono HBW.out.size));clear bW hq;go_wp2_with fail;go_ret;rw[HF.out];exact ⟨rfl,BW.out⟩
   ·obtain rfl:k=ks.length:=by omega
    have HT:Hid (x=true):=hX (HXK.out.2 (zr1 HE.out HL.out));go_wp2_with fail;go_ret;rw[HT.out];exact ⟨rfl,HB1.out.trans (HW.out.mono HB1.out.size)⟩
end Go.Proofs.YtplkbdncgkgppaaGreatDoor.Qry
end
