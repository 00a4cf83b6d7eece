/- Lemmas that the last text leans on. -/
import Derived.Test.YtplkbdncgkgppaaGreatDoorTake
import Derived.Test.YtplkbdncgkgppaaGreatDoorPack7
import Derived.Deep.QuietTactic
import Derived.BigQuiet
import Derived.StillTailTactics
import Derived.LoopTactic
import Derived.Test.YtplkbdncgkgppaaGreatDoorPack2
import Derived.Test.YtplkbdncgkgppaaGreatDoorPack10
import Derived.Laws.EntriesVeiled
set_option linter.all false
set_option maxRecDepth 100000
set_option maxHeartbeats 16000000
section
namespace Go.Proofs.YtplkbdncgkgppaaGreatDoor.Qry
open Go.RowKit Words Tree QryP Kit
def BoolB (b:Bool) (w:World) (e:Ending) (w':World):Prop:=e = .returned (.bool b)∧Below w.heap.size w w'
theorem reads_int {w:World} {B:Nat} {A:Option Addr} {l:List Int} {i:IntKind} (h:Reads w B 1 A l.length (l.map (Value.int i))) {k:Nat} (hk:k<l.length) :
 ∃ad,A=some ad∧ad.block<B∧w.cell? (ad.add k)=some (.int i l[k]):=by
 obtain ⟨ad,e,hb,hc⟩:=h.2 (by omega);exact ⟨ad,e,hb,hc k _ (by simp[hk])⟩
theorem zpa {w:World} (n:Nat):Below w.heap.size w (w.drewN n):=⟨rfl,rfl,rfl,Nat.le_refl _,fun _ _=>rfl⟩
theorem zbz {α:Type} {l:List α} {k:Nat} (h:k<l.length):l.take (k+1)=l.take k++[l[k]]:=List.take_succ_eq_append_getElem h
theorem zpb (ao bo:Option Addr) (c d:Nat) (xs ys:List Int) (w:World) (ha:Reads w w.heap.size 1 ao xs.length (xs.map (Value.int .i64))) (hb:Reads w w.heap.size 1 bo ys.length (ys.map (Value.int .i64))) (hla:xs.length*8≤140737488351232) (hlb:ys.length*8≤140737488351232) (r:Bool) (hr:r=true↔xs=ys) :
 Calls Tryz.prog 165 #[.slice ao xs.length c,.slice bo ys.length d] w (BoolB r w):=by
 have HA:=hX ha;have HB:=hX hb;have HR:=hX hr;clear ha hb hr;by_cases hl:xs.length=ys.length
 ·have HL:=hX hl;have hbne:((xs.length:Int) != (ys.length:Int))=false:=by rw[hl];simp
  clear hl;go_enter Tryz.func165,Tryz.ntmps165;go_wp2_with fail;go_loopw [13] (fun i wr=>∃(k m:Nat),k≤xs.length∧i = .int .i64 k∧Hid (xs.take k=ys.take k)∧wr=w.drewN m) (fun i _=>xs.length - (intOf i).toNat);case atStart=>exact ⟨0,0,by omega,rfl,hX (by simp),rfl⟩
  case round=>
   obtain ⟨k,m,hk,rfl,HE,rfl⟩:=hrel;by_cases hlt:k<xs.length
   ·have hlt2:k<ys.length:=by have:=HL.out;omega
    obtain ⟨ad,rfl,hba,a0⟩:=reads_int HA.out hlt;obtain ⟨bd,rfl,hbb,b0⟩:=reads_int HB.out hlt2;have HST:Hid (xs.take (k+1)=xs.take k++[xs[k]]∧ys.take (k+1)=ys.take k++[ys[k]]):=hX ⟨zbz hlt,zbz hlt2⟩
    have HNE:Hid (¬xs[k]=ys[k]→r=false):=hX (fun h=>by
     cases hr0:r with
     | false=>rfl
     | true=>
      have e:=HR.out.1 hr0;subst e
      exact absurd rfl h)
    by_cases he:xs[k]=ys[k]
    ·have HQ:=hX he;rw[←he] at b0;clear he HNE;generalize hx:xs[k]=x at *;clear hx;go_wp2_with fail;go_quiet (fail);go_wp2_with fail;go_roundw;case rel=>exact ⟨k+1,_,by omega,by go_num,hX (by rw[HST.out.1,HST.out.2,HE.out,←HQ.out]),by first | rfl | (rw[World.drewN_drewN])⟩
     case measure=>simp[intOf];omega
    ·have HRF:=hX (HNE.out he);have hne:(xs[k] != ys[k])=true:=by rw[bne_iff_ne];exact he
     clear he HNE HST;generalize xs[k]=x at *;generalize ys[k]=y at *;go_wp2_with fail;go_quiet (fail);go_wp2_with fail;go_ret;rw[HRF.out];exact ⟨rfl,⟨rfl,rfl,rfl,Nat.le_refl _,fun _ _=>rfl⟩⟩
   ·obtain rfl:k=xs.length:=by omega
    have hT:r=true:=(by rw[HR.out];have:=HE.out;rw[List.take_of_length_le (Nat.le_refl _),HL.out,List.take_of_length_le (Nat.le_refl _)] at this;exact this)
    have HRT:=hX hT;clear hT;go_wp2_with fail;go_ret;rw[HRT.out];exact ⟨rfl,zpa _⟩
 ·have hbne:((xs.length:Int) != (ys.length:Int))=true:=by rw[bne_iff_ne];omega
  have HRF:Hid (r=false):=hX (by
   cases hr0:r with
   | false=>rfl
   | true=>exact absurd (by rw[HR.out.1 hr0]) hl)
  clear hl;go_enter Tryz.func165,Tryz.ntmps165;go_wp2_with fail;go_ret;rw[HRF.out];exact ⟨rfl,Below.refl _ _⟩
end Go.Proofs.YtplkbdncgkgppaaGreatDoor.Qry
end
section
namespace Go.Proofs.YtplkbdncgkgppaaGreatDoor.Qry
open Go.RowKit Words Tree QryP Kit Owned
def zuy:List Value:=[.int .i64 (-71),.int .i64 0,.string ⟨#[]⟩,.string ⟨#[]⟩,.string ⟨#[]⟩,.slice none 0 0,.slice none 0 0,.int .i64 0,.int .i64 0,.slice none 0 0]
def lent:Nat→List (List Value):=fun s=>if s=1 then [[.int .i64 (-7171)]] else if s=10 then [zuy] else []
theorem lent_one:lent 1=[[.int .i64 (-7171)]]:=rfl
theorem ztl:lent 10=[zuy]:=rfl
theorem infoI64:(Tryz.prog.info? 2).map (fun i=>(i.zero,i.size,i.bytes))=some (some (.int .i64 0),1,8):=by kernel_rfl
theorem zuz:(Tryz.prog.info? 28).map (fun i=>(i.zero,i.size,i.bytes))=some (some (.agg #[.int .i64 0,.int .i64 0,.string ⟨#[]⟩,.string ⟨#[]⟩,.string ⟨#[]⟩,.slice none 0 0,.slice none 0 0,.int .i64 0,.int .i64 0,.slice none 0 0]),10,152):=by kernel_rfl
theorem cells_new (w:World) (l:List Value) (t:TypeId) (j:Nat) (u:Value) (h:l[j]?=some u):(w.alloc (.cells l.toArray t)).cell? ((⟨w.heap.size,0,none⟩:Addr).add j)=some u:=by
 have e:(⟨w.heap.size,0,none⟩:Addr).add j=⟨w.heap.size,j,none⟩:=by unfold Addr.add;split <;> simp_all
 rw[e,World.cell?_alloc_new];simpa using h
def LentT (t:T) (w:World) (e:Ending) (w':World):Prop:=∃v,e = .returned v∧T.At lent w' (fun g=>w.heap.size≤g∧g<w'.heap.size) t v∧Below w.heap.size w w'
theorem lent64_any (A:Option Addr) (c:Nat) (l:List Int) (w:World) (hr:Reads w w.heap.size 1 A l.length (l.map (Value.int .i64))) (hl:l.length*8≤140737488351232) :
 Calls Tryz.prog 24 #[.slice A l.length c] w (LentT (zen .i64 l) w):=by
 obtain ⟨i0,hi,hz0,hz1,hz2⟩:=info_parts infoI64;go_enter Tryz.func24,Tryz.ntmps24;go_wp2_with (at_builtin;refine zan _ rfl (.tmp 4) (.tmp 5) 25 rfl w.heap.size 2 i0 (.int .i64 0) 1 8 Tryz.underlying25 hi hz0 hz1 hz2 rfl (by decide) (.slice none 0 0) 0 [] rfl (World.ownsRow_nil _ _ _ _) w.heap.size A l.length c (l.map (Value.int .i64)) rfl hr ?c2 ?c3 ?c4 ?c5 ?_);case c2=>intro u hu;obtain ⟨z,_,rfl⟩:=List.mem_map.1 hu;rfl
 case c3=>unfold maxLen;omega
 case c4=>omega
 case c5=>exact Nat.le_refl _
 intro v1 w1 ho1 hg1 _;have hb1:Below w.heap.size w w1:=(Below.refl _ w).grown hg1 (Nat.le_refl _) (fun r e=>by cases e);replace ho1:w1.ownsRow w.heap.size 2 1 v1 l.length (l.map (Value.int .i64)):=by simpa using ho1
 have HB1:=hX hb1;have hsz1:=hb1.size;clear hg1 hb1;go_wp2_with (at_builtin;refine wpList_append_own _ rfl (.tmp 7) (.tmp 8) 25 rfl w.heap.size 2 i0 (.int .i64 0) 1 8 Tryz.underlying25 hi hz0 hz1 hz2 rfl (by decide) _ l.length (l.map (Value.int .i64)) rfl (ho1.alloc _) ⟨w1.heap.size,0,none⟩ 1 1 [.int .i64 (-7171)] rfl rfl ?d1 ?d2 ?d3 ?d4 ?d5 ?_);case d1=>intro j u hu;exact cells_new _ _ _ j u hu
 case d2=>intro u hu;simp at hu;subst hu;rfl
 case d3=>unfold maxLen;omega
 case d4=>omega
 case d5=>simp;omega
 intro v2 w2 ho2 hg2 _;have hb2:Below w.heap.size w w2:=(HB1.out.alloc HB1.out.size _).grown hg2 (by simp;omega) (fun r e=>(ho1.lt r e).1);have HB2:=hX hb2
 rcases ho2.2 with ⟨_,h0⟩ | ⟨g,cap,cur,rfl,hB,hgg,hn,hm,hcs,ht⟩
 ·omega
 ·have HOW:=hX (ho2.cells (g:=g) rfl);have HG:Hid (g<w2.heap.size):=hX (Array.getElem?_eq_some_iff.1 hgg).1;have hm':=hm;unfold maxLen at hm';clear hg2 hb2 ho1 hr hgg hcs ht ho2;go_wp2_with fail;go_ret;refine ⟨_,rfl,?_,HB2.out⟩;simp only[zen,T.At];refine ⟨_,cap,l.map (Value.int .i64),rfl,by simp[lent_one];omega,hm,by simp,fun _=>⟨_,rfl,⟨hB,HG.out⟩,?_⟩,AtL.of_lits⟩;rw[lent_one];exact HOW.out
end Go.Proofs.YtplkbdncgkgppaaGreatDoor.Qry
end
section
namespace Go.Proofs.YtplkbdncgkgppaaGreatDoor.Qry
open Go.RowKit Words Tree QryP Kit Owned
theorem zns {a b:Int} (h:¬a=b):(a != b)=true∧(a == b)=false:=⟨by rw[bne_iff_ne];exact h,by rw[beq_eq_false_iff_ne];exact h⟩
theorem zro {a b:ByteArray} (h:¬a=b):(a.toList != b.toList)=true∧(a.toList == b.toList)=false:=by
 have:¬a.toList=b.toList:=fun e=>by rw[ByteArray.toList_eq,ByteArray.toList_eq] at e;exact h (ByteArray.ext (Array.toList_inj.1 e))
 exact ⟨by rw[bne_iff_ne];exact this,by rw[beq_eq_false_iff_ne];exact this⟩
theorem below2 {w:World} (o1 o2:Obj):Below w.heap.size w ((w.alloc o1).alloc o2):=((Below.refl _ _).alloc (Nat.le_refl _) _).alloc (by simp) _
theorem blk_a (w:World) (cs ds:Array Value) (t t':TypeId):Blk ((w.alloc (.cells cs t)).alloc (.cells ds t')) w.heap.size t cs:=(Blk.new w t cs).alloc _
theorem blk_b (w:World) (cs ds:Array Value) (t t':TypeId):Blk ((w.alloc (.cells cs t)).alloc (.cells ds t')) (w.heap.size+1) t' ds:=by
 have:=Blk.new (w.alloc (.cells cs t)) t' ds;rwa [World.size_alloc] at this
theorem za6 {w:World} {g:Nat} {t:TypeId} {v0 v1 v2 v3 v4 v5 v6 v7 v8 v9:Value} (h:Blk w g t #[v0,v1,v2,v3,v4,v5,v6,v7,v8,v9]) :
 w.cell? ⟨g,0,none⟩=some v0∧w.cell? ⟨g,1,none⟩=some v1∧w.cell? ⟨g,2,none⟩=some v2∧w.cell? ⟨g,3,none⟩=some v3∧w.cell? ⟨g,4,none⟩=some v4∧w.cell? ⟨g,5,none⟩=some v5∧w.cell? ⟨g,6,none⟩=some v6∧w.cell? ⟨g,7,none⟩=some v7∧w.cell? ⟨g,8,none⟩=some v8∧w.cell? ⟨g,9,none⟩=some v9:=
 ⟨h.cell 0,h.cell 1,h.cell 2,h.cell 3,h.cell 4,h.cell 5,h.cell 6,h.cell 7,h.cell 8,h.cell 9⟩
theorem ten {w:World} {ad:Addr} {v0 v1 v2 v3 v4 v5 v6 v7 v8 v9:Value} (h:zb6 w ad [v0,v1,v2,v3,v4,v5,v6,v7,v8,v9]) :
 w.cell? ad=some v0∧w.cell? ⟨ad.block,ad.off+1,none⟩=some v1∧w.cell? ⟨ad.block,ad.off+2,none⟩=some v2∧w.cell? ⟨ad.block,ad.off+3,none⟩=some v3∧w.cell? ⟨ad.block,ad.off+4,none⟩=some v4∧
 w.cell? ⟨ad.block,ad.off+5,none⟩=some v5∧w.cell? ⟨ad.block,ad.off+6,none⟩=some v6∧w.cell? ⟨ad.block,ad.off+7,none⟩=some v7∧w.cell? ⟨ad.block,ad.off+8,none⟩=some v8∧w.cell? ⟨ad.block,ad.off+9,none⟩=some v9:=
 ⟨h.zero,h.at_ 1 _ rfl (by omega),h.at_ 2 _ rfl (by omega),h.at_ 3 _ rfl (by omega),h.at_ 4 _ rfl (by omega),h.at_ 5 _ rfl (by omega),h.at_ 6 _ rfl (by omega),h.at_ 7 _ rfl (by omega),h.at_ 8 _ rfl (by omega),h.at_ 9 _ rfl (by omega)⟩
theorem ya5 {α:Type} {l m:List α} (h:l.take l.length=m.take l.length) (hl:l.length=m.length):l=m:=by
 rw[List.take_of_length_le (Nat.le_refl _),hl,List.take_of_length_le (Nat.le_refl _)] at h;exact h
theorem ygl {ks js:List QT} {k:Nat} (h1:k<ks.length) (h2:k<js.length) (h:¬ks[k]=js[k]):¬ks=js:=fun e=>by subst e;exact h rfl
theorem zbp {b:Bool} {p:Prop} (h:b=true↔p):(p∧b=true)∨(¬p∧b=false):=by cases b <;> simp_all
end Go.Proofs.YtplkbdncgkgppaaGreatDoor.Qry
end
section
namespace Go.Proofs.YtplkbdncgkgppaaGreatDoor.Qry
open Go.RowKit Words Tree QryP Kit Sch
theorem zbd {w W:World} {q:QT} {us:List Value} (h:T.AtL bare w (fun g=>g<w.heap.size) (cells q) us) (hb:Below w.heap.size w W):T.AtL bare W (fun g=>g<W.heap.size) (cells q) us:=
 AtL.below h hb (fun g hg=>Nat.lt_of_lt_of_le hg hb.size)
theorem znt {sent:Nat→List (List Value)} {w:World} {S:Nat→Prop} {s n:Nat} {xs:List T} {v:Value} (h:T.At sent w S (.arr s n xs) v):∃A cap,v = .slice A n cap:=by
 simp only[T.At] at h;obtain ⟨A,cap,_,hv,_⟩:=h;exact ⟨A,cap,hv⟩
end Go.Proofs.YtplkbdncgkgppaaGreatDoor.Qry
end
section
namespace Go.Proofs.YtplkbdncgkgppaaGreatDoor.Qry
open Go.RowKit Words Tree QryP Kit
section
variable {B b T Q P:Nat} {kd oc:Int} {f t u:ByteArray} {lo hi:List Int} {bo op:Int} {n:Nat} {L Hh K:Option Addr} {cl ch ck:Nat} {l0:List UInt8} {w0 w:World} {ps:List (List UInt8)}
theorem ya6 (h:WS B b T Q P kd oc f t u lo hi bo op n L Hh K cl ch ck l0 w0 ps w) (o:Obj):WS B b T Q P kd oc f t u lo hi bo op n L Hh K cl ch ck l0 w0 ps (w.alloc o):=by
 have hB:B≤w.heap.size:=by have:=h.buf.ge;have:=h.buf.size;omega
 have hw:Wr B (fun g=>g=b) w (w.alloc o):=(Wr.refl _ _ _).alloc hB o;exact ⟨h.caps.wr hw h.caps.tb h.caps.qb,h.buf.keep ((Below.refl _ _).alloc (Nat.le_refl _) _),h.cnt.alloc o,h.wr.trans hw,h.pb,h.tp,h.qp,h.new,h.bp⟩
theorem ygm (h:WS B b T Q P kd oc f t u lo hi bo op n L Hh K cl ch ck l0 w0 ps w) {kd' oc':Int} {f' t' u':ByteArray} {lo' hi':List Int} {bo' op':Int} {ks':List QT} {L' H' K':Option Addr} {nl cl' nh ch' nk ck':Nat}
 (hau:Tree.T.AtL bare w0 (fun g=>g<B) (cells (.mk kd' oc' f' t' u' lo' hi' bo' op' ks')) [.int .i64 kd',.int .i64 oc',.string f',.string t',.string u',.slice L' nl cl',.slice H' nh ch',.int .i64 bo',.int .i64 op',.slice K' nk ck'])
 (ho:oc'=0∨oc'=1∨oc'=2∨oc'=3∨oc'=4)
 (hd:∀(l:List UInt8) (vs:List Value) (W:World),Below B w0 W→Tree.T.AtL bare W (fun g=>g<B) (cells (.mk kd' oc' f' t' u' lo' hi' bo' op' ks')) vs→Buf B b l W→l.length+(zbw zap (.mk kd' oc' f' t' u' lo' hi' bo' op' ks')).length+100≤zfx→Calls Tryz.prog 55 #[.pointer (some ⟨b,0,none⟩),.agg vs.toArray] W (zl4 B b l (zbw zap (.mk kd' oc' f' t' u' lo' hi' bo' op' ks')) W))
 (hn:ps.length≤1000000000000000000) (hm:l0.length+(zby [44,32] (ps++[markF oc'++zbw zap (.mk kd' oc' f' t' u' lo' hi' bo' op' ks')])).length+101≤zfx) :
 Calls Tryz.prog 88 #[.func (.func 101) #[] #[.pointer (some ⟨w.heap.size,0,none⟩),.pointer (some ⟨T,0,none⟩)],.pointer (some ⟨P,0,none⟩),.pointer (some ⟨T,0,none⟩)]
  (w.alloc (.cells #[.int .i64 kd',.int .i64 oc',.string f',.string t',.string u',.slice L' nl cl',.slice H' nh ch',.int .i64 bo',.int .i64 op',.slice K' nk ck'] 28))
  (fun e w'=>e = .returned (.tuple #[])∧WS B b T Q P kd oc f t u lo hi bo op n L Hh K cl ch ck l0 w0 (ps++[markF oc'++zbw zap (.mk kd' oc' f' t' u' lo' hi' bo' op' ks')]) w'):=by
 have hbs:=h.buf.size;have hps:=h.cnt.lt;have hB:B≤w.heap.size:=by have:=h.buf.ge;omega
 refine znq (ya6 h _) 101 _ (enters_of Tryz.func101 (by kernel_rfl) rfl) (by omega) hn (fun W hC hW hb hl=>?_);have hKW:=hW.blk (Blk.new w 28 #[.int .i64 kd',.int .i64 oc',.string f',.string t',.string u',.slice L' nl cl',.slice H' nh ch',.int .i64 bo',.int .i64 op',.slice K' nk ck']) (by omega) (by decide);have hbel:Below B w0 W:=(h.wr.below.trans ((Below.refl B w).alloc hB _)).trans hW.below
 have hI:∀(W':World) (l':List UInt8),Wr B (fun g=>g=b) W W'→Buf B b l' W'→l'.length+(zbw zap (.mk kd' oc' f' t' u' lo' hi' bo' op' ks')).length+100≤zfx→
  Calls Tryz.prog 55 #[.pointer (some ⟨b,0,none⟩),.agg #[.int .i64 kd',.int .i64 oc',.string f',.string t',.string u',.slice L' nl cl',.slice H' nh ch',.int .i64 bo',.int .i64 op',.slice K' nk ck']] W' (zl4 B b l' (zbw zap (.mk kd' oc' f' t' u' lo' hi' bo' op' ks')) W'):=fun W' l' hw hb' hlen=>
  hd l' _ W' (hbel.trans hw.below) (AtL.below hau (hbel.trans hw.below) (fun g hg=>hg)) hb' hlen
 have hlm:∀o:Int,(markF o).length≤1:=fun o=>by unfold markF;split <;> simp
 have hl2:=hl;simp only[List.length_append] at hl2;rcases ho with rfl | rfl | rfl | rfl | rfl
 ·exact yit hC.tB hKW h.caps.tb (by omega) hb (by simp only[List.length_append];omega) (fun W' hw hb'=>hI W' _ hw hb' (by simp only[List.length_append];omega))
 ·exact yiu hC.tB hKW h.caps.tb (by omega) hb (by simp only[List.length_append];omega) (fun W' hw hb'=>hI W' _ hw hb' (by have:(markF 1).length=1:=rfl;simp only[List.length_append,List.length_cons,List.length_nil];omega))
 ·exact yiv hC.tB hKW h.caps.tb (by omega) hb (by simp only[List.length_append];omega) (fun W' hw hb'=>hI W' _ hw hb' (by have:(markF 2).length=1:=rfl;simp only[List.length_append,List.length_cons,List.length_nil];omega))
 ·exact yiw hC.tB hKW h.caps.tb (by omega) hb (by simp only[List.length_append];omega) (fun W' hw hb'=>hI W' _ hw hb' (by have:(markF 3).length=1:=rfl;simp only[List.length_append,List.length_cons,List.length_nil];omega))
 ·exact yix hC.tB hKW h.caps.tb (by omega) hb (by simp only[List.length_append];omega) (fun W' hw hb'=>hI W' _ hw hb' (by have:(markF 4).length=1:=rfl;simp only[List.length_append,List.length_cons,List.length_nil];omega))
end
end Go.Proofs.YtplkbdncgkgppaaGreatDoor.Qry
end
section
namespace Go.Proofs.YtplkbdncgkgppaaGreatDoor.Qry
open Go.RowKit Words Tree QryP Kit
theorem zk0 {ps rest:List (List UInt8)} {x:List UInt8} {all:List (List UInt8)} (e:all=(ps++[x])++rest):(zby [44,32] (ps++[x])).length≤(zby [44,32] all).length:=by rw[e];exact zky _ _ _
theorem yec {a b c m:Nat} (h:a+b+101≤m) (k:c≤b):a+c+50≤m:=by omega
theorem ygn {L:List UInt8} {x y:List (List UInt8)} {m:Nat} (h:L.length+(zby [44,32] y).length+101≤m) (e:x=y):(L++zby [44,32] x).length+1≤m:=by subst e;simp only[List.length_append];omega
theorem yed {a b c d x m:Nat} (h:a+b+101≤m) (k:c≤b) (e:d+x=a+c):d+x≤m:=by omega
theorem zpc {ks:List QT} {k:Nat} (h:k<ks.length):(zbm zap ks).take (k+1)=(zbm zap ks).take k++[markF (QryP.oc ks[k])++zbw zap ks[k]]:=by
 rw[zke,←List.map_take,←List.map_take,List.take_succ_eq_append_getElem h,List.map_append];rfl
theorem ya7 {ks:List QT} {k m:Nat} {l0:List UInt8} {pc:List (List UInt8)} (h:k<ks.length) (hm:l0.length+(zby [44,32] (pc++zbm zap ks)).length+101≤m):l0.length+(zby [44,32] (pc++(zbm zap ks).take k++[markF (QryP.oc ks[k])++zbw zap ks[k]])).length+101≤m:=by
 have:=zk0 (all:=pc++zbm zap ks) (ps:=pc++(zbm zap ks).take k) (x:=markF (QryP.oc ks[k])++zbw zap ks[k]) (rest:=(zbm zap ks).drop (k+1)) (by
  rw[List.append_assoc pc,←zpc h,List.append_assoc,List.take_append_drop])
 omega
structure Ask (B b:Nat) (l0:List UInt8) (kd oc:Int) (f t u:ByteArray) (lo hi:List Int) (bo op:Int) (ks:List QT) (L Hh K:Option Addr) (ck:Nat) (w:World):Prop where
 buf:Buf B b l0 w
 low:Reads w B 1 L lo.length (lo.map (Value.int .i64))
 high:Reads w B 1 Hh hi.length (hi.map (Value.int .i64))
 kids:T.At bare w (fun g=>g<B) (.arr 10 ks.length (zau ks)) (.slice K ks.length ck)
 pow:∀W,Below B w W→Lib.TabIs Tryz.prog W "internal/strconv.uint64pow10" .u64 Lib.pow10Tab
 len:l0.length+(zbw zap (.mk kd oc f t u lo hi bo op ks)).length+100≤zfx
 ok:Ok (.mk kd oc f t u lo hi bo op ks)
 occ:∀k∈ks,QryP.oc k=0∨QryP.oc k=1∨QryP.oc k=2∨QryP.oc k=3∨QryP.oc k=4
 down:∀k∈ks,∀(l:List UInt8) (vs:List Value) (W:World),Below B w W→T.AtL bare W (fun g=>g<B) (cells k) vs→Buf B b l W→l.length+(zbw zap k).length+100≤zfx→Calls Tryz.prog 55 #[.pointer (some ⟨b,0,none⟩),.agg vs.toArray] W (zl4 B b l (zbw zap k) W)
section
variable {B b:Nat} {kd oc:Int} {f t u:ByteArray} {lo hi:List Int} {bo op:Int} {ks:List QT} {L Hh K:Option Addr} {cl ch ck:Nat} {w:World} {l0:List UInt8}
theorem zxi (h:Ask B b l0 kd oc f t u lo hi bo op ks L Hh K ck w) (hk:(kd=1∨kd=2)∨((kd=3∨kd=4)∧f.toList.isEmpty=false)∨(kd=8∧f=⟨#[]⟩)∨(kd=9∧f=⟨#[]⟩)) :
 Calls Tryz.prog 55 #[.pointer (some ⟨b,0,none⟩),.agg #[.int .i64 kd,.int .i64 oc,.string f,.string t,.string u,.slice L lo.length cl,.slice Hh hi.length ch,.int .i64 bo,.int .i64 op,.slice K ks.length ck]] w (zl4 B b l0 (zbw zap (.mk kd oc f t u lo hi bo op ks)) w):=by
 have hmf:∀(fn:Fn) (first cap:Array Value) (w:World),(Instr.makeFunc fn first cap).run Tryz.prog w = .ok (.func fn first cap) w:=fun _ _ _ _=>rfl;have HA:=hX h;have hBw:B≤w.heap.size:=by have:=h.buf.ge;have:=h.buf.size;omega
 have hbw:b<w.heap.size:=h.buf.size
 have HOK:Hid (t.size≤140737488351232∧I64 bo∧ks.length*152≤140737488351232):=hX (by
  cases h.ok with
  | mk _ _ _ a2 _ _ _ a6 _ a8 _=>exact ⟨a2,a6,a8⟩)
 have HKK:=hX hk
 obtain ⟨pc,hpc⟩:∃x,zhh zap (.mk kd oc f t u lo hi bo op ks)=x:=⟨_,rfl⟩
 have HPP:=hX hpc;have HPL:Hid (pc.length≤3):=hX (by rw[←hpc];unfold zhh;(repeat' split) <;> simp)
 have hW:zbw zap (.mk kd oc f t u lo hi bo op ks)=if kd=1∨kd=2 then wordF kd else wordF kd++40::(zby [44,32] (pc++zbm zap ks)++[41]):=(by rw[zbw,hpc])
 have HWF:=hX hW;have hlen:=h.len;rw[hW] at hlen ⊢;have HLE:=hX hlen
 have HLW:Hid (l0.length+(wordF kd).length≤zfx):=hX (by
  split at hlen
  ·omega
  ·rw[List.length_append] at hlen;omega)
 have hkd:1≤kd∧kd≤10:=by omega
 obtain ⟨out,hout⟩:∃x,(if kd=1∨kd=2 then wordF kd else wordF kd++40::(zby [44,32] (pc++zbm zap ks)++[41]))=x:=⟨_,rfl⟩
 rw[hout];have HO:=hX hout;have hck:=h.kids;clear h hW hlen hk hpc hout;go_enter Tryz.func55,Tryz.ntmps55;go_upto_region 1 with fail;have HT0:=hX ((Blk.new w 108 #[.pointer (some ⟨b,0,none⟩)]).alloc (.cells #[.int .i64 kd,.int .i64 oc,.string f,.string t,.string u,.slice L lo.length cl,.slice Hh hi.length ch,.int .i64 bo,.int .i64 op,.slice K ks.length ck] 28));have HQ0:=hX (zfo w (.cells #[.pointer (some ⟨b,0,none⟩)] 108) #[.int .i64 kd,.int .i64 oc,.string f,.string t,.string u,.slice L lo.length cl,.slice Hh hi.length ch,.int .i64 bo,.int .i64 op,.slice K ks.length ck] 28);have HW0:=hX (((Below.refl w.heap.size w).alloc (Nat.le_refl _) (.cells #[.pointer (some ⟨b,0,none⟩)] 108)).alloc (by simp) (.cells #[.int .i64 kd,.int .i64 oc,.string f,.string t,.string u,.slice L lo.length cl,.slice Hh hi.length ch,.int .i64 bo,.int .i64 op,.slice K ks.length ck] 28));generalize ((w.alloc (.cells #[.pointer (some ⟨b,0,none⟩)] 108)).alloc (.cells #[.int .i64 kd,.int .i64 oc,.string f,.string t,.string u,.slice L lo.length cl,.slice Hh hi.length ch,.int .i64 bo,.int .i64 op,.slice K ks.length ck] 28))=W0 at *;have hz0:w.heap.size+1<W0.heap.size:=HQ0.out.lt;have HB0:=hX (HA.out.buf.keep HW0.out);refine wp_region_held_drew (S:=fun V=>Wr B (fun g=>g=b) W0 V) (by kernel_rfl) ((Wr.refl B _ W0).drew) (fun hSd0=>?_)
 refine' tk 0 (by simp only[tkD,tkE,tkG];rfl) (by kernel_rfl) (by exact fun _ _ _ h=>h) (by rfl) hSd0 (by intro V hSw;have fq:=(hSw.blk HT0.out (by omega) (by decide)).cell 0;clear hSw;go_simp;try with_reducible rfl) ?_;try simp only[Act.put,tkA,tkB,tkC]
 refine' tk 1 (by simp only[tkD,tkE,tkG];rfl) (by kernel_rfl) (by exact fun _ _ _ h=>h) (by rfl) hSd0 (by intro V hSw;clear hSw;go_simp;try with_reducible rfl) ?_;try simp only[Act.put,tkA,tkB,tkC]
 refine' tk 2 (by simp only[tkD,tkE,tkG];rfl) (by kernel_rfl) (by exact fun _ _ _ h=>h) (by rfl) hSd0 (by intro V hSw;have fq:=(hSw.blk HQ0.out (by omega) (by decide)).cell 0;clear hSw;go_simp;try with_reducible rfl) ?_;try simp only[Act.put,tkA,tkB,tkC]
 refine wpAnyH_ready (rs:=[3]) (by kernel_rfl) (by simp) ?_;refine' AllReadyH.cons (by simp only[tkD,tkE,tkG];rfl) (fun KC hK=>?_) AllReadyH.nil;go_simp;refine (word_any kd _ hkd).mono ?_;rintro e V ⟨rfl,rfl⟩;go_simp;refine hK.out _ _ hSd0 (fun hSd1=>?_);clear hK;try simp only[Act.put,tkA,tkB,tkC]
 refine wpAnyH_ready (rs:=[4]) (by kernel_rfl) (by simp) ?_;refine' AllReadyH.cons (by simp only[tkD,tkE,tkG];rfl) (fun KC hK=>?_) AllReadyH.nil;go_simp;refine (zea B b l0 (str (wordF kd)) _ (HB0.out.keep (Below.refl _ W0).drew) HLW.out).mono ?_;rintro e W1 ⟨rfl,hb,hw⟩;have hw1:=((Wr.refl B (fun g=>g=b) W0).drew).trans hw;have HB1:=hX hb;have HW1:=hX hw1;clear hb hw;go_simp;refine hK.out _ _ hw1 (fun hSd2=>?_);clear hK hw1;try simp only[Act.put,tkA,tkB,tkC]
 refine wpAnyH_done (by kernel_rfl) ?_ _;clear hSd0 hSd1 hSd2;have HT1:=hX (HW1.out.blk HT0.out (by omega) (by decide));have HQ1:=hX (HW1.out.blk HQ0.out (by omega) (by decide));have hz1:w.heap.size+1<W1.heap.size:=HQ1.out.lt;have HWw1:=hX ((Wr.same (S:=fun g=>g=b) HW0.out hBw).trans HW1.out);obtain ⟨c0,c1,c2,c3,c4,c5,c6,c7,c8,c9⟩:=zmw HQ1.out;have cT:W1.cell? ⟨w.heap.size,0,none⟩=some (.pointer (some ⟨b,0,none⟩)):=HT1.out.cell 0;clear hkd;rcases HKK.out with hk | hk
 ·have ho:=HO.out;rw[if_pos hk] at ho;subst ho;rcases hk with rfl | rfl <;>
  (go_wp2_with fail;(first | go_end0 | (refine bodyPost_ret (results_none rfl _ _ _) rfl ?_));exact ⟨rfl,HB1.out,HWw1.out⟩)
 have hn12:¬(kd=1∨kd=2):=by omega
 obtain ⟨LL,hLL⟩:∃x,l0++wordF kd++[40]=x:=⟨_,rfl⟩
 have HM:Hid (LL.length+(zby [44,32] (pc++zbm zap ks)).length+101≤zfx∧(l0++wordF kd).length+1≤zfx):=hX (by
  have:=HLE.out;rw[if_neg hn12] at this;subst hLL;simp only[List.length_append,List.length_cons,List.length_nil] at *
  omega)
 have HFIN:Hid (LL++zby [44,32] (pc++zbm zap ks)++[41]=l0++out):=hX (by
  rw[←HO.out,if_neg hn12,←hLL]
  simp[List.append_assoc])
 have HLL:=hX hLL;have hn1:(kd == 1)=false:=by rw[beq_eq_false_iff_ne];omega
 have hn2:(kd == 2)=false:=by rw[beq_eq_false_iff_ne];omega
 clear hn12 hLL;go_upto_region 5 with fail;have HT2:Hid (Blk (W1.alloc (.cells #[.int .i64 0] 3)) w.heap.size 108 #[.pointer (some ⟨b,0,none⟩)]):=hX (HT1.out.alloc _);have HQ2:=hX (HQ1.out.alloc (.cells #[.int .i64 0] 3));have HP2:=hX (Blk.new W1 3 #[.int .i64 0]);have HWw2:=hX (HWw1.out.alloc (by omega) (.cells #[.int .i64 0] 3));have HB2:=hX (HB1.out.keep ((Below.refl _ W1).alloc (Nat.le_refl _) (.cells #[.int .i64 0] 3)));have HBY:=hX (zb5 B b _ 40 _ HB2.out HM.out.2);have hzP:w.heap.size+1<W1.heap.size:=hz1;generalize W1.alloc (.cells #[.int .i64 0] 3)=W2 at *;generalize W1.heap.size=PP at *;clear c0 c1 c2 c3 c4 c5 c6 c7 c8 c9 cT;have cT:W2.cell? ⟨w.heap.size,0,none⟩=some (.pointer (some ⟨b,0,none⟩)):=HT2.out.cell 0;go_wp2_with fail;refine HBY.out.mono ?_;rintro e V0 ⟨rfl,hb,hw⟩
 obtain ⟨IW,hIW⟩:∃I,WS B b w.heap.size (w.heap.size+1) PP kd oc f t u lo hi bo op ks.length L Hh K cl ch ck LL w=I:=⟨_,rfl⟩
 have HIW:=hX hIW
 have HV0:Hid (IW [] V0):=hX (by
  rw[←hIW,←HLL.out];have hwv:=HWw2.out.trans hw;have hb':Buf B b (l0++wordF kd++[40]) V0:=hb
  exact ⟨⟨hw.blk HT2.out (by omega) (by decide),hw.blk HQ2.out (by omega) (by decide),HA.out.low.below hwv.below,HA.out.high.below hwv.below,HA.out.pow _ hwv.below,fun V hV=>HA.out.pow _ (hwv.below.trans hV),by omega,by omega⟩,by simpa [zby] using hb',hw.blk HP2.out (by omega) (by decide),hwv,by omega,by omega,by omega,by omega,by omega⟩)
 clear hb hw cT HBY hIW;rcases hk with hB | hC | hD
 all_goals
  first
  | (obtain ⟨hk,hf⟩:=hB
     have HPE:Hid (pc=[f.data.toList,zcw t]):=hX (by rw[←HPP.out,zhh];exact if_pos (show kd=3∨kd=4∨kd=5 by omega));have HPC:Hid (pc++zbm zap ks=([]++[f.data.toList])++([zcw t]++zbm zap ks)):=hX (by rw[HPE.out];rfl);have n9:(kd == 9)=false:=by rw[beq_eq_false_iff_ne];omega
     have n10:(kd == 10)=false:=by rw[beq_eq_false_iff_ne];omega
     have n6:(kd == 6)=false:=by rw[beq_eq_false_iff_ne];omega
     have hv0:=HIW.out ▸ HV0.out;obtain ⟨c0,c1,c2,c3,c4,c5,c6,c7,c8,c9⟩:=zmw hv0.caps.qB;have HPT:=hX (znq (x:=f.data.toList) hv0 93 #[.pointer (some ⟨w.heap.size,0,none⟩),.pointer (some ⟨w.heap.size+1,0,none⟩)] (enters_of Tryz.func93 (by kernel_rfl) rfl) (yec HM.out.1 (zk0 (ps:=[]) (x:=f.data.toList) HPC.out)) (by simp) (fun W hC hW hb hl=>yio hC hb (yed HM.out.1 (zk0 (ps:=[]) (x:=f.data.toList) HPC.out) hl)));clear hv0;go_wp2_with fail;refine HPT.out.mono ?_;rintro e V1 ⟨rfl,hv⟩;rw[HIW.out] at hv;have HV1:=hX hv;clear hv HPT c0 c1 c2 c3 c4 c5 c6 c7 c8 c9 HV0;replace HPC:Hid (pc++zbm zap ks=([f.data.toList]++[zcw t])++([]++zbm zap ks)):=hX (by rw[HPE.out];rfl)
     rcases hk with rfl | rfl <;> (
      have hv0:=HIW.out ▸ HV1.out;obtain ⟨c0,c1,c2,c3,c4,c5,c6,c7,c8,c9⟩:=zmw hv0.caps.qB;have HPT:=hX (znq (x:=zcw t) hv0 97 #[.pointer (some ⟨w.heap.size,0,none⟩),.pointer (some ⟨w.heap.size+1,0,none⟩)] (enters_of Tryz.func97 (by kernel_rfl) rfl) (yec HM.out.1 (zk0 (ps:=[f.data.toList]) (x:=zcw t) HPC.out)) (by simp) (fun W hC hW hb hl=>yip hC hb (yed HM.out.1 (zk0 (ps:=[f.data.toList]) (x:=zcw t) HPC.out) hl) HOK.out.1));clear hv0;go_wp2_with fail;refine HPT.out.mono ?_;rintro e VE ⟨rfl,hv⟩;rw[HIW.out] at hv;have HVE:=hX hv;clear hv HPT c0 c1 c2 c3 c4 c5 c6 c7 c8 c9 HV1
      replace HVE:Hid (IW pc VE):=hX (by rw[HPE.out];exact HVE.out)))
  | (obtain ⟨rfl,rfl⟩:=hC
     obtain ⟨VE,hve⟩:∃x,V0=x:=⟨_,rfl⟩
     subst hve
     have HVE:Hid (IW pc V0):=hX (by rw[←HPP.out];exact HV0.out))
  | (obtain ⟨rfl,rfl⟩:=hD
     have HPE:Hid (pc=[zap bo]):=hX HPP.out.symm;have HPC:Hid (pc++zbm zap ks=([]++[zap bo])++([]++zbm zap ks)):=hX (by rw[HPE.out];rfl);have hv0:=HIW.out ▸ HV0.out;obtain ⟨c0,c1,c2,c3,c4,c5,c6,c7,c8,c9⟩:=zmw hv0.caps.qB;have HPT:=hX (znq (x:=zap bo) hv0 90 #[.pointer (some ⟨w.heap.size,0,none⟩),.pointer (some ⟨w.heap.size+1,0,none⟩)] (enters_of Tryz.func90 (by kernel_rfl) rfl) (yec HM.out.1 (zk0 (ps:=[]) (x:=zap bo) HPC.out)) (by simp) (fun W hC hW hb hl=>yiq hC hb (yed HM.out.1 (zk0 (ps:=[]) (x:=zap bo) HPC.out) hl) HOK.out.2.1));clear hv0;go_wp2_with fail;refine HPT.out.mono ?_;rintro e VE ⟨rfl,hv⟩;rw[HIW.out] at hv;have HVE:=hX hv;clear hv HPT c0 c1 c2 c3 c4 c5 c6 c7 c8 c9 HV0
     replace HVE:Hid (IW pc VE):=hX (by rw[HPE.out];exact HVE.out))
 all_goals
  have hv0:=HIW.out ▸ HVE.out;obtain ⟨c0,c1,c2,c3,c4,c5,c6,c7,c8,c9⟩:=zmw hv0.caps.qB;clear hv0;go_wp2_with fail;obtain ⟨_,_,hke,hckA,hmkA,helK⟩:=zco hck;injection hke with hk1 _ hk3;subst hk1 hk3;have HKS:=hX helK;clear helK hckA;go_loopw [75] (fun i wr=>∃k:Nat,k≤ks.length∧i = .int .i64 k∧Hid (IW (pc++(zbm zap ks).take k) wr)) (fun i _=>ks.length - (intOf i).toNat);case atStart=>exact ⟨0,by omega,rfl,hX (by rw[List.take_zero,List.append_nil];exact HVE.out)⟩
  case round=>
   clear c0 c1 c2 c3 c4 c5 c6 c7 c8 c9 HVE;obtain ⟨k,hk,rfl,HQ⟩:=hrel;have HQ':=hX (HIW.out ▸ HQ.out);by_cases hlt:k<ks.length
   ·have hlt2:(k:Int)<(ks.length:Int):=by omega
    obtain ⟨ad,us,hKe,hba,au,lu,cu⟩:=HKS.out k hlt;subst hKe;replace cu:=cu.keep (w':=wr) (fun p hp=>HQ'.out.wr.below.cell (by rw[hp,zaa];exact hba));have HD:=hX (HA.out.down ks[k] (List.getElem_mem _));have hocc:=HA.out.occ ks[k] (List.getElem_mem _);have HX:=hX (zpc hlt);have HAL:=hX (ya7 (l0:=LL) (pc:=pc) hlt HM.out.1);have hks:=HOK.out.2.2;generalize hq:ks[k]=q at *;obtain ⟨kd',oc',f',t',u',lo',hi',b',op',ks'⟩:=q;obtain ⟨vl,vh,vk,rfl,hvl,hvh,hkk⟩:=zao au;obtain ⟨B1,d1,rfl,_⟩:=za9 hvl;obtain ⟨B2,d2,rfl,_⟩:=za9 hvh;obtain ⟨B3,d3,rfl⟩:=znt hkk;obtain ⟨a0,a1,a2,a3,a4,a5,a6,a7,a8,a9⟩:=ten cu;have HKID:=hX (ygm HQ'.out au hocc HD.out (by have:=HPL.out;simp only[List.length_append,List.length_take];omega) HAL.out);clear hq au hvl hvh hkk cu lu hocc HD HAL HQ HQ';go_wp2_with fail;refine HKID.out.mono ?_;rintro e w2 ⟨rfl,hv⟩;have HV:Hid (IW (pc++(zbm zap ks).take (k+1)) w2):=hX (by rw[HX.out,←List.append_assoc,←HIW.out];exact hv);clear hv a0 a1 a2 a3 a4 a5 a6 a7 a8 a9 HKID;go_wp2_with fail;go_roundw;case rel=>exact ⟨k+1,by omega,by go_num,HV⟩
    case measure=>simp[intOf];omega
   ·obtain rfl:k=ks.length:=by omega
    have hall:pc++(zbm zap ks).take ks.length=pc++zbm zap ks:=by rw[List.take_of_length_le (by rw[zke];simp)]
    rw[hall] at HQ';have HBZ:=hX (zb5 B b _ 41 _ HQ'.out.buf (ygn HM.out.1 rfl));have cT:=HQ'.out.caps.tB.cell 0;clear hall;go_wp2_with fail;refine HBZ.out.mono ?_;rintro e W9 ⟨rfl,hb,hw⟩;have HB9:=hX hb;have HW9:=hX (HQ'.out.wr.trans hw);clear hb hw cT;go_wp2_with fail;go_end0;exact ⟨rfl,by rw[←HFIN.out];exact HB9.out,HW9.out⟩
end
end Go.Proofs.YtplkbdncgkgppaaGreatDoor.Qry
end
