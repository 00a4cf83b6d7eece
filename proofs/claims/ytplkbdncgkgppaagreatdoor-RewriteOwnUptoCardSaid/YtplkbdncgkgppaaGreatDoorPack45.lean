/- Lemmas that the last text leans on. -/
import Derived.Test.YtplkbdncgkgppaaGreatDoorTake
import Derived.Test.YtplkbdncgkgppaaGreatDoorRwPart
import Derived.Test.YtplkbdncgkgppaaGreatDoorPack34
import Derived.Test.YtplkbdncgkgppaaGreatDoorPack22
import Derived.Deep.CutRange
import Derived.Test.YtplkbdncgkgppaaGreatDoorPack43
set_option linter.all false
set_option maxRecDepth 100000
set_option maxHeartbeats 16000000
section
namespace Go.Proofs.YtplkbdncgkgppaaGreatDoor.Qry
open Go.RowKit Words Tree QryP Kit Owned Sch SchP RewP Ana Qck QckP FoldNext
section
variable {B:Nat} {l:List FT} {u:Value}
theorem zrd (n:Nat) (IHn:yah B l u n):yah B l u (n+1):=by
 intro q s us bs w hn hfit hsnd hq hnd hm;obtain ⟨k,o,f,t,p,lo,hi,b,op,ks⟩:=q;obtain ⟨c1,c2,c3,A1,A2,A3,rfl⟩:=OQ.forms hq;have hmem:=hq.mem;obtain ⟨hb0,hsz0,bm0,bq0,br0⟩:=zk4 w #[u] #[.int .i64 k,.int .i64 o,.string f,.string t,.string p,.slice A1 lo.length c1,.slice A2 hi.length c2,.int .i64 b,.int .i64 op,.slice A3 ks.length c3] #[.int .i64 0,.int .i64 0,.string ⟨#[]⟩,.string ⟨#[]⟩,.string ⟨#[]⟩,.slice none 0 0,.slice none 0 0,.int .i64 0,.int .i64 0,.slice none 0 0] 57 28 28;have HP:=hX (part_step n IHn k o b op f t p lo hi ks s _ bs (((w.alloc (.cells #[u] 57)).alloc (.cells #[.int .i64 k,.int .i64 o,.string f,.string t,.string p,.slice A1 lo.length c1,.slice A2 hi.length c2,.int .i64 b,.int .i64 op,.slice A3 ks.length c3] 28)).alloc (.cells #[.int .i64 0,.int .i64 0,.string ⟨#[]⟩,.string ⟨#[]⟩,.string ⟨#[]⟩,.slice none 0 0,.slice none 0 0,.int .i64 0,.int .i64 0,.slice none 0 0] 28)) hn hfit hsnd (hq.below hb0 (Nat.le_refl _)) hnd (hm.next (hb0.mono hm.hB)))
 obtain ⟨PP,hPP⟩:∃PP,zqp l s (.mk k o f t p lo hi b op (zck l s ks))=PP:=⟨_,rfl⟩
 obtain ⟨RR,hRR⟩:∃RR,zg7 l s (.mk k o f t p lo hi b op ks)=RR:=⟨_,rfl⟩
 have HRR:Hid (RR=RewP.withO o PP):=hX (by rw[←hRR,←hPP,zg7]);rw[hPP] at HP;rw[hRR];clear hPP hRR;have HB0:=hX hb0;have HSZ:=hX hsz0;have HBM:=hX bm0;have HBQ:=hX bq0;have HBR:=hX br0;have HMEM:=hX hmem;have HBB:=hX hm.hB;clear hb0 hsz0 bm0 bq0 br0 hmem hfit hsnd hm IHn hn hq;go_enter Tryz.func22,Tryz.ntmps22;go_upto_region 1 with fail;generalize (((w.alloc (.cells #[u] 57)).alloc (.cells #[.int .i64 k,.int .i64 o,.string f,.string t,.string p,.slice A1 lo.length c1,.slice A2 hi.length c2,.int .i64 b,.int .i64 op,.slice A3 ks.length c3] 28)).alloc (.cells #[.int .i64 0,.int .i64 0,.string ⟨#[]⟩,.string ⟨#[]⟩,.string ⟨#[]⟩,.slice none 0 0,.slice none 0 0,.int .i64 0,.int .i64 0,.slice none 0 0] 28))=wb at *
 have HFIN:Hid (∀(V V':World) (c:List Nat) (q:QT) (vs:List Value),OutR wb bs V c→Below V.heap.size V V'→OQ V B q vs c→∀V2,V'.grownBy V2 (some (w.heap.size+2))→RR=q→ydf B RR bs w (.returned (.agg vs.toArray)) V2):=hX (fun V V' c q vs hO hb hq V2 hg he=>by
  subst he;have hn:w.heap.size+2∉c:=fun hm=>(hO.sub _ hm).elim (fun h=>by have:=(HMEM.out _ h).2;omega) (fun h=>by have:=HSZ.out;omega);have hO':=(OutR.first HB0.out hO).below hb;have hq':=hq.below hb (Nat.le_refl _);refine ⟨vs,c,rfl,hq'.keep fun g hgm=>hg.block g (hq'.mem g hgm).2 (fun e=>?_),hO'.nd,fun g hgm=>hO'.sub g hgm,hO'.but.more (But.grown (N:=fun g=>g=w.heap.size+2) hg (fun r e=>by injection e with e;exact e.symm)) (fun g hg=>.inr (by omega))⟩;injection e with e
  exact hn (e ▸ hgm))
 have HN3:Hid (∀(V:World) (c:List Nat),OutR wb bs V c→Blk V (w.heap.size+1) 28 #[.int .i64 k,.int .i64 o,.string f,.string t,.string p,.slice A1 lo.length c1,.slice A2 hi.length c2,.int .i64 b,.int .i64 op,.slice A3 ks.length c3]∧Blk V (w.heap.size+2) 28 #[.int .i64 0,.int .i64 0,.string ⟨#[]⟩,.string ⟨#[]⟩,.string ⟨#[]⟩,.slice none 0 0,.slice none 0 0,.int .i64 0,.int .i64 0,.slice none 0 0]):=hX (fun V c h=>⟨h.but.blk HBQ.out (fun hm=>by have:=(HMEM.out _ hm).2;omega),h.but.blk HBR.out (fun hm=>by have:=(HMEM.out _ hm).2;omega)⟩);have hgz:w.heap.size+2<wb.heap.size:=by have:=HSZ.out;omega
 have m0:=HBM.out.cell 0;have q0:=HBQ.out.cell 0;have q1:=HBQ.out.cell 1;have q2:=HBQ.out.cell 2;have q3:=HBQ.out.cell 3;have q4:=HBQ.out.cell 4;have q5:=HBQ.out.cell 5;have q6:=HBQ.out.cell 6;have q7:=HBQ.out.cell 7;have q8:=HBQ.out.cell 8;have q9:=HBQ.out.cell 9;generalize hgm:w.heap.size=gm at *;have HGM:=hX hgm;clear hgm;go_wp2_with fail;refine HP.out.mono ?_;rintro e w1 ⟨us2,bs2,rfl,hoq,hO⟩;have HOQ:=hX hoq;have HO:=hX hO;clear hoq hO;clear m0 q0 q1 q2 q3 q4 q5 q6 q7 q8 q9;obtain ⟨h0,h1,h2,h3,h4,h5,h6,h7,h8,h9⟩:=PP;obtain ⟨u5,u6,u9,U5,U6,U9,hus⟩:=OQ.forms HOQ.out;subst hus;have hA:Below w1.heap.size w1 (w1.alloc (.cells #[.int .i64 h0,.int .i64 h1,.string h2,.string h3,.string h4,.slice U5 h5.length u5,.slice U6 h6.length u6,.int .i64 h7,.int .i64 h8,.slice U9 h9.length u9] 28)):=(Below.refl _ _).alloc (Nat.le_refl _) _;have HQ1:=hX ((HN3.out _ _ HO.out).1.below hA (HN3.out _ _ HO.out).1.lt);have HR1:=hX ((HN3.out _ _ HO.out).2.below hA (HN3.out _ _ HO.out).2.lt);have HK1:=hX (Blk.new w1 28 #[.int .i64 h0,.int .i64 h1,.string h2,.string h3,.string h4,.slice U5 h5.length u5,.slice U6 h6.length u6,.int .i64 h7,.int .i64 h8,.slice U9 h9.length u9]);have HA:=hX hA;have hgk:gm+2<w1.heap.size:=(HN3.out _ _ HO.out).2.lt;clear hA;go_upto_region 2 with fail;generalize (w1.alloc (.cells #[.int .i64 h0,.int .i64 h1,.string h2,.string h3,.string h4,.slice U5 h5.length u5,.slice U6 h6.length u6,.int .i64 h7,.int .i64 h8,.slice U9 h9.length u9] 28))=W1 at *
 have HSK:=hX (show w1.heap.size<W1.heap.size from HK1.out.lt);generalize hgk1:w1.heap.size=gk at *;have HGK:=hX hgk1;clear hgk1;have q1:W1.cell? ⟨gm+1,1,none⟩=some (.int .i64 o):=HQ1.out.cell 1;have zk:W1.frozen? ⟨gk,1,none⟩=false:=HK1.out.frozen 1;have ck:W1.cell? ⟨gk,1,none⟩=some (.int .i64 h1):=HK1.out.cell 1;have HKS:Hid (Blk (W1.setCell ⟨gk,1,none⟩ (.int .i64 o)) gk 28 #[.int .i64 h0,.int .i64 o,.string h2,.string h3,.string h4,.slice U5 h5.length u5,.slice U6 h6.length u6,.int .i64 h7,.int .i64 h8,.slice U9 h9.length u9]):=hX (HK1.out.set_ 1 _);have HRS:Hid (Blk (W1.setCell ⟨gk,1,none⟩ (.int .i64 o)) (gm+2) 28 #[.int .i64 0,.int .i64 0,.string ⟨#[]⟩,.string ⟨#[]⟩,.string ⟨#[]⟩,.slice none 0 0,.slice none 0 0,.int .i64 0,.int .i64 0,.slice none 0 0]):=hX (HR1.out.far (p:=⟨gk,1,none⟩) (by show gm+2≠gk;omega) _);have HAS:Hid (Below w1.heap.size w1 (W1.setCell ⟨gk,1,none⟩ (.int .i64 o))):=hX (by rw[HGK.out];exact Below.setCell HA.out (p:=⟨gk,1,none⟩) (Nat.le_refl _) _);go_upto_region 3 with fail;clear q1 zk ck;generalize (W1.setCell ⟨gk,1,none⟩ (.int .i64 o))=W2 at *;obtain ⟨f0,f1,f2,f3,f4,f5,f6,f7,f8,f9⟩:=b10 HKS.out;obtain ⟨p0,p1,p2,p3,p4,p5,p6,p7,p8,p9⟩:=zas HRS.out;obtain ⟨z0,z1,z2,z3,z4,z5,z6,z7,z8,z9⟩:=z10 HRS.out;go_wp2_with fail
 have HE:=hX (zag HRS.out (Below.refl (gm+2) W2) (Nat.le_refl _) (.int .i64 h0) (.int .i64 o) (.string h2) (.string h3) (.string h4) (.slice U5 h5.length u5) (.slice U6 h6.length u6) (.int .i64 h7) (.int .i64 h8) (.slice U9 h9.length u9));refine ⟨rfl,_,results_cell_row rfl _ _ (gm+2) 28 _ (0,0) _ rfl HE.out.1 Tryz.underlying28 rfl (by kernel_rfl),?_⟩;exact HFIN.out _ _ _ (.mk h0 o h2 h3 h4 h5 h6 h7 h8 h9) [.int .i64 h0,.int .i64 o,.string h2,.string h3,.string h4,.slice U5 h5.length u5,.slice U6 h6.length u6,.int .i64 h7,.int .i64 h8,.slice U9 h9.length u9] HO.out HAS.out (HOQ.out.with_ h0 o h7 h4) _ HE.out.2.2 (HRR.out.trans rfl)
theorem zpr:∀n:Nat,yah B l u n
 | 0=>fun q s us bs w hn=>by have:=q.sz_pos;omega
 | n+1=>zrd n (zpr n)
end
end Go.Proofs.YtplkbdncgkgppaaGreatDoor.Qry
end
section
namespace Go.Proofs.YtplkbdncgkgppaaGreatDoor.Qck
open Go.RowKit Words Tree SchP QckP Kit Owned Sch Qry
theorem zre (a:ByteArray) (k:Int) (X:Option Addr) (n z:Nat) (s d:Int) (m st:Bool) (w:World) :
 Calls Tryz.prog 106 #[.agg #[.string a,.int .i64 k,.slice X n z,.int .i64 s,.int .i64 d,.bool m,.bool st]] w (ze2 (decide (k=3) || decide (k=4)) w):=by
 have hb:=(Below.refl w.heap.size w).alloc (Nat.le_refl _) (Obj.cells #[.string a,.int .i64 k,.slice X n z,.int .i64 s,.int .i64 d,.bool m,.bool st] 61);have HB:=hX hb;clear hb
 rcases (show k=3∨k=4∨(¬k=3∧¬k=4) by omega) with rfl | rfl | ⟨h3,h4⟩
 all_goals
  go_enter Tryz.func106,Tryz.ntmps106;go_wp2_with fail;go_ret;exact ⟨by simp[*],HB.out⟩
end Go.Proofs.YtplkbdncgkgppaaGreatDoor.Qck
end
section
namespace Go.Proofs.YtplkbdncgkgppaaGreatDoor.Qck
open Go.RowKit Words Tree SchP QckP Kit Owned Sch Qry
theorem zue {s:ByteArray} (h:s.size=0):s=⟨#[]⟩:=by
 obtain ⟨d⟩:=s;have:d=#[]:=Array.eq_empty_of_size_eq_zero h;rw[this]
end Go.Proofs.YtplkbdncgkgppaaGreatDoor.Qck
end
section
namespace Go.Proofs.YtplkbdncgkgppaaGreatDoor.Qck
open Go.RowKit Words Tree SchP QckP Kit Owned Sch Qry
theorem zuf (l:List FT) (s:ByteArray):(zc6 l s).2=0∨(zc6 l s).2=81:=by
 rw[zc6];cases zbw l s <;> simp
end Go.Proofs.YtplkbdncgkgppaaGreatDoor.Qck
end
section
namespace Go.Proofs.YtplkbdncgkgppaaGreatDoor.Qck
open Go.RowKit Words Tree SchP QckP Kit Owned Sch
end Go.Proofs.YtplkbdncgkgppaaGreatDoor.Qck
end
section
namespace Go.Proofs.YtplkbdncgkgppaaGreatDoor.Qck
open Go.RowKit Words Tree SchP QckP Kit Owned Sch
end Go.Proofs.YtplkbdncgkgppaaGreatDoor.Qck
end
section
namespace Go.Proofs.YtplkbdncgkgppaaGreatDoor.Qck
open Go.RowKit Words Tree SchP QckP Kit Owned Sch Qry
theorem zrf (s:ByteArray):s=⟨#[]⟩∨((s.toList == (⟨#[]⟩:ByteArray).toList)=false∧¬s.toList=[]∧(s.toList == [])=false∧¬s=⟨#[]⟩∧¬s.size=0):=by
 by_cases h0:s.size=0
 ·exact .inl (zue h0)
 ·refine .inr ⟨?_,fun e=>h0 (zmr.1 e),by rw[beq_eq_false_iff_ne];exact fun e=>h0 (zmr.1 e),fun e=>h0 (by rw[e];rfl),h0⟩
  rcases zkr s ⟨#[]⟩ with ⟨e,_⟩ | ⟨_,e⟩
  ·exact absurd (by rw[e];rfl) h0
  ·exact e
end Go.Proofs.YtplkbdncgkgppaaGreatDoor.Qck
end
section
namespace Go.Proofs.YtplkbdncgkgppaaGreatDoor.Qck
open Go.RowKit Words Tree SchP QckP Kit Owned Sch Qry QryP FoldNext AnaP Ana
theorem yf9 {w:World} {B B' s n:Nat} {A:Option Addr} {xs:List Value} (h:Reads w B s A n xs) (hB:B≤B'):Reads w B' s A n xs:=
 ⟨h.1,fun h0=>by obtain ⟨ad,e,hb,hc⟩:=h.2 h0;exact ⟨ad,e,Nat.lt_of_lt_of_le hb hB,hc⟩⟩
theorem yak (kd oc:Int) (f t u:ByteArray) (lo hi:List Int) (b op:Int) (ks:List QT) (L H K:Option Addr) (cl ch ck:Nat) (f0:ByteArray) (f1:Int) (f2:List Int) (f3 f4:Int) (f5 f6:Bool) (X:Option Addr) (z:Nat) (w:World)
 (hx:Reads w w.heap.size 1 X f2.length (zbi f2)) (hxc:f2.length≤z) (hxm:z≤maxLen) (ht:t.size≤140737488351232) (hT:zdi w) :
 Calls Tryz.prog 62 #[.agg #[.int .i64 kd,.int .i64 oc,.string f,.string t,.string u,.slice L lo.length cl,.slice H hi.length ch,.int .i64 b,.int .i64 op,.slice K ks.length ck],.agg #[.string f0,.int .i64 f1,.slice X f2.length z,.int .i64 f3,.int .i64 f4,.bool f5,.bool f6]] w (Sch.IntB (zoq (.mk kd oc f t u lo hi b op ks) ⟨f0,f1,f2,f3,f4,f5,f6⟩) w):=by
 have HR:=hX (fun (W:World) (hW:Below w.heap.size w W)=>run_any X f2.length z f2 t W rfl (yf9 (hx.below hW) hW.size) hxc hxm (by omega) (hT.next hW));clear hx hT hxc hxm ht;have HN:=hX (fun (W:World)=>zre f0 f1 X f2.length z f3 f4 f5 f6 W);go_enter Tryz.func62,Tryz.ntmps62;go_upto_region 1 with fail
 obtain ⟨qa,hqa⟩:∃x:Array Value,x=#[.int .i64 kd,.int .i64 oc,.string f,.string t,.string u,.slice L lo.length cl,.slice H hi.length ch,.int .i64 b,.int .i64 op,.slice K ks.length ck]:=⟨_,rfl⟩
 obtain ⟨fa,hfa⟩:∃x:Array Value,x=#[.string f0,.int .i64 f1,.slice X f2.length z,.int .i64 f3,.int .i64 f4,.bool f5,.bool f6]:=⟨_,rfl⟩
 rw[←hqa,←hfa];have HB:=hX (((Below.refl _ w).alloc (Nat.le_refl _) (Obj.cells qa 28)).alloc (by simp) (Obj.cells fa 61));have BQ:=hX ((Blk.new w 28 qa).alloc (Obj.cells fa 61));have BF:=hX (Blk.new (w.alloc (Obj.cells qa 28)) 61 fa);have hzW:((w.alloc (Obj.cells qa 28)).alloc (Obj.cells fa 61)).heap.size=w.heap.size+2:=by simp
 rw[World.size_alloc] at BF;generalize (w.alloc (Obj.cells qa 28)).alloc (Obj.cells fa 61)=W at *;subst hqa hfa;have q0:W.cell? ⟨w.heap.size,0,none⟩=some (.int .i64 kd):=BQ.out.cell 0;have q3:W.cell? ⟨w.heap.size,3,none⟩=some (.string t):=BQ.out.cell 3;have q5:W.cell? ⟨w.heap.size,5,none⟩=some (.slice L lo.length cl):=BQ.out.cell 5;obtain ⟨p0,p1,p2,p3,p4,p5,p6⟩:=zwn BF.out;rcases (show (¬kd=3∧¬kd=4∧¬kd=5∧¬kd=6∧¬kd=7∧¬kd=10)∨(kd=5∨kd=6)∨(kd=3∨kd=4)∨kd=7∨kd=10 by omega) with ⟨h3,h4,h5,h6,h7,h10⟩ | h | h | rfl | rfl
 ·rcases (show f1=1∨f1=2∨(¬f1=1∧¬f1=2) by omega) with rfl | rfl | ⟨g1,g2⟩ <;>
  (go_wp2_with fail;go_ret;exact ⟨by simp[zoq,ycn,zzh,QryP.kd,QryP.lo,QryP.tx, *],HB.out⟩)
 ·rcases h with rfl | rfl <;> rcases (show f1=1∨f1=2∨(f1 == 1)=false∧(f1 == 2)=false by simp only[beq_eq_false_iff_ne];omega) with rfl | rfl | ⟨g1,g2⟩ <;>
  (go_wp2_with fail;go_ret;exact ⟨by simp_all [zoq,ycn,zzh,QryP.kd,QryP.lo,QryP.tx],HB.out⟩)
 ·rcases h with rfl | rfl <;> rcases (show f1=1∨f1=2∨(f1 == 1)=false∧(f1 == 2)=false by simp only[beq_eq_false_iff_ne];omega) with rfl | rfl | ⟨g1,g2⟩ <;>
  first
  | (go_wp2_with fail;go_ret;exact ⟨by simp_all [zoq,ycn,zzh,QryP.kd,QryP.lo,QryP.tx],HB.out⟩)
  | (obtain ⟨r,hr⟩:∃r,zmx f2 t=r:=⟨_,rfl⟩
     rw[hr] at HR;obtain ⟨ts,n⟩:=r;have HRN:=hX hr;clear hr;go_wp2_with fail;refine (HR.out _ HB.out).mono ?_;rintro e w1 ⟨ao,c,rfl,_,hb⟩;have HB1:=hX (HB.out.trans (hb.mono HB.out.size));clear hb;rcases (show n=0∨(n != (0:Int))=true by rw[bne_iff_ne];omega) with rfl | h0 <;>
     (go_wp2_with fail;go_ret;have hr:=HRN.out;exact ⟨by simp_all [zoq,ycn,QryP.kd,QryP.lo,QryP.tx],HB1.out⟩))
 ·rcases (show ((f1=3∨f1=4)∧(lo.length=1∧((lo.length:Int) == 1)=true∨¬lo.length=1∧((lo.length:Int) == 1)=false))∨(f1=5∧((lo.length:Int)=f4∧((lo.length:Int) == f4)=true∨¬(lo.length:Int)=f4∧((lo.length:Int) == f4)=false))∨f1=1∨(¬f1=3∧¬f1=4∧¬f1=5∧¬f1=1) by simp only[beq_iff_eq,beq_eq_false_iff_ne];omega) with ⟨rfl | rfl,⟨h1,hi1⟩ | ⟨h1,hi1⟩⟩ | ⟨rfl,⟨h1,hi1⟩ | ⟨h1,hi1⟩⟩ | rfl | ⟨g3,g4,g5,g1⟩ <;>
  (simp[*] at HN
   go_wp2_with fail;refine (HN.out W).mono ?_;rintro e w1 ⟨rfl,hb⟩;have HB1:=hX (HB.out.trans (hb.mono HB.out.size));have q0:w1.cell? ⟨w.heap.size,0,none⟩=some (.int .i64 _):=(BQ.out.below hb (by omega)).cell 0;have q5:w1.cell? ⟨w.heap.size,5,none⟩=some (.slice L lo.length cl):=(BQ.out.below hb (by omega)).cell 5;obtain ⟨p0,p1,p2,p3,p4,p5,p6⟩:=zwn (BF.out.below hb (by omega));clear hb;go_wp2_with fail;go_ret;have e1:(lo.length:Int)=1↔lo.length=1:=by omega
   exact ⟨by simp[zoq,ycn,zzh,QryP.kd,QryP.lo,QryP.tx, *],HB1.out⟩)
 ·rcases (show f1=3∨f1=4∨f1=1∨(¬f1=3∧¬f1=4∧¬f1=1) by omega) with rfl | rfl | rfl | ⟨g3,g4,g1⟩ <;>
  (simp[*] at HN
   go_wp2_with fail;refine (HN.out W).mono ?_;rintro e w1 ⟨rfl,hb⟩;have HB1:=hX (HB.out.trans (hb.mono HB.out.size));have q0:w1.cell? ⟨w.heap.size,0,none⟩=some (.int .i64 _):=(BQ.out.below hb (by omega)).cell 0;have q5:w1.cell? ⟨w.heap.size,5,none⟩=some (.slice L lo.length cl):=(BQ.out.below hb (by omega)).cell 5;obtain ⟨p0,p1,p2,p3,p4,p5,p6⟩:=zwn (BF.out.below hb (by omega));clear hb;go_wp2_with fail;go_ret;have e1:(lo.length:Int)=1↔lo.length=1:=by omega
   exact ⟨by simp[zoq,ycn,zzh,QryP.kd,QryP.lo,QryP.tx, *],HB1.out⟩)
end Go.Proofs.YtplkbdncgkgppaaGreatDoor.Qck
end
