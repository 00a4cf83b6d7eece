/- Lemmas that the last text leans on. -/
import Derived.Test.YtplkbdncgkgppaaGreatDoorTake
import Derived.Test.YtplkbdncgkgppaaGreatDoorPack32
import Derived.Test.YtplkbdncgkgppaaGreatDoorPack23
import Derived.Test.YtplkbdncgkgppaaGreatDoorPack36
import Derived.Deep.Cut
import Derived.Deep.CutRange
import Derived.WalkMore
set_option linter.all false
namespace Go.Proofs.YtplkbdncgkgppaaGreatDoor.Qry
open Go.RowKit Words Tree QryP Kit Owned Sch SchP RewP Ana AnaP Qck QckP FoldNext
theorem zgp (w:World) (a b:Array Value) (t1 t2:TypeId):Below w.heap.size w ((w.alloc (.cells a t1)).alloc (.cells b t2))∧((w.alloc (.cells a t1)).alloc (.cells b t2)).heap.size=w.heap.size+2∧
 Blk ((w.alloc (.cells a t1)).alloc (.cells b t2)) w.heap.size t1 a∧Blk ((w.alloc (.cells a t1)).alloc (.cells b t2)) (w.heap.size+1) t2 b:=by
 refine ⟨((Below.refl _ _).alloc (Nat.le_refl _) _).alloc (by simp) _,by simp,(Blk.new w t1 a).alloc _,?_⟩;have:=Blk.new (w.alloc (.cells a t1)) t2 b;rwa [World.size_alloc] at this
section
variable {l:List FT} {u:Value}
set_option maxRecDepth 100000 in
set_option maxHeartbeats 16000000 in
theorem ycf (q:QT) (vs:List Value) (w:World) (hu:T.At bare w (fun g=>g<w.heap.size) (zbg l) u) (hl:l.length*72≤140737488351232) (hv:T.AtL bare w (fun g=>g<w.heap.size) (cells q) vs) (hok:Qry.Ok q) (hlf:Lfs l q) (h37:3≤kd q∧kd q≤7) (hT:zc9 w) :
 Calls Tryz.prog 29 #[.agg #[u],.agg vs.toArray] w (StrB (str (zdy l q)) w):=by
 obtain ⟨k,o,f,t,p,lo,hi,b,op,ks⟩:=q;have h37:3≤k∧k≤7:=h37;have HFI:=hX (fun (W:World) (hW:Below w.heap.size w W)=>find_any u l f W (At.below hu hW (fun g hg=>Nat.lt_of_lt_of_le hg hW.size)) hl);obtain ⟨A,cap,rfl,hc,hm,hel⟩:=zmz zct hu;have EL:=hX hel;clear hel hu
 obtain ⟨fl,hff⟩:∃g,zbc l f=some g:=by
  cases hlf with
  | mk _ h3 _ _ _ _ _=>exact h3 h37
 obtain ⟨i,hf,hfi⟩:∃i,zcz l f=some i∧l[i]?=some fl:=by
  have hff':=hff;unfold zbc at hff'
  cases h:zcz l f with
  | none=>rw[h] at hff';cases hff'
  | some i=>rw[h] at hff';exact ⟨i,rfl,hff'⟩
 have HFF:=hX hff;obtain ⟨hi',-,-⟩:=zcq hf;have hfl:l[i]=fl:=by rw[List.getElem?_eq_getElem hi'] at hfi;injection hfi
 have hz:zi1 l f=(i:Int):=by rw[zfp,hf];rfl
 rw[hz] at HFI;obtain ⟨vl,vh,vk,rfl,hlo,hhi,hks⟩:=zao hv;obtain ⟨A1,c1,rfl,hlc,hlm,HLO⟩:=zc2 hlo;obtain ⟨A2,c2,rfl,hhc,hhm,HHI⟩:=zc2 hhi;obtain ⟨A3,c3,rfl,_,_⟩:=zar hks;have HLO:=hX HLO;have HHI:=hX HHI;have hfs:f.size≤140737488351232:=by cases hok with | mk _ _ hf _ _=>exact hf
 have hts:t.size≤140737488351232:=by cases hok with | mk _ _ _ ht _=>exact ht
 have hps:p.size≤140737488351232:=by cases hok with | mk _ _ _ _ hp=>exact hp
 have HLF:=hX hlf
 obtain ⟨RR,hRR⟩:∃RR,zdy l (.mk k o f t p lo hi b op ks)=RR:=⟨_,rfl⟩
 have HRR:=hX hRR;rw[hRR];clear hRR hlo hhi hks hv hok hlf hff hf hfi hz;obtain ⟨hb0,hsz0,bs0,bq0⟩:=zgp w #[.slice A l.length cap] #[.int .i64 k,.int .i64 o,.string f,.string t,.string p,.slice A1 lo.length c1,.slice A2 hi.length c2,.int .i64 b,.int .i64 op,.slice A3 ks.length c3] 24 28;have HB0:=hX hb0;have HSZ:=hX hsz0;have HBS:=hX bs0;have HBQ:=hX bq0;have HT0:=hX hT;clear hb0 hsz0 bs0 bq0 hT;go_enter Tryz.func29,Tryz.ntmps29;go_upto_region 1 with fail;generalize ((w.alloc (.cells #[.slice A l.length cap] 24)).alloc (.cells #[.int .i64 k,.int .i64 o,.string f,.string t,.string p,.slice A1 lo.length c1,.slice A2 hi.length c2,.int .i64 b,.int .i64 op,.slice A3 ks.length c3] 28))=wb at *;have hgz:w.heap.size+1<wb.heap.size:=by have:=HSZ.out;omega
 have m0:=HBS.out.cell 0;have q2:=HBQ.out.cell 2;go_wp2_with fail;refine (HFI.out _ HB0.out).mono ?_;rintro e w1 ⟨rfl,hb1⟩;have BS1:=hX (HBS.out.below hb1 HBS.out.lt);have BQ1:=hX (HBQ.out.below hb1 HBQ.out.lt);have HB1:=hX (HB0.out.trans (hb1.mono HB0.out.size):Below w.heap.size w w1);have hm1:max 0 (i:Int)=i:=by omega
 have hd1:decide (0≤(i:Int))=true:=decide_eq_true (by omega);rw[hm1,hd1];obtain ⟨ad,us,rfl,hba,au,lu,cu⟩:=EL.out i hi';replace cu:=cu.keep (w':=w1) (fun p hp=>HB1.out.cell (by rw[hp,zaa];exact hba));rw[hfl] at au;obtain ⟨g0,g1,g2,g3,g4,g5,g6⟩:=fl;obtain ⟨vc,rfl,gc⟩:=zc4 au;obtain ⟨X,z,rfl,hxc,hxm,hx⟩:=zc2 gc;dsimp only at hxc hxm hx;obtain ⟨a0,a1,a2,a3,a4,a5,a6⟩:=zu4 cu;have hcS:w1.cell? ⟨w.heap.size,0,none⟩=some (.slice (some ad) l.length cap):=BS1.out.cell 0;have h01:(0:Int)≤(i:Int):=by omega
 have h02:(i:Int)<(l.length:Int):=by omega
 have hbk:Below w.heap.size w (w1.alloc (.cells #[.string g0,.int .i64 g1,.slice X g2.length z,.int .i64 g3,.int .i64 g4,.bool g5,.bool g6] 61)):=HB1.out.alloc HB1.out.size _;have HQ1:=hX (BQ1.out.below ((Below.refl w1.heap.size w1).alloc (Nat.le_refl _) (.cells #[.string g0,.int .i64 g1,.slice X g2.length z,.int .i64 g3,.int .i64 g4,.bool g5,.bool g6] 61)) BQ1.out.lt);have HF1:=hX (Blk.new w1 61 #[.string g0,.int .i64 g1,.slice X g2.length z,.int .i64 g3,.int .i64 g4,.bool g5,.bool g6]);have HBK:=hX hbk;have HXR:=hX (hx.below hbk);have HXC:=hX (And.intro hxc hxm);have HTB:=hX (HT0.out.next hbk);clear m0 q2 hb1 hm1 hd1 au gc lu hfl cu hx hbk hxc hxm;go_upto_region 3 with fail;clear a0 a1 a2 a3 a4 a5 a6 hcS h01 h02;generalize (w1.alloc (.cells #[.string g0,.int .i64 g1,.slice X g2.length z,.int .i64 g3,.int .i64 g4,.bool g5,.bool g6] 61))=W1 at *;have hgw:w.heap.size+1<W1.heap.size:=HQ1.out.lt;have hgf:w1.heap.size<W1.heap.size:=HF1.out.lt;generalize w1.heap.size=gf at *;generalize hgq:w.heap.size+1=gq at *;clear hi' HFI EL BS1 BQ1 HBS HBQ hgz HSZ HB0;have q0:=HQ1.out.cell 0;have q2:=HQ1.out.cell 2;have q3:=HQ1.out.cell 3;have q4:=HQ1.out.cell 4;have q5:=HQ1.out.cell 5;have q6:=HQ1.out.cell 6;have f1:=HF1.out.cell 1;have f2:=HF1.out.cell 2;by_cases h34:k=3∨k=4
 ·have HKF:=hX (HRR.out.symm.trans (zgx l o f t p lo hi b op ks k h34 _ HFF.out));rcases h34 with h3 | h4
  ·subst h3;by_cases hg1:g1=1
   ·subst hg1;have HX:Hid (RR=match (zf6 g2 t).1 with | []=>[] | x::ts=>119::(f.data.toList++0::zb3 x.pos (x::ts))):=hX (HKF.out.trans (if_pos rfl));have HRU:=hX (run_any X g2.length z g2 t W1 rfl (HXR.out.more HBK.out.size) HXC.out.1 HXC.out.2 (by omega) HTB.out);have HRL:=hX (zoc g2 t);have HRT:=hX (zlk g2 t);generalize zf6 g2 t=R at *;obtain ⟨R,R2⟩:=R;dsimp only at HX HRL HRT;go_wp2_with fail;refine HRU.out.mono ?_;rintro e w2 ⟨ao,cc,rfl,hown,hb2⟩;dsimp only at hown ⊢;have HRD:=hX (Reads.of_own hown);have HB2:=hX (HBK.out.trans (hb2.mono HBK.out.size));have HQ2:=hX (HQ1.out.below hb2 HQ1.out.lt);have hrl:=HRL.out;clear hown hb2 HRU q0 q2 q3 q4 q5 q6 f1 f2
    match R,HX,HRL,HRT,HRD,hrl with
    | [],HX,HRL,HRT,HRD,hrl=>
     have HX0:Hid (RR=[]):=HX;go_wp2_with fail;go_loopw [10,11] (fun key i wr=>key = .string ⟨#[]⟩∧i = .int .i64 0∧wr=w2) (fun _ _ _=>0);case atStart=>exact ⟨rfl,rfl,rfl⟩
     case round=>
      obtain ⟨rfl,rfl,rfl⟩:=hrel;go_wp2_with fail;go_ret;exact ⟨by rw[HX0.out];rfl,HB2.out⟩
    | x::ts,HX,HRL,HRT,HRD,hrl=>
     have HX0:Hid (RR=119::(f.data.toList++0::zb3 x.pos (x::ts))):=HX;obtain ⟨bd,ho0,hbb0,x0,x1,x2,x3⟩:=zfd HRD.out rfl (k:=0) (by simp);have HX1:=hX x1;have HBB:=hX hbb0;subst ho0;have HLN:Hid (0<(x::ts).length):=hX (by simp);have HP0:Hid ((x::ts)[0]'(by simp)=x):=hX rfl;have HKL:=hX (zim x.pos);have HTT:Hid (∀t∈(x::ts),t.text.size≤4096):=HRT;generalize hp0:x.pos=p0 at *
     have HX2:Hid (w2.cell? ⟨bd.block,bd.off+1,none⟩=some (.int .i64 p0)):=hX (by
      have h:=HX1.out;rw[show (bd.add (0*4)).off=bd.off from by unfold Addr.add;split <;> simp,zaa] at h;rw[←hp0]
      exact h)
     clear x0 x1 x2 x3 HX1 HP0 hp0 HX HRT;generalize (x::ts)=R at *;clear x ts;have hrl0:0<R.length:=HLN.out;go_wp2_with fail;go_loopw [10,11] (fun key iv wr=>∃i:Nat,i≤R.length∧iv = .int .i64 i∧key = .string (str (zb3 p0 (R.take i)))∧Hid (Below w2.heap.size w2 wr)) (fun _ iv _=>R.length - (intOf iv).toNat);case atStart=>exact ⟨0,by omega,rfl,rfl,hX (Below.refl _ _)⟩
     case round=>
      obtain ⟨i,hi,rfl,rfl,HW⟩:=hrel
      have HKI:Hid ((zb3 p0 (R.take i)).length≤16809984):=hX (by
       have h1:=HKL.out (R.take i) (fun t ht=>HTT.out t (List.mem_of_mem_take ht));rw[List.length_take] at h1
       omega)
      by_cases hlt:i<R.length
      ·obtain ⟨bd',e,hbb,x0,x1,x2,x3⟩:=zfd HRD.out rfl hlt;obtain rfl:bd=bd':=by injection e
       have HST:=hX (zjd p0 (R.take i) R[i]);have HTK:Hid (R.take (i+1)=R.take i++[R[i]]):=hX (List.take_succ_eq_append_getElem hlt);have hti:R[i].text.size≤4096:=HTT.out _ (List.getElem_mem hlt);generalize R[i]=x at *;obtain ⟨xt,xp,xf,xl⟩:=x;dsimp only at *;have HY0:=hX x0;have HY1:=hX x1;rw[←HTK.out] at HST;have h1:(i:Int)<(R.length:Int):=by omega
       have h2:(0:Int)<(R.length:Int):=by omega
       have h3:(0:Int)≤(i:Int):=by omega
       have hks:(str (zb3 p0 (R.take i))).size≤16809984:=HKI.out;have hn8:(str (zdx (IntKind.i64.wrap (xp - p0)))).size=8:=(zfu _).trans (zc1 _);have HNX:Hid (str (zb3 p0 (R.take i))++xt++str (zdx (IntKind.i64.wrap (xp - p0)))=str (zb3 p0 (R.take (i+1)))):=hX (by rw[HST.out,zm5,zy6]);generalize hK2:zb3 p0 (R.take (i+1))=K2 at *;have HK2:=hX hK2;clear hK2;generalize zb3 p0 (R.take i)=K at *;clear x0 x1 x2 x3 HST HTK HKI;go_upto_region 13 with fail;refine wp_region_held_drew (S:=fun V=>Below wr.heap.size wr V) (by kernel_rfl) (Below.refl _ _).drew (fun hSk3_0=>?_);refine' tk 0 (by simp only[tkD,tkE,tkG];rfl) (by kernel_rfl) (by exact fun _ _ _ h=>h) (by rfl) hSk3_0 (by intro V hSw;clear hSw;go_simp;try with_reducible rfl) ?_;try simp only[Act.put,tkA,tkB,tkC]
       refine' tk 1 (by simp only[tkD,tkE,tkG];rfl) (by kernel_rfl) (by exact fun _ _ _ h=>h) (by rfl) hSk3_0 (by intro V hSw;clear hSw;go_simp;try with_reducible rfl) ?_;try simp only[Act.put,tkA,tkB,tkC]
       refine' tk 2 (by simp only[tkD,tkE,tkG];rfl) (by kernel_rfl) (by exact fun _ _ _ h=>h) (by rfl) hSk3_0 (by intro V hSw;clear hSw;go_simp;try with_reducible rfl) ?_;try simp only[Act.put,tkA,tkB,tkC]
       refine' tk 3 (by simp only[tkD,tkE,tkG];rfl) (by kernel_rfl) (by exact fun _ _ _ h=>h) (by rfl) hSk3_0 (by intro V hSw;clear hSw;go_simp;try with_reducible rfl) ?_;try simp only[Act.put,tkA,tkB,tkC]
       refine' tk 4 (by simp only[tkD,tkE,tkG];rfl) (by kernel_rfl) (by exact fun _ _ _ h=>h) (by rfl) hSk3_0 (by intro V hSw;clear hSw;go_simp;try with_reducible rfl) ?_;try simp only[Act.put,tkA,tkB,tkC]
       refine' tk 5 (by simp only[tkD,tkE,tkG];rfl) (by kernel_rfl) (by exact fun _ _ _ h=>h) (by rfl) hSk3_0 (by intro V hSw;have c0:V.cell? (bd.add (i*4))=some (.string xt):=(hSw.cell (by rw[zaa];exact Nat.lt_of_lt_of_le HBB.out HW.out.size)).trans ((HW.out.cell (by rw[zaa];exact HBB.out)).trans HY0.out);clear hSw;go_simp;try with_reducible rfl) ?_;try simp only[Act.put,tkA,tkB,tkC]
       refine' wpAnyH_take (i:=6) (v:=_) (by simp only[tkD,tkE,tkG];rfl) (by kernel_rfl) (by kernel_rfl) (by kernel_rfl) (by exact fun _ _ _ h=>h) (Or.inl ⟨by rfl,?hyk3_6⟩) hSk3_0 ?restk3_6;case hyk3_6=>intro V hSw;clear hSw;go_simp;try rw[if_neg (by omega)];try with_reducible rfl
       try simp only[Act.put,tkA,tkB,tkC]
       refine' tk 7 (by simp only[tkD,tkE,tkG];rfl) (by kernel_rfl) (by exact fun _ _ _ h=>h) (by rfl) hSk3_0 (by intro V hSw;clear hSw;go_simp;try with_reducible rfl) ?_;try simp only[Act.put,tkA,tkB,tkC]
       refine' tk 8 (by simp only[tkD,tkE,tkG];rfl) (by kernel_rfl) (by exact fun _ _ _ h=>h) (by rfl) hSk3_0 (by intro V hSw;clear hSw;go_simp;try with_reducible rfl) ?_;try simp only[Act.put,tkA,tkB,tkC]
       refine' tk 9 (by simp only[tkD,tkE,tkG];rfl) (by kernel_rfl) (by exact fun _ _ _ h=>h) (by rfl) hSk3_0 (by intro V hSw;clear hSw;go_simp;try with_reducible rfl) ?_;try simp only[Act.put,tkA,tkB,tkC]
       refine' tk 10 (by simp only[tkD,tkE,tkG];rfl) (by kernel_rfl) (by exact fun _ _ _ h=>h) (by rfl) hSk3_0 (by intro V hSw;clear hSw;go_simp;try with_reducible rfl) ?_;try simp only[Act.put,tkA,tkB,tkC]
       refine' tk 11 (by simp only[tkD,tkE,tkG];rfl) (by kernel_rfl) (by exact fun _ _ _ h=>h) (by rfl) hSk3_0 (by intro V hSw;have c0:V.cell? ⟨(bd.add (i*4)).block,(bd.add (i*4)).off+1,none⟩=some (.int .i64 xp):=(hSw.cell (by rw[zaa];exact Nat.lt_of_lt_of_le HBB.out HW.out.size)).trans ((HW.out.cell (by rw[zaa];exact HBB.out)).trans HY1.out);clear hSw;go_simp;try with_reducible rfl) ?_;try simp only[Act.put,tkA,tkB,tkC]
       refine' tk 12 (by simp only[tkD,tkE,tkG];rfl) (by kernel_rfl) (by exact fun _ _ _ h=>h) (by rfl) hSk3_0 (by intro V hSw;clear hSw;go_simp;try with_reducible rfl) ?_;try simp only[Act.put,tkA,tkB,tkC]
       refine' tk 13 (by simp only[tkD,tkE,tkG];rfl) (by kernel_rfl) (by exact fun _ _ _ h=>h) (by rfl) hSk3_0 (by intro V hSw;clear hSw;go_simp;try with_reducible rfl) ?_;try simp only[Act.put,tkA,tkB,tkC]
       refine' tk 14 (by simp only[tkD,tkE,tkG];rfl) (by kernel_rfl) (by exact fun _ _ _ h=>h) (by rfl) hSk3_0 (by intro V hSw;clear hSw;go_simp;try with_reducible rfl) ?_;try simp only[Act.put,tkA,tkB,tkC]
       refine' tk 15 (by simp only[tkD,tkE,tkG];rfl) (by kernel_rfl) (by exact fun _ _ _ h=>h) (by rfl) hSk3_0 (by intro V hSw;have c0:V.cell? ⟨bd.block,bd.off+1,none⟩=some (.int .i64 p0):=(hSw.cell (p:=⟨bd.block,bd.off+1,none⟩) (Nat.lt_of_lt_of_le HBB.out HW.out.size)).trans ((HW.out.cell (p:=⟨bd.block,bd.off+1,none⟩) HBB.out).trans HX2.out);clear hSw;go_simp;try with_reducible rfl) ?_;try simp only[Act.put,tkA,tkB,tkC]
       refine' tk 16 (by simp only[tkD,tkE,tkG];rfl) (by kernel_rfl) (by exact fun _ _ _ h=>h) (by rfl) hSk3_0 (by intro V hSw;clear hSw;go_simp;try with_reducible rfl) ?_;try simp only[Act.put,tkA,tkB,tkC]
       refine wpAnyH_ready (rs:=[17]) (by kernel_rfl) (by simp) ?_;refine' AllReadyH.cons (by simp only[tkD,tkE,tkG];rfl) (fun K hK=>?_) AllReadyH.nil;go_simp;refine (zia (IntKind.i64.wrap (xp - p0)) _).mono ?_;rintro e Vk3_1 ⟨rfl,hb⟩;have Bk3_1:=hX (Below.trans hSk3_0 (hb.mono (hSk3_0).size));clear hb;go_simp;refine hK.out _ _ Bk3_1.out (fun hSk3_1=>?_);try simp only[Act.put,tkA,tkB,tkC]
       refine' wpAnyH_take (i:=18) (v:=_) (by simp only[tkD,tkE,tkG];rfl) (by kernel_rfl) (by kernel_rfl) (by kernel_rfl) (by exact fun _ _ _ h=>h) (Or.inl ⟨by rfl,?hyk3_18⟩) hSk3_1 ?restk3_18;case hyk3_18=>intro V hSw;clear hSw;go_simp;try rw[if_neg (by omega)];try with_reducible rfl
       try simp only[Act.put,tkA,tkB,tkC]
       refine' tk 19 (by simp only[tkD,tkE,tkG];rfl) (by kernel_rfl) (by exact fun _ _ _ h=>h) (by rfl) hSk3_1 (by intro V hSw;clear hSw;go_simp;try with_reducible rfl) ?_;try simp only[Act.put,tkA,tkB,tkC]
       refine wpAnyH_done (by kernel_rfl) ?_ _;rw[HNX.out];have HWN:=hX (HW.out.trans (hSk3_1.mono HW.out.size));go_wp2_with fail;go_roundw;case rel=>exact ⟨i+1,by omega,by go_num,by rw[HK2.out],HWN⟩
       case measure=>simp[intOf];omega
      ·obtain rfl:i=R.length:=by omega
       have HQ3:=hX (HQ2.out.below HW.out HQ2.out.lt);have e:R.take R.length=R:=List.take_length;rw[e] at HKI ⊢;have hks:(str (zb3 p0 R)).size≤16809984:=HKI.out;have HKW:=hX (yhj f (zb3 p0 R));generalize zb3 p0 R=K at *;have q2:wr.cell? ⟨gq,2,none⟩=some (.string f):=HQ3.out.cell 2;have hne:((R.length:Int) == 0)=false:=by rw[beq_eq_false_iff_ne];omega
       go_wp2_with fail;go_ret;exact ⟨by rw[HX0.out,HKW.out];rfl,HB2.out.trans (HW.out.mono HB2.out.size)⟩
   ·have HX0:Hid (RR=116::(f.data.toList++0::(t.data.toList++0::t.data.toList))):=hX (HKF.out.trans (if_neg hg1));have hn1:(g1 != 1)=true:=by rw[bne_iff_ne];exact hg1
    have HKT:=hX (yb8 f t t);go_wp2_with fail;go_ret;exact ⟨by rw[HX0.out,HKT.out];rfl,HBK.out⟩
  ·subst h4;by_cases hg1:g1=1
   ·subst hg1;have HX:Hid (RR=match (zf6 g2 t).1 with | []=>[] | x::ts=>119::(f.data.toList++0::zb3 x.pos (x::ts))):=hX (HKF.out.trans (if_pos rfl));have HRU:=hX (run_any X g2.length z g2 t W1 rfl (HXR.out.more HBK.out.size) HXC.out.1 HXC.out.2 (by omega) HTB.out);have HRL:=hX (zoc g2 t);have HRT:=hX (zlk g2 t);generalize zf6 g2 t=R at *;obtain ⟨R,R2⟩:=R;dsimp only at HX HRL HRT;go_wp2_with fail;refine HRU.out.mono ?_;rintro e w2 ⟨ao,cc,rfl,hown,hb2⟩;dsimp only at hown ⊢;have HRD:=hX (Reads.of_own hown);have HB2:=hX (HBK.out.trans (hb2.mono HBK.out.size));have HQ2:=hX (HQ1.out.below hb2 HQ1.out.lt);have hrl:=HRL.out;clear hown hb2 HRU q0 q2 q3 q4 q5 q6 f1 f2
    match R,HX,HRL,HRT,HRD,hrl with
    | [],HX,HRL,HRT,HRD,hrl=>
     have HX0:Hid (RR=[]):=HX;go_wp2_with fail;go_loopw [10,11] (fun key i wr=>key = .string ⟨#[]⟩∧i = .int .i64 0∧wr=w2) (fun _ _ _=>0);case atStart=>exact ⟨rfl,rfl,rfl⟩
     case round=>
      obtain ⟨rfl,rfl,rfl⟩:=hrel;go_wp2_with fail;go_ret;exact ⟨by rw[HX0.out];rfl,HB2.out⟩
    | x::ts,HX,HRL,HRT,HRD,hrl=>
     have HX0:Hid (RR=119::(f.data.toList++0::zb3 x.pos (x::ts))):=HX;obtain ⟨bd,ho0,hbb0,x0,x1,x2,x3⟩:=zfd HRD.out rfl (k:=0) (by simp);have HX1:=hX x1;have HBB:=hX hbb0;subst ho0;have HLN:Hid (0<(x::ts).length):=hX (by simp);have HP0:Hid ((x::ts)[0]'(by simp)=x):=hX rfl;have HKL:=hX (zim x.pos);have HTT:Hid (∀t∈(x::ts),t.text.size≤4096):=HRT;generalize hp0:x.pos=p0 at *
     have HX2:Hid (w2.cell? ⟨bd.block,bd.off+1,none⟩=some (.int .i64 p0)):=hX (by
      have h:=HX1.out;rw[show (bd.add (0*4)).off=bd.off from by unfold Addr.add;split <;> simp,zaa] at h;rw[←hp0]
      exact h)
     clear x0 x1 x2 x3 HX1 HP0 hp0 HX HRT;generalize (x::ts)=R at *;clear x ts;have hrl0:0<R.length:=HLN.out;go_wp2_with fail;go_loopw [10,11] (fun key iv wr=>∃i:Nat,i≤R.length∧iv = .int .i64 i∧key = .string (str (zb3 p0 (R.take i)))∧Hid (Below w2.heap.size w2 wr)) (fun _ iv _=>R.length - (intOf iv).toNat);case atStart=>exact ⟨0,by omega,rfl,rfl,hX (Below.refl _ _)⟩
     case round=>
      obtain ⟨i,hi,rfl,rfl,HW⟩:=hrel
      have HKI:Hid ((zb3 p0 (R.take i)).length≤16809984):=hX (by
       have h1:=HKL.out (R.take i) (fun t ht=>HTT.out t (List.mem_of_mem_take ht));rw[List.length_take] at h1
       omega)
      by_cases hlt:i<R.length
      ·obtain ⟨bd',e,hbb,x0,x1,x2,x3⟩:=zfd HRD.out rfl hlt;obtain rfl:bd=bd':=by injection e
       have HST:=hX (zjd p0 (R.take i) R[i]);have HTK:Hid (R.take (i+1)=R.take i++[R[i]]):=hX (List.take_succ_eq_append_getElem hlt);have hti:R[i].text.size≤4096:=HTT.out _ (List.getElem_mem hlt);generalize R[i]=x at *;obtain ⟨xt,xp,xf,xl⟩:=x;dsimp only at *;have HY0:=hX x0;have HY1:=hX x1;rw[←HTK.out] at HST;have h1:(i:Int)<(R.length:Int):=by omega
       have h2:(0:Int)<(R.length:Int):=by omega
       have h3:(0:Int)≤(i:Int):=by omega
       have hks:(str (zb3 p0 (R.take i))).size≤16809984:=HKI.out;have hn8:(str (zdx (IntKind.i64.wrap (xp - p0)))).size=8:=(zfu _).trans (zc1 _);have HNX:Hid (str (zb3 p0 (R.take i))++xt++str (zdx (IntKind.i64.wrap (xp - p0)))=str (zb3 p0 (R.take (i+1)))):=hX (by rw[HST.out,zm5,zy6]);generalize hK2:zb3 p0 (R.take (i+1))=K2 at *;have HK2:=hX hK2;clear hK2;generalize zb3 p0 (R.take i)=K at *;clear x0 x1 x2 x3 HST HTK HKI;go_upto_region 13 with fail;refine wp_region_held_drew (S:=fun V=>Below wr.heap.size wr V) (by kernel_rfl) (Below.refl _ _).drew (fun hSk4_0=>?_);refine' tk 0 (by simp only[tkD,tkE,tkG];rfl) (by kernel_rfl) (by exact fun _ _ _ h=>h) (by rfl) hSk4_0 (by intro V hSw;clear hSw;go_simp;try with_reducible rfl) ?_;try simp only[Act.put,tkA,tkB,tkC]
       refine' tk 1 (by simp only[tkD,tkE,tkG];rfl) (by kernel_rfl) (by exact fun _ _ _ h=>h) (by rfl) hSk4_0 (by intro V hSw;clear hSw;go_simp;try with_reducible rfl) ?_;try simp only[Act.put,tkA,tkB,tkC]
       refine' tk 2 (by simp only[tkD,tkE,tkG];rfl) (by kernel_rfl) (by exact fun _ _ _ h=>h) (by rfl) hSk4_0 (by intro V hSw;clear hSw;go_simp;try with_reducible rfl) ?_;try simp only[Act.put,tkA,tkB,tkC]
       refine' tk 3 (by simp only[tkD,tkE,tkG];rfl) (by kernel_rfl) (by exact fun _ _ _ h=>h) (by rfl) hSk4_0 (by intro V hSw;clear hSw;go_simp;try with_reducible rfl) ?_;try simp only[Act.put,tkA,tkB,tkC]
       refine' tk 4 (by simp only[tkD,tkE,tkG];rfl) (by kernel_rfl) (by exact fun _ _ _ h=>h) (by rfl) hSk4_0 (by intro V hSw;clear hSw;go_simp;try with_reducible rfl) ?_;try simp only[Act.put,tkA,tkB,tkC]
       refine' tk 5 (by simp only[tkD,tkE,tkG];rfl) (by kernel_rfl) (by exact fun _ _ _ h=>h) (by rfl) hSk4_0 (by intro V hSw;have c0:V.cell? (bd.add (i*4))=some (.string xt):=(hSw.cell (by rw[zaa];exact Nat.lt_of_lt_of_le HBB.out HW.out.size)).trans ((HW.out.cell (by rw[zaa];exact HBB.out)).trans HY0.out);clear hSw;go_simp;try with_reducible rfl) ?_;try simp only[Act.put,tkA,tkB,tkC]
       refine' wpAnyH_take (i:=6) (v:=_) (by simp only[tkD,tkE,tkG];rfl) (by kernel_rfl) (by kernel_rfl) (by kernel_rfl) (by exact fun _ _ _ h=>h) (Or.inl ⟨by rfl,?hyk4_6⟩) hSk4_0 ?restk4_6;case hyk4_6=>intro V hSw;clear hSw;go_simp;try rw[if_neg (by omega)];try with_reducible rfl
       try simp only[Act.put,tkA,tkB,tkC]
       refine' tk 7 (by simp only[tkD,tkE,tkG];rfl) (by kernel_rfl) (by exact fun _ _ _ h=>h) (by rfl) hSk4_0 (by intro V hSw;clear hSw;go_simp;try with_reducible rfl) ?_;try simp only[Act.put,tkA,tkB,tkC]
       refine' tk 8 (by simp only[tkD,tkE,tkG];rfl) (by kernel_rfl) (by exact fun _ _ _ h=>h) (by rfl) hSk4_0 (by intro V hSw;clear hSw;go_simp;try with_reducible rfl) ?_;try simp only[Act.put,tkA,tkB,tkC]
       refine' tk 9 (by simp only[tkD,tkE,tkG];rfl) (by kernel_rfl) (by exact fun _ _ _ h=>h) (by rfl) hSk4_0 (by intro V hSw;clear hSw;go_simp;try with_reducible rfl) ?_;try simp only[Act.put,tkA,tkB,tkC]
       refine' tk 10 (by simp only[tkD,tkE,tkG];rfl) (by kernel_rfl) (by exact fun _ _ _ h=>h) (by rfl) hSk4_0 (by intro V hSw;clear hSw;go_simp;try with_reducible rfl) ?_;try simp only[Act.put,tkA,tkB,tkC]
       refine' tk 11 (by simp only[tkD,tkE,tkG];rfl) (by kernel_rfl) (by exact fun _ _ _ h=>h) (by rfl) hSk4_0 (by intro V hSw;have c0:V.cell? ⟨(bd.add (i*4)).block,(bd.add (i*4)).off+1,none⟩=some (.int .i64 xp):=(hSw.cell (by rw[zaa];exact Nat.lt_of_lt_of_le HBB.out HW.out.size)).trans ((HW.out.cell (by rw[zaa];exact HBB.out)).trans HY1.out);clear hSw;go_simp;try with_reducible rfl) ?_;try simp only[Act.put,tkA,tkB,tkC]
       refine' tk 12 (by simp only[tkD,tkE,tkG];rfl) (by kernel_rfl) (by exact fun _ _ _ h=>h) (by rfl) hSk4_0 (by intro V hSw;clear hSw;go_simp;try with_reducible rfl) ?_;try simp only[Act.put,tkA,tkB,tkC]
       refine' tk 13 (by simp only[tkD,tkE,tkG];rfl) (by kernel_rfl) (by exact fun _ _ _ h=>h) (by rfl) hSk4_0 (by intro V hSw;clear hSw;go_simp;try with_reducible rfl) ?_;try simp only[Act.put,tkA,tkB,tkC]
       refine' tk 14 (by simp only[tkD,tkE,tkG];rfl) (by kernel_rfl) (by exact fun _ _ _ h=>h) (by rfl) hSk4_0 (by intro V hSw;clear hSw;go_simp;try with_reducible rfl) ?_;try simp only[Act.put,tkA,tkB,tkC]
       refine' tk 15 (by simp only[tkD,tkE,tkG];rfl) (by kernel_rfl) (by exact fun _ _ _ h=>h) (by rfl) hSk4_0 (by intro V hSw;have c0:V.cell? ⟨bd.block,bd.off+1,none⟩=some (.int .i64 p0):=(hSw.cell (p:=⟨bd.block,bd.off+1,none⟩) (Nat.lt_of_lt_of_le HBB.out HW.out.size)).trans ((HW.out.cell (p:=⟨bd.block,bd.off+1,none⟩) HBB.out).trans HX2.out);clear hSw;go_simp;try with_reducible rfl) ?_;try simp only[Act.put,tkA,tkB,tkC]
       refine' tk 16 (by simp only[tkD,tkE,tkG];rfl) (by kernel_rfl) (by exact fun _ _ _ h=>h) (by rfl) hSk4_0 (by intro V hSw;clear hSw;go_simp;try with_reducible rfl) ?_;try simp only[Act.put,tkA,tkB,tkC]
       refine wpAnyH_ready (rs:=[17]) (by kernel_rfl) (by simp) ?_;refine' AllReadyH.cons (by simp only[tkD,tkE,tkG];rfl) (fun K hK=>?_) AllReadyH.nil;go_simp;refine (zia (IntKind.i64.wrap (xp - p0)) _).mono ?_;rintro e Vk4_1 ⟨rfl,hb⟩;have Bk4_1:=hX (Below.trans hSk4_0 (hb.mono (hSk4_0).size));clear hb;go_simp;refine hK.out _ _ Bk4_1.out (fun hSk4_1=>?_);try simp only[Act.put,tkA,tkB,tkC]
       refine' wpAnyH_take (i:=18) (v:=_) (by simp only[tkD,tkE,tkG];rfl) (by kernel_rfl) (by kernel_rfl) (by kernel_rfl) (by exact fun _ _ _ h=>h) (Or.inl ⟨by rfl,?hyk4_18⟩) hSk4_1 ?restk4_18;case hyk4_18=>intro V hSw;clear hSw;go_simp;try rw[if_neg (by omega)];try with_reducible rfl
       try simp only[Act.put,tkA,tkB,tkC]
       refine' tk 19 (by simp only[tkD,tkE,tkG];rfl) (by kernel_rfl) (by exact fun _ _ _ h=>h) (by rfl) hSk4_1 (by intro V hSw;clear hSw;go_simp;try with_reducible rfl) ?_;try simp only[Act.put,tkA,tkB,tkC]
       refine wpAnyH_done (by kernel_rfl) ?_ _;rw[HNX.out];have HWN:=hX (HW.out.trans (hSk4_1.mono HW.out.size));go_wp2_with fail;go_roundw;case rel=>exact ⟨i+1,by omega,by go_num,by rw[HK2.out],HWN⟩
       case measure=>simp[intOf];omega
      ·obtain rfl:i=R.length:=by omega
       have HQ3:=hX (HQ2.out.below HW.out HQ2.out.lt);have e:R.take R.length=R:=List.take_length;rw[e] at HKI ⊢;have hks:(str (zb3 p0 R)).size≤16809984:=HKI.out;have HKW:=hX (yhj f (zb3 p0 R));generalize zb3 p0 R=K at *;have q2:wr.cell? ⟨gq,2,none⟩=some (.string f):=HQ3.out.cell 2;have hne:((R.length:Int) == 0)=false:=by rw[beq_eq_false_iff_ne];omega
       go_wp2_with fail;go_ret;exact ⟨by rw[HX0.out,HKW.out];rfl,HB2.out.trans (HW.out.mono HB2.out.size)⟩
   ·have HX0:Hid (RR=116::(f.data.toList++0::(t.data.toList++0::t.data.toList))):=hX (HKF.out.trans (if_neg hg1));have hn1:(g1 != 1)=true:=by rw[bne_iff_ne];exact hg1
    have HKT:=hX (yb8 f t t);go_wp2_with fail;go_ret;exact ⟨by rw[HX0.out,HKT.out];rfl,HBK.out⟩
 by_cases h6:k=6
 ·subst h6;have HK6:=hX (HRR.out.symm.trans (znm l o f t p lo hi b op ks));have hgt:=zy8 t.toList p.toList;have hgt2:gtL t.data.toList p.data.toList=gtL t.toList p.toList:=by rw[ByteArray.toList_eq,ByteArray.toList_eq]
  rw[hgt2,←hgt] at HK6
  cases e1:Op.bytesLess t.toList p.toList with
  | true=>
   rw[e1] at HK6;have HX0:Hid (RR=116::(f.data.toList++0::(t.data.toList++0::p.data.toList))):=HK6;have HKT:=hX (yb8 f t p);clear hgt hgt2 HK6;go_wp2_with fail;go_ret;exact ⟨by rw[HX0.out,HKT.out];rfl,HBK.out⟩
  | false=>
   cases e2:(t.toList == p.toList) with
   | true=>
    rw[e1,e2] at HK6;have HX0:Hid (RR=116::(f.data.toList++0::(t.data.toList++0::p.data.toList))):=HK6;have HKT:=hX (yb8 f t p);clear hgt hgt2 HK6;go_wp2_with fail;go_ret;exact ⟨by rw[HX0.out,HKT.out];rfl,HBK.out⟩
   | false=>
    rw[e1,e2] at HK6;have HX0:Hid (RR=[]):=HK6;clear hgt hgt2 HK6;go_wp2_with fail;go_ret;exact ⟨by rw[HX0.out];rfl,HBK.out⟩
 by_cases h5:k=5
 ·subst h5;have HX0:Hid (RR=112::(f.data.toList++0::t.data.toList)):=hX (HRR.out.symm.trans ((if_neg (show ¬((5:Int)=3∨(5:Int)=4) by omega)).trans ((if_neg (show ¬(5:Int)=6 by omega)).trans (if_pos rfl))));have HKT:=hX (yi3 f t);go_wp2_with fail;go_ret;exact ⟨by rw[HX0.out,HKT.out];rfl,HBK.out⟩
 obtain rfl:k=7:=by omega
 have HX0:Hid (RR=match zbj lo hi with | none=>[] | some x=>114::(f.data.toList++0::x)):=hX (HRR.out.symm.trans (zw4 l o f t p lo hi b op ks));obtain ⟨hll,hl4⟩:lo.length=hi.length∧lo.length≤4:=by cases HLF.out with | mk _ _ h7 _ _ _ _=>exact h7 rfl
 have HLL:=hX hll;have HKR:=hX (yi5 f);clear hll;go_wp2_with fail;rw[HKR.out];go_loopw [12,13] (fun key iv wr=>∃(d:Nat) (x:List UInt8),d≤lo.length∧iv = .int .i64 d∧key = .string (str (114::(f.data.toList++0::x)))∧x.length≤16*d∧Hid (zbj lo hi=(zbj (lo.drop d) (hi.drop d)).map (x++·))∧Hid (Below W1.heap.size W1 wr)) (fun _ iv _=>lo.length - (intOf iv).toNat);case atStart=>exact ⟨0,[],by omega,rfl,rfl,by simp,hX (by rw[List.drop_zero,List.drop_zero];cases zbj lo hi <;> simp),hX (Below.refl _ _)⟩
 case round=>
  obtain ⟨d,x,hd,rfl,rfl,hx,HBN,HW⟩:=hrel;have HQ3:=hX (HQ1.out.below HW.out HQ1.out.lt);clear q0 q2 q3 q4 q5 q6 f1 f2;have q5:wr.cell? ⟨gq,5,none⟩=some (.slice A1 lo.length c1):=HQ3.out.cell 5;have q6:wr.cell? ⟨gq,6,none⟩=some (.slice A2 hi.length c2):=HQ3.out.cell 6;by_cases hlt:d<lo.length
  ·have hlt2:d<hi.length:=by have:=HLL.out;omega
   have HST:=hX (zqe hlt hlt2);obtain ⟨ad1,rfl,hb1,y1⟩:=Qry.reads_int HLO.out hlt;obtain ⟨ad2,rfl,hb2,y2⟩:=Qry.reads_int HHI.out hlt2;have HY1:Hid (∀V,Below W1.heap.size W1 V→V.cell? (ad1.add d)=some (.int .i64 lo[d])):=hX (fun V h=>(h.cell (by rw[zaa];exact Nat.lt_of_lt_of_le hb1 HBK.out.size)).trans ((HBK.out.cell (by rw[zaa];exact hb1)).trans y1));have HY2:Hid (∀V,Below W1.heap.size W1 V→V.cell? (ad2.add d)=some (.int .i64 hi[d])):=hX (fun V h=>(h.cell (by rw[zaa];exact Nat.lt_of_lt_of_le hb2 HBK.out.size)).trans ((HBK.out.cell (by rw[zaa];exact hb2)).trans y2));generalize lo[d]=a at *;generalize hi[d]=c at *;have n1:wr.cell? (ad1.add d)=some (.int .i64 a):=HY1.out _ HW.out;have n2:wr.cell? (ad2.add d)=some (.int .i64 c):=HY2.out _ HW.out;have h1:(d:Int)<(lo.length:Int):=by omega
   have h2:(d:Int)<(hi.length:Int):=by omega
   have h3:(0:Int)≤(d:Int):=by omega
   clear y1 y2;by_cases hca:c<a
   ·have HX1:Hid (RR=[]):=hX (by
     have h:=HX0.out;rw[HBN.out,HST.out,if_pos hca] at h
     exact h)
    go_upto_region 27 with fail;go_quiet (fail);go_wp2_with fail;go_ret;exact ⟨by rw[HX1.out];rfl,HBK.out.trans ((zdr HW.out nq).mono HBK.out.size)⟩
   ·have HBN2:Hid (zbj lo hi=(zbj (lo.drop (d+1)) (hi.drop (d+1))).map ((x++(zdx a++zdx c))++·)):=hX (by
     rw[HBN.out,HST.out,if_neg hca,Option.map_map];congr 1
     funext y
     simp[List.append_assoc])
    have hsx:(str (114::(f.data.toList++0::x))).size≤140737488355328:=by
     rw[zfu];have:f.data.toList.length=f.size:=by simp
     simp only[List.length_cons,List.length_append];omega
    have hn8:∀n,(str (zdx n)).size=8:=fun n=>(zfu _).trans (zc1 n);have hna:=hn8 a;have hnc:=hn8 c;have HNX:Hid (str (114::(f.data.toList++0::x))++str (zdx a)++str (zdx c)=str (114::(f.data.toList++0::(x++(zdx a++zdx c))))):=hX (by rw[ye3];simp[List.append_assoc]);have hx2:(x++(zdx a++zdx c)).length≤16*(d+1):=by simp only[List.length_append,zc1];omega
    generalize x++(zdx a++zdx c)=x2 at *;generalize hK2:str (114::(f.data.toList++0::x2))=K2 at *;generalize str (114::(f.data.toList++0::x))=K at *;clear hn8 HST;go_upto_region 27 with fail;go_quiet (fail);go_wp2_with fail;have HWD:=hX (zdr HW.out nq);have HQ4:=hX (HQ1.out.below HWD.out HQ1.out.lt);generalize wr.drewN nq=wd at *;clear q5 q6 n1 n2;go_upto_region 29 with fail;refine wp_region_held_drew (S:=fun V=>Below wd.heap.size wd V) (by kernel_rfl) (Below.refl _ _).drew (fun hSb0=>?_);refine' tk 0 (by simp only[tkD,tkE,tkG];rfl) (by kernel_rfl) (by exact fun _ _ _ h=>h) (by rfl) hSb0 (by intro V hSw;clear hSw;go_simp;try with_reducible rfl) ?_;try simp only[Act.put,tkA,tkB,tkC]
    refine' tk 1 (by simp only[tkD,tkE,tkG];rfl) (by kernel_rfl) (by exact fun _ _ _ h=>h) (by rfl) hSb0 (by intro V hSw;clear hSw;go_simp;try with_reducible rfl) ?_;try simp only[Act.put,tkA,tkB,tkC]
    refine' tk 2 (by simp only[tkD,tkE,tkG];rfl) (by kernel_rfl) (by exact fun _ _ _ h=>h) (by rfl) hSb0 (by intro V hSw;have c0:V.cell? ⟨gq,5,none⟩=some (.slice (some ad1) lo.length c1):=(HQ4.out.below hSw HQ4.out.lt).cell 5;clear hSw;go_simp;try with_reducible rfl) ?_;try simp only[Act.put,tkA,tkB,tkC]
    refine' tk 3 (by simp only[tkD,tkE,tkG];rfl) (by kernel_rfl) (by exact fun _ _ _ h=>h) (by rfl) hSb0 (by intro V hSw;clear hSw;go_simp;try with_reducible rfl) ?_;try simp only[Act.put,tkA,tkB,tkC]
    refine' tk 4 (by simp only[tkD,tkE,tkG];rfl) (by kernel_rfl) (by exact fun _ _ _ h=>h) (by rfl) hSb0 (by intro V hSw;clear hSw;go_simp;try with_reducible rfl) ?_;try simp only[Act.put,tkA,tkB,tkC]
    refine' tk 5 (by simp only[tkD,tkE,tkG];rfl) (by kernel_rfl) (by exact fun _ _ _ h=>h) (by rfl) hSb0 (by intro V hSw;have c0:V.cell? (ad1.add d)=some (.int .i64 a):=HY1.out V (HWD.out.trans (hSw.mono HWD.out.size));clear hSw;go_simp;try with_reducible rfl) ?_;try simp only[Act.put,tkA,tkB,tkC]
    refine' tk 8 (by simp only[tkD,tkE,tkG];rfl) (by kernel_rfl) (by exact fun _ _ _ h=>h) (by rfl) hSb0 (by intro V hSw;clear hSw;go_simp;try with_reducible rfl) ?_;try simp only[Act.put,tkA,tkB,tkC]
    refine' tk 9 (by simp only[tkD,tkE,tkG];rfl) (by kernel_rfl) (by exact fun _ _ _ h=>h) (by rfl) hSb0 (by intro V hSw;have c0:V.cell? ⟨gq,6,none⟩=some (.slice (some ad2) hi.length c2):=(HQ4.out.below hSw HQ4.out.lt).cell 6;clear hSw;go_simp;try with_reducible rfl) ?_;try simp only[Act.put,tkA,tkB,tkC]
    refine' tk 10 (by simp only[tkD,tkE,tkG];rfl) (by kernel_rfl) (by exact fun _ _ _ h=>h) (by rfl) hSb0 (by intro V hSw;clear hSw;go_simp;try with_reducible rfl) ?_;try simp only[Act.put,tkA,tkB,tkC]
    refine' tk 11 (by simp only[tkD,tkE,tkG];rfl) (by kernel_rfl) (by exact fun _ _ _ h=>h) (by rfl) hSb0 (by intro V hSw;clear hSw;go_simp;try with_reducible rfl) ?_;try simp only[Act.put,tkA,tkB,tkC]
    refine' tk 12 (by simp only[tkD,tkE,tkG];rfl) (by kernel_rfl) (by exact fun _ _ _ h=>h) (by rfl) hSb0 (by intro V hSw;have c0:V.cell? (ad2.add d)=some (.int .i64 c):=HY2.out V (HWD.out.trans (hSw.mono HWD.out.size));clear hSw;go_simp;try with_reducible rfl) ?_;try simp only[Act.put,tkA,tkB,tkC]
    refine wpAnyH_ready (rs:=[6]) (by kernel_rfl) (by simp) ?_;refine' AllReadyH.cons (by simp only[tkD,tkE,tkG];rfl) (fun K hK=>?_) AllReadyH.nil;go_simp;refine (zia a _).mono ?_;rintro e Vb1 ⟨rfl,hb⟩;have Bb1:=hX (Below.trans hSb0 (hb.mono (hSb0).size));clear hb;go_simp;refine hK.out _ _ Bb1.out (fun hSb1=>?_);try simp only[Act.put,tkA,tkB,tkC]
    refine' wpAnyH_take (i:=7) (v:=_) (by simp only[tkD,tkE,tkG];rfl) (by kernel_rfl) (by kernel_rfl) (by kernel_rfl) (by exact fun _ _ _ h=>h) (Or.inl ⟨by rfl,?hyb7⟩) hSb1 ?restb7;case hyb7=>intro V hSw;clear hSw;go_simp;try rw[if_neg (by omega)];try with_reducible rfl
    try simp only[Act.put,tkA,tkB,tkC]
    refine wpAnyH_ready (rs:=[13]) (by kernel_rfl) (by simp) ?_;refine' AllReadyH.cons (by simp only[tkD,tkE,tkG];rfl) (fun K hK=>?_) AllReadyH.nil;go_simp;refine (zia c _).mono ?_;rintro e Vb2 ⟨rfl,hb⟩;have Bb2:=hX (Below.trans hSb1 (hb.mono (hSb1).size));clear hb;go_simp;refine hK.out _ _ Bb2.out (fun hSb2=>?_);try simp only[Act.put,tkA,tkB,tkC]
    refine' wpAnyH_take (i:=14) (v:=_) (by simp only[tkD,tkE,tkG];rfl) (by kernel_rfl) (by kernel_rfl) (by kernel_rfl) (by exact fun _ _ _ h=>h) (Or.inl ⟨by rfl,?hyb14⟩) hSb2 ?restb14;case hyb14=>intro V hSw;clear hSw;go_simp;try rw[if_neg (by omega)];try with_reducible rfl
    try simp only[Act.put,tkA,tkB,tkC]
    refine' tk 15 (by simp only[tkD,tkE,tkG];rfl) (by kernel_rfl) (by exact fun _ _ _ h=>h) (by rfl) hSb2 (by intro V hSw;clear hSw;go_simp;try with_reducible rfl) ?_;try simp only[Act.put,tkA,tkB,tkC]
    refine wpAnyH_done (by kernel_rfl) ?_ _;rw[HNX.out];have HWN:=hX (HWD.out.trans (hSb2.mono HWD.out.size));go_wp2_with fail;go_roundw;case rel=>exact ⟨d+1,x2,by omega,by go_num,by rw[hK2],hx2,HBN2,HWN⟩
    case measure=>simp[intOf];omega
  ·obtain rfl:d=lo.length:=by omega
   have HX1:Hid (RR=114::(f.data.toList++0::x)):=hX (by
    have h:=HX0.out;rw[HBN.out,List.drop_length] at h;have e:zbj [] (hi.drop lo.length)=some []:=by rw[zbj];intro _ _ _ _ h;cases h
    rw[e] at h
    simpa using h)
   go_wp2_with fail;go_ret;exact ⟨by rw[HX1.out];rfl,HBK.out.trans (HW.out.mono HBK.out.size)⟩
end
end Go.Proofs.YtplkbdncgkgppaaGreatDoor.Qry
