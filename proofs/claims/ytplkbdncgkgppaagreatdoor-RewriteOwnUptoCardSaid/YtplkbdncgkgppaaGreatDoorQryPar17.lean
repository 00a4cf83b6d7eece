/- Lemmas that the last text leans on. -/
import Derived.Test.YtplkbdncgkgppaaGreatDoorTake
import Derived.Test.YtplkbdncgkgppaaGreatDoorPack16
set_option linter.all false
namespace Go.Proofs.YtplkbdncgkgppaaGreatDoor.Qry
open Go.RowKit Words Tree QryP Kit Sch SchP Owned
theorem Fr.last {s:ByteArray} {gp gq above j:Nat} {w0 w:World} {k o b op:Int} {f t u:ByteArray} {lo hi:List Int} {ks:List QT} {q:QT} {us:List Value} {bs:List Nat} (h:Fr s gp w0 gq above j (.mk k o f t u lo hi b op (ks++[q])) us bs w) :
 ∃(g3 cap:Nat) (u1:Value),w.cell? ⟨gq,9,none⟩=some (.slice (some ⟨g3,0,none⟩) (ks.length+1) cap)∧w.cell? ⟨g3,ks.length*10+1,none⟩=some u1∧w.frozen? ⟨g3,ks.length*10+1,none⟩=false∧gq<g3∧g3<w.heap.size∧
  ∀v:Int,Fr s gp w0 gq above j (.mk k o f t u lo hi b op (ks++[zcp v q])) us bs (w.setCell ⟨g3,ks.length*10+1,none⟩ (.int .i64 v)):=by
 have h1:=h.oq;rw[OQ] at h1;obtain ⟨vl,vh,vk,xs,bk,rfl,h1,h2,h3,h4,rfl⟩:=h1;have hb9:=h.bq.cell 9;have hlt:=h.lt;rw[List.length_append,List.length_singleton] at h3
 rcases h3.2 with ⟨_,h0⟩ | ⟨g3,cap,cur,rfl,hB,hg,hc,hm,hs,ht⟩
 ·omega
 obtain ⟨ys,us',b1,b2,rfl,rfl,hy,hq⟩:=OQL.split h4;have hl10:=OQ.len hq;have hly:=OQL.len hy;have hlen:(ys++us').length=(ks.length+1)*10:=by rw[List.length_append];omega
 obtain ⟨u1,hu1⟩:∃u1,us'[1]?=some u1:=⟨us'[1],List.getElem?_eq_getElem (by omega)⟩
 have hg3:g3<w.heap.size:=(Array.getElem?_eq_some_iff.1 hg).1;have hnd:=h.nd;simp only[Value.ownBlock,Option.toList_some,List.singleton_append] at hnd;obtain ⟨n1,n2,n3⟩:=List.nodup_append.1 hnd;obtain ⟨n4,n5,n6⟩:=List.nodup_append.1 n2;have n7:=(List.nodup_cons.1 n5).1;have g3l:vl.ownBlock≠some g3:=fun e=>n3 g3 (zat.2 e) g3 (by simp) rfl;have g3h:vh.ownBlock≠some g3:=fun e=>n6 g3 (zat.2 e) g3 (by simp) rfl;refine ⟨g3,cap,u1,hb9,?_,Blk.frozen (cs:=cur) hg _,by omega,hg3,fun v=>?_⟩
 ·rw[Blk.cell (cs:=cur) hg _,←Array.getElem?_toList];have h1:(cur.toList.take ((ks.length+1)*10))[ks.length*10+1]?=some u1:=by rw[ht,←hly,List.getElem?_append_right (by omega),Nat.add_sub_cancel_left];exact hu1
  rw[List.getElem?_take_of_lt (by omega)] at h1;exact h1
 ·have hp:=h.hp;have hq':=h.hq
  refine ⟨⟨h.pa.blk.far (by show gp≠g3;omega) _,h.pa.le⟩,zac h.grown (.inr (by show w0.heap.size≤g3;omega)) _,h.bp.far (by show w0.heap.size≠g3;omega) _,h.ba.far (by show w0.heap.size+1≠g3;omega) _,h.br.far (by show w0.heap.size+2≠g3;omega) _,
   h.bq.far (by show gq≠g3;omega) _,?_,h.nd,h.hq,h.hp⟩
  have hput:=zvh (i:=ks.length*10+1) h3 (.int .i64 v);rw[←hly,List.set_append_right _ _ (by omega),Nat.add_sub_cancel_left,hly] at hput;rw[OQ];refine ⟨vl,vh,_,ys++us'.set 1 (.int .i64 v),b1++b2,rfl,zb6 h1 g3l _,zb6 h2 g3h _,?_,?_,rfl⟩
  ·rw[List.length_append,List.length_singleton];exact hput
  ·refine OQL.snoc (hy.keep fun g hm=>?_) ((OQ.occ v hq).keep fun g hm=>?_)
   ·exact Below.heap_setCell _ _ _ _ (fun e=>n7 (by cases e;exact List.mem_append_left _ hm))
   ·exact Below.heap_setCell _ _ _ _ (fun e=>n7 (by cases e;exact List.mem_append_right _ hm))
theorem yb0 (c:UInt8):Lib.indexByte [43,63,45,61] c+1=zc7 c:=by
 revert c;exact zmj (by decide +kernel)
set_option maxRecDepth 100000 in
set_option maxHeartbeats 16000000 in
theorem yb1 (B:Nat) (s:ByteArray) (hs:s.size≤4096) (above:Nat) (ha:above≤6) (n:Int) (r1:R) (gp k:Nat) (w:World) (h:Pa s gp k w) (hB:B≤gp) (hT:PT B w) (hK:zc0 (6 - above) (rem s k) = .ok (n,r1)) (ha5:above≤5) (hQ:zn8 B s (above+1)) (hn:n=8) :
 Calls Tryz.prog 51 #[.pointer (some ⟨gp,0,none⟩),.int .i64 above] w (Out s gp k w (zhi (5 - above) n r1) (QV w.heap.size)):=by
 subst hn;have hfine:∀t,zgx t.length (zaz zan zbm (6 - (above+1)) t):=fun t=>zfz _ t
 obtain ⟨x,hx⟩:∃x,zhi (5 - above) 8 r1=x:=⟨_,rfl⟩
 rw[hx]
 obtain ⟨qs,hqs⟩:∃qs,zaz zan zbm (6 - (above+1))=qs:=⟨_,rfl⟩
 have HX:Hid (x=match zaj 40 r1 with | .error e=>.error e | .ok r2=>if (isS 41 r2).1 then .ok (.mk 8 0 emp emp emp [] [] 0 0 [],(isS 41 r2).2) else match clW qs (isS 41 r2).2 with
  | .error e=>.error e
  | .ok (ks,r1)=>match zaj 41 r1 with
    | .error e=>.error e
    | .ok r2=>.ok (.mk 8 0 emp emp emp [] [] 0 0 ks,r2)):=hX (by rw[←hx,←hqs,show 6 - (above+1)=5 - above by omega];unfold zhi;cases zaj 40 r1 with
  | error e=>rfl
  | ok r2=>exact ydx _ (fun t=>zfz _ t) _)
 clear hx;have HQ:=hX hQ;have HQS:=hX hqs;have HFI:=hX hfine;clear hQ hqs hfine;have HT0:=hX hT;have HT:=hX hT;have hgp:gp<w.heap.size:=h.blk.lt;have hsz1:(w.alloc (.cells #[.pointer (some ⟨gp,0,none⟩)] 102)).heap.size=w.heap.size+1:=by simp
 have hsz2:((w.alloc (.cells #[.pointer (some ⟨gp,0,none⟩)] 102)).alloc (.cells #[.int .i64 above] 3)).heap.size=w.heap.size+2:=by simp
 have hA:Below w.heap.size w (((w.alloc (.cells #[.pointer (some ⟨gp,0,none⟩)] 102)).alloc (.cells #[.int .i64 above] 3)).alloc (.cells zax 28)):=(((Below.refl _ w).alloc (Nat.le_refl _) _).alloc (by first | (simp;done) | (simp;omega)) _).alloc (by first | (simp;done) | (simp;omega)) _;have HP:=hX (h.keep hA);have hbp:Blk (((w.alloc (.cells #[.pointer (some ⟨gp,0,none⟩)] 102)).alloc (.cells #[.int .i64 above] 3)).alloc (.cells zax 28)) w.heap.size 102 #[.pointer (some ⟨gp,0,none⟩)]:=((Blk.new w _ _).alloc _).alloc _;have hba:Blk (((w.alloc (.cells #[.pointer (some ⟨gp,0,none⟩)] 102)).alloc (.cells #[.int .i64 above] 3)).alloc (.cells zax 28)) (w.heap.size+1) 3 #[.int .i64 above]:=by rw[←hsz1];exact (Blk.new _ _ _).alloc _
 have hbr:Blk (((w.alloc (.cells #[.pointer (some ⟨gp,0,none⟩)] 102)).alloc (.cells #[.int .i64 above] 3)).alloc (.cells zax 28)) (w.heap.size+2) 28 zax:=by rw[←hsz2];exact Blk.new _ _ _
 have HBP:=hX hbp;have HBA:=hX hba;have HBR:=hX hbr;have HG:=hX (only_of_below hA (some gp));have HKD:=hX (zgd above ha s gp k _ HP.out hs);rw[hK] at HKD;clear h hT hA hbp hba hbr hsz1 hsz2 hK;unfold zax at HBR HBA HBP HG HKD HP;go_enter Tryz.func51,Tryz.ntmps51;go_wp2_with fail;refine HKD.out.mono ?_;intro e w4 ho;obtain ⟨v,rfl,⟨rfl,hn1,hn2⟩,hg,j1,hkj,hpa,hr1⟩:=ho;subst hr1;have hbp4:=HBP.out.grown hg (fun e=>by injection e with e;omega);have hba4:=HBA.out.grown hg (fun e=>by injection e with e;omega);have hbr4:=HBR.out.grown hg (fun e=>by injection e with e;omega);have hg4:=zaa HG.out hg;have HF:=hX (Fr.first (k:=8) hpa hg4 hbp4 hba4 hbr4 hgp);have HT5:=hX ((HT.out.grown hg4 hB).next ((Below.refl B w4).alloc (HT.out.grown hg4 hB).1 (.cells #[.int .i64 8,.int .i64 0,.string emp,.string emp,.string emp,.slice none 0 0,.slice none 0 0,.int .i64 0,.int .i64 0,.slice none 0 0] 28)));clear hbp4 hba4 hbr4 hg4 hg hpa HBP HBA HBR HG HKD HP HT;unfold emp at HF HT5;go_upto_region 2 with fail;generalize w4.alloc (.cells #[.int .i64 8,.int .i64 0,.string ⟨#[]⟩,.string ⟨#[]⟩,.string ⟨#[]⟩,.slice none 0 0,.slice none 0 0,.int .i64 0,.int .i64 0,.slice none 0 0] 28)=W at *;generalize w4.heap.size=gq at *;have hbq:=HF.out.bq.lt;have H1:=hX (zb9 40 s gp j1 W HF.out.pa hs);have q0:W.cell? ⟨gq,0,none⟩=some (.int .i64 8):=HF.out.bq.cell 0;have cp:W.cell? ⟨w.heap.size,0,none⟩=some (.pointer (some ⟨gp,0,none⟩)):=HF.out.bp.cell 0
 go_wp2_with fail;refine H1.out.mono ?_;clear H1
 obtain ⟨y1,hy1⟩:∃y,zaj 40 (rem s j1)=y:=⟨_,rfl⟩
 rw[hy1] at HX ⊢;clear hy1
 match y1 with
 | .error (p,c)=>
   intro e w9 ho;obtain ⟨rfl,hg⟩:=ho;refine ⟨rfl,?_⟩;rw[HX.out];exact ⟨rfl,zaa HF.out.grown hg⟩
 | .ok r2=>
  intro e w6 ho;obtain ⟨rfl,hg,j2,hj2,hpa,hr⟩:=ho;subst hr;have HF6:=hX (HF.out.same hg hpa);have HT6:=hX (HT5.out.grown hg hB);clear hg hpa q0 cp;have q0:w6.cell? ⟨gq,0,none⟩=some (.int .i64 8):=HF6.out.bq.cell 0;have cp:w6.cell? ⟨w.heap.size,0,none⟩=some (.pointer (some ⟨gp,0,none⟩)):=HF6.out.bp.cell 0;have HI:=hX (zu5 41 s gp j2 w6 HF6.out.pa hs);try dsimp only at HX
  obtain ⟨yi,hyi⟩:∃y,isS 41 (rem s j2)=y:=⟨_,rfl⟩
  rw[hyi] at HI HX;clear hyi;obtain ⟨b,ri⟩:=yi;go_wp2_with fail;refine HI.out.mono ?_;clear HI;rintro e w7 ⟨rfl,hg,j3,hj3,hpa,hr⟩;replace hr:rem s j3=ri:=hr;subst hr;have HF7:=hX (HF6.out.same hg hpa);have HT7:=hX (HT6.out.grown hg hB);clear hg hpa q0 cp
  cases b with
  | true=>
   generalize hqa:QT.mk 8 0 ⟨#[]⟩ ⟨#[]⟩ ⟨#[]⟩ [] [] 0 0 []=qa at HF7;have HE:Hid (QT.mk 8 0 emp emp emp [] [] 0 0 []=qa):=hX hqa;have HX2:Hid (x = .ok (QT.mk 8 0 emp emp emp [] [] 0 0 [],rem s j3)):=hX HX.out;clear hqa HX;obtain ⟨kq,oq,fq,tq,uq,loq,hiq,bq,opq,ksq⟩:=qa;generalize [Value.int .i64 8,.int .i64 0,.string ⟨#[]⟩,.string ⟨#[]⟩,.string ⟨#[]⟩,.slice none 0 0,.slice none 0 0,.int .i64 0,.int .i64 0,.slice none 0 0]=us7 at HF7;obtain ⟨cl,ch,ck,al,ah,ak,hus⟩:=HF7.out.shape;subst hus;have hq:=HF7.out.hq;have hne:gq≠w.heap.size+1+1:=by omega
   have hkj3:k≤j3:=by omega
   obtain ⟨q0,q1,q2,q3,q4,q5,q6,q7,q8,q9⟩:=b10 HF7.out.bq;obtain ⟨r0,r1,r2,r3,r4,r5,r6,r7,r8,r9⟩:=b10 HF7.out.br;obtain ⟨z0,z1,z2,z3,z4,z5,z6,z7,z8,z9⟩:=z10 HF7.out.br;have HBK:=hX (zcg (W:=w7) (g:=w.heap.size+1+1) HF7.out.br (.int .i64 kq) (.int .i64 oq) (.string fq) (.string tq) (.string uq) (.slice al loq.length cl) (.slice ah hiq.length ch) (.int .i64 bq) (.int .i64 opq) (.slice ak ksq.length ck));have HGR:=hX (zbn w7 (w.heap.size+1+1) (.int .i64 kq) (.int .i64 oq) (.string fq) (.string tq) (.string uq) (.slice al loq.length cl) (.slice ah hiq.length ch) (.int .i64 bq) (.int .i64 opq) (.slice ak ksq.length ck));go_wp2_with fail;generalize ((((((((((w7.setCell ⟨w.heap.size+1+1,0,none⟩ (.int .i64 kq)).setCell ⟨w.heap.size+1+1,1,none⟩ (.int .i64 oq)).setCell ⟨w.heap.size+1+1,2,none⟩ (.string fq)).setCell ⟨w.heap.size+1+1,3,none⟩ (.string tq)).setCell ⟨w.heap.size+1+1,4,none⟩ (.string uq)).setCell ⟨w.heap.size+1+1,5,none⟩ (.slice al loq.length cl)).setCell ⟨w.heap.size+1+1,6,none⟩ (.slice ah hiq.length ch)).setCell ⟨w.heap.size+1+1,7,none⟩ (.int .i64 bq)).setCell ⟨w.heap.size+1+1,8,none⟩ (.int .i64 opq)).setCell ⟨w.heap.size+1+1,9,none⟩ (.slice ak ksq.length ck))=W2 at *;clear q0 r0 z0 q1 r1 z1 q2 r2 z2 q3 r3 z3 q4 r4 z4 q5 r5 z5 q6 r6 z6 q7 r7 z7 q8 r8 z8 q9 r9 z9;try simp only[Exit.inBlock,Exit.then]
   refine ⟨rfl,_,results_cell_row rfl _ W2 (w.heap.size+1+1) 28 _ (0,0) _ rfl HBK.out Tryz.underlying28 rfl (by kernel_rfl),?_⟩;obtain ⟨_,hqv,hat⟩:=HF7.out.done HGR.out hkj3;rw[HX2.out,HE.out];exact ⟨_,rfl,hqv,hat⟩
  | false=>
   obtain ⟨clX,hcl,hx2⟩:∃y,clW qs (rem s j3)=y∧x=(match y with
    | .error e=>.error e
    | .ok (ks,r1)=>match zaj 41 r1 with
      | .error e=>.error e
      | .ok r2=>.ok (.mk 8 0 emp emp emp [] [] 0 0 ks,r2)):=⟨_,rfl,HX.out⟩
   have HX2:=hX hx2;clear hx2;have H0:Hid (clX=zr2 [] (clW qs (rem s j3))):=hX (by rw[←hcl];cases clW qs (rem s j3) <;> rfl);clear HX hcl;have hj3s:=HF7.out.pa.le;go_wp2_with fail;go_loopg [8] (2*(s.size - j3)+1) (fun n v wr=>∃(more:Bool) (j:Nat) (ks:List QT) (us:List Value) (bs:List Nat),v = .bool more∧n=2*(s.size - j)+(if more then 1 else 0)∧k≤j∧j≤s.size∧ks.length≤j∧Hid (Fr s gp w gq above j (.mk 8 0 ⟨#[]⟩ ⟨#[]⟩ ⟨#[]⟩ [] [] 0 0 ks) us bs wr)∧Hid (PT B wr)∧Hid (if more then clX=zr2 ks (clW qs (rem s j)) else clX = .ok (ks,rem s j)))
   case atStart=>exact ⟨true,j3,[],_,_,rfl,rfl,by omega,hj3s,Nat.zero_le _,HF7,HT7,H0⟩
   case round=>
    clear HF7 HT7 H0;obtain ⟨more,j,ks,us8,bs8,rfl,rfl,hkj,hj,hkl,HF8,HT8,HC⟩:=hrel
    cases more with
    | true=>
     have hCL:clX=zr2 ks (clW qs (rem s j)):=HC.out;have cp:wr.cell? ⟨w.heap.size,0,none⟩=some (.pointer (some ⟨gp,0,none⟩)):=HF8.out.bp.cell 0;have HSK:=hX (zdd s gp j wr HF8.out.pa hs);have hqf:∀t,zgx t.length (qs t):=fun t=>by have:=HFI.out t;rw[HQS.out] at this;exact this
     have HCL:=hX hCL;have HQF:=hX hqf;clear hCL hqf HC;go_wp2_with fail;refine HSK.out.mono ?_;clear HSK;rintro e w9 ⟨rfl,hg,j4,hj4,hpa,hr⟩;have HC4:Hid (clX=zr2 ks (clW qs (rem s j4))):=hX (by rw[HCL.out,hr,zqb qs HQF.out]);have HSK4:Hid (zaf (rem s j4)=rem s j4):=hX (by rw[hr,zji]);have HF9:=hX (HF8.out.same hg hpa);have HT9:=hX (HT8.out.grown hg hB);have hj4s:=HF9.out.pa.le;clear hg hpa hr cp HCL;have cp:w9.cell? ⟨w.heap.size,0,none⟩=some (.pointer (some ⟨gp,0,none⟩)):=HF9.out.bp.cell 0;have c0:w9.cell? ⟨gp,0,none⟩=some (.string s):=HF9.out.pa.blk.cell 0;have c1:w9.cell? ⟨gp,1,none⟩=some (.int .i64 j4):=HF9.out.pa.blk.cell 1;by_cases hlt:j4<s.size
     ·have h1:(0:Int)≤(j4:Int):=by omega
      have h2:(j4:Int)<(s.size:Int):=by omega
      have HMK:=hX (yb0 s[j4]);have HIX:=hX (fun W=>Tryz.strings_IndexByte ⟨#[43,63,45,61]⟩ s[j4].toNat W);go_upto_region 19 with fail;go_quiet (fail);replace HF9:=hX (HF9.out.drewN nq);replace HT9:=hX (HT9.out.next (below_drewN (Below.refl _ _) nq));generalize w9.drewN nq=w9 at *;have cp:w9.cell? ⟨w.heap.size,0,none⟩=some (.pointer (some ⟨gp,0,none⟩)):=HF9.out.bp.cell 0;have c0:w9.cell? ⟨gp,0,none⟩=some (.string s):=HF9.out.pa.blk.cell 0;have c1:w9.cell? ⟨gp,1,none⟩=some (.int .i64 j4):=HF9.out.pa.blk.cell 1;go_upto_region 20 with fail;go_quiet ((go_at_call 76;exact Calls.quiet_of_same (HIX.out _)));have hmb:0≤zc7 s[j4]∧zc7 s[j4]≤4:=by unfold zc7;repeat' split <;> omega
      have hwv:wrap64 (Lib.indexByte [43,63,45,61] s[j4]+1)=zc7 s[j4]:=by rw[HMK.out];first | (unfold wrap64;omega) | go_num | (simp[wrap64];omega)
      rw[hwv];clear hwv HMK HIX
      have HST:Hid (clX=zr2 ks (if zc7 s[j4]=0 then .error ((rem s j4).length,180) else match qs (rem s (j4+1)) with
       | .error e=>.error e
       | .ok (k,r1)=>if (isS 44 r1).1 then zr2 [zcp (zc7 s[j4]) k] (clW qs (isS 44 r1).2) else .ok ([zcp (zc7 s[j4]) k],(isS 44 r1).2))):=hX (by
       rw[HC4.out,zmn qs HQF.out,HSK4.out,zbd hlt];rfl)
      replace HF9:=hX (HF9.out.drewN nq);replace HT9:=hX (HT9.out.next (below_drewN (Below.refl _ _) nq));generalize w9.drewN nq=w9 at *;have cp:w9.cell? ⟨w.heap.size,0,none⟩=some (.pointer (some ⟨gp,0,none⟩)):=HF9.out.bp.cell 0;have c1:w9.cell? ⟨gp,1,none⟩=some (.int .i64 j4):=HF9.out.pa.blk.cell 1;generalize zc7 s[j4]=mk at *;by_cases hm:mk=0
      ·have HX4:Hid (x = .error ((rem s j4).length,180)):=hX (by
        have h9:clX = .error ((rem s j4).length,180):=by rw[HST.out,if_pos hm];rfl
        rw[HX2.out,h9])
       subst hm;have HWR:=hX (za1 j4 w9);go_wp2_with fail;refine HWR.out.mono ?_;rintro e w10 ⟨rfl,rfl⟩;refine ⟨rfl,?_⟩;rw[HX4.out];exact ⟨zde hj4s 180,HF9.out.grown⟩
      ·have dm:(mk == 0)=false:=by rw[beq_eq_false_iff_ne];exact hm
       rw[if_neg hm] at HST;clear HC4 HSK4 hm;have z1:w9.frozen? ⟨gp,1,none⟩=false:=HF9.out.pa.blk.frozen 1;have HF10:=hX (HF9.out.same (zcr (World.grownBy.refl w9 _) 1 (.int .i64 ((j4:Int)+1))) (HF9.out.pa.next 1 hlt ((j4:Int)+1) (by omega)));have HT10:=hX (HT9.out.next (show Below B w9 (w9.setCell ⟨gp,1,none⟩ (.int .i64 ((j4:Int)+1))) from (Below.refl B w9).setCell hB _));have hkid:=zp8 B s gp w gq above (j4+1) _ _ _ _ HF10.out hs hB HT10.out ha5 (by show ks.length≤4096;omega) HQ.out;rw[HQS.out] at hkid
       obtain ⟨yk,hyk⟩:∃y,qs (rem s (j4+1))=y:=⟨_,rfl⟩
       rw[hyk] at hkid HST;have HKD:=hX hkid;clear hkid hyk HF10 HT10;go_wp2_with fail;refine HKD.out.mono ?_;clear HKD
       match yk with
       | .error (p,c)=>
         have HX4:Hid (x = .error (p,c)):=hX (by
          have h9:clX = .error (p,c):=HST.out
          rw[HX2.out,h9])
         intro e w99 ho;obtain ⟨rfl,hg⟩:=ho;refine ⟨rfl,?_⟩;rw[HX4.out];exact ⟨rfl,hg⟩
       | .ok (q,r9)=>
         intro e w10 ho;obtain ⟨rfl,j5,us5,bs5,hj5,hr,hf⟩:=ho;subst hr;have hf':Fr s gp w gq above j5 (.mk 8 0 ⟨#[]⟩ ⟨#[]⟩ ⟨#[]⟩ [] [] 0 0 (ks++[q])) us5 bs5 w10:=hf;clear hf HF9 HT9 cp c1 z1;obtain ⟨g3,cap3,u1,q9,o1,zo1,hq3,hg3,hset⟩:=hf'.last;have HF11:=hX (hset mk);have HT11:=hX (HT0.out.grown (hset mk).grown hB);have h3:(0:Int)≤(ks.length:Int):=by omega
         have h4:(ks.length:Int)<((ks.length+1:Nat):Int):=by omega
         have hw5:IntKind.i64.wrap (((ks.length+1:Nat):Int) - 1)=(ks.length:Int):=by rw[show ((ks.length+1:Nat):Int) - 1=(ks.length:Int) by omega];exact IntWalk.i64_in _ (by omega)
         clear hf' hset;go_upto_region 16 with fail;generalize w10.setCell ⟨g3,ks.length*10+1,none⟩ (.int .i64 mk)=w11 at *;clear q9 o1 zo1;have cp:w11.cell? ⟨w.heap.size,0,none⟩=some (.pointer (some ⟨gp,0,none⟩)):=HF11.out.bp.cell 0;have HI4:=hX (zu5 44 s gp j5 w11 HF11.out.pa hs)
         obtain ⟨yi4,hyi4⟩:∃y,isS 44 (rem s j5)=y:=⟨_,rfl⟩
         have HS4:Hid (clX=zr2 ks (if yi4.1 then zr2 [zcp mk q] (clW qs yi4.2) else .ok ([zcp mk q],yi4.2))):=hX (by rw[HST.out,←hyi4]);rw[hyi4] at HI4;clear hyi4 HST;obtain ⟨b4,ri4⟩:=yi4;go_wp2_with fail;refine HI4.out.mono ?_;clear HI4;rintro e w12 ⟨rfl,hg,j6,hj6,hpa,hr⟩;replace hr:rem s j6=ri4:=hr;subst hr;have HF12:=hX (HF11.out.same hg hpa);have HT12:=hX (HT11.out.grown hg hB);have hj6s:=hpa.le;clear hg hpa cp
         have HC12:Hid (if b4 then clX=zr2 (ks++[zcp mk q]) (clW qs (rem s j6)) else clX = .ok (ks++[zcp mk q],rem s j6)):=hX (by
          have h9:=HS4.out
          cases b4 with
          | true=>exact h9.trans (zy3 _ _ _)
          | false=>exact h9)
         have hmeas:2*(s.size - j6)+(if b4 then 1 else 0)<2*(s.size - j)+1:=by cases b4 <;> simp <;> omega
         have hlen6:(ks++[zcp mk q]).length≤j6:=by simp;omega
         clear HS4;go_wp2_with fail;go_roundg (2*(s.size - j6)+(if b4 then 1 else 0))
         case measure=>simpa using hmeas
         case rel=>exact ⟨b4,j6,ks++[zcp mk q],us5,bs5,rfl,rfl,by omega,hj6s,hlen6,HF12,HT12,HC12⟩
     ·obtain rfl:j4=s.size:=by omega
      have HX4:Hid (x = .error (0,180)):=hX (by
       have h9:clX = .error (0,180):=by rw[HC4.out,zmn qs HQF.out,HSK4.out,zda];rfl
       rw[HX2.out,h9])
      go_upto_region 19 with fail;go_quiet (fail);replace HF9:=hX (HF9.out.drewN nq);generalize w9.drewN nq=w9 at *;have cp:w9.cell? ⟨w.heap.size,0,none⟩=some (.pointer (some ⟨gp,0,none⟩)):=HF9.out.bp.cell 0;have c1:w9.cell? ⟨gp,1,none⟩=some (.int .i64 s.size):=HF9.out.pa.blk.cell 1;have HWR:=hX (za1 s.size w9);go_wp2_with fail;refine HWR.out.mono ?_;rintro e w10 ⟨rfl,rfl⟩;refine ⟨rfl,?_⟩;rw[HX4.out];exact ⟨rfl,HF9.out.grown⟩
    | false=>
     have HX3:Hid (x=match zaj 41 (rem s j) with
      | .error e=>.error e
      | .ok r2=>.ok (.mk 8 0 emp emp emp [] [] 0 0 ks,r2)):=hX (by
       have hc:clX = .ok (ks,rem s j):=HC.out
       rw[HX2.out,hc])
     clear HX2 HC;have HX:=HX3;clear HX3;have cp:wr.cell? ⟨w.heap.size,0,none⟩=some (.pointer (some ⟨gp,0,none⟩)):=HF8.out.bp.cell 0;have H5:=hX (zb9 41 s gp j wr HF8.out.pa hs);go_wp2_with fail;refine H5.out.mono ?_;clear H5
     obtain ⟨y5,hy5⟩:∃y,zaj 41 (rem s j)=y:=⟨_,rfl⟩
     rw[hy5] at HX ⊢;clear hy5
     match y5 with
     | .error (p,c)=>
       intro e w9 ho;obtain ⟨rfl,hg⟩:=ho;refine ⟨rfl,?_⟩;rw[HX.out];exact ⟨rfl,zaa HF8.out.grown hg⟩
     | .ok r6=>
      intro e w9 ho;obtain ⟨rfl,hg,j9,hj9,hpa,hr⟩:=ho;subst hr;have HF9:=hX (HF8.out.same hg hpa);clear hg hpa cp;generalize hqa:QT.mk 8 0 ⟨#[]⟩ ⟨#[]⟩ ⟨#[]⟩ [] [] 0 0 ks=qa at HF9;have HE:Hid (QT.mk 8 0 emp emp emp [] [] 0 0 ks=qa):=hX hqa;clear hqa;obtain ⟨kq,oq,fq,tq,uq,loq,hiq,bq,opq,ksq⟩:=qa;obtain ⟨cl,ch,ck,al,ah,ak,hus⟩:=HF9.out.shape;subst hus;have hq:=HF9.out.hq;have hne:gq≠w.heap.size+1+1:=by omega
      have hkj9:k≤j9:=by omega
      obtain ⟨q0,q1,q2,q3,q4,q5,q6,q7,q8,q9⟩:=b10 HF9.out.bq;obtain ⟨r0,r1,r2,r3,r4,r5,r6,r7,r8,r9⟩:=b10 HF9.out.br;obtain ⟨z0,z1,z2,z3,z4,z5,z6,z7,z8,z9⟩:=z10 HF9.out.br;have HBK:=hX (zcg (W:=w9) (g:=w.heap.size+1+1) HF9.out.br (.int .i64 kq) (.int .i64 oq) (.string fq) (.string tq) (.string uq) (.slice al loq.length cl) (.slice ah hiq.length ch) (.int .i64 bq) (.int .i64 opq) (.slice ak ksq.length ck));have HGR:=hX (zbn w9 (w.heap.size+1+1) (.int .i64 kq) (.int .i64 oq) (.string fq) (.string tq) (.string uq) (.slice al loq.length cl) (.slice ah hiq.length ch) (.int .i64 bq) (.int .i64 opq) (.slice ak ksq.length ck));go_wp2_with fail;generalize ((((((((((w9.setCell ⟨w.heap.size+1+1,0,none⟩ (.int .i64 kq)).setCell ⟨w.heap.size+1+1,1,none⟩ (.int .i64 oq)).setCell ⟨w.heap.size+1+1,2,none⟩ (.string fq)).setCell ⟨w.heap.size+1+1,3,none⟩ (.string tq)).setCell ⟨w.heap.size+1+1,4,none⟩ (.string uq)).setCell ⟨w.heap.size+1+1,5,none⟩ (.slice al loq.length cl)).setCell ⟨w.heap.size+1+1,6,none⟩ (.slice ah hiq.length ch)).setCell ⟨w.heap.size+1+1,7,none⟩ (.int .i64 bq)).setCell ⟨w.heap.size+1+1,8,none⟩ (.int .i64 opq)).setCell ⟨w.heap.size+1+1,9,none⟩ (.slice ak ksq.length ck))=W2 at *;clear q0 r0 z0 q1 r1 z1 q2 r2 z2 q3 r3 z3 q4 r4 z4 q5 r5 z5 q6 r6 z6 q7 r7 z7 q8 r8 z8 q9 r9 z9;try simp only[Exit.inBlock,Exit.then]
      refine ⟨rfl,_,results_cell_row rfl _ W2 (w.heap.size+1+1) 28 _ (0,0) _ rfl HBK.out Tryz.underlying28 rfl (by kernel_rfl),?_⟩;obtain ⟨_,hqv,hat⟩:=HF9.out.done HGR.out hkj9;rw[HX.out,HE.out];exact ⟨_,rfl,hqv,hat⟩
end Go.Proofs.YtplkbdncgkgppaaGreatDoor.Qry
