/- Lemmas that the last text leans on. -/
import Derived.Test.YtplkbdncgkgppaaGreatDoorTake
import Derived.Test.YtplkbdncgkgppaaGreatDoorQryPar12
import Derived.Test.YtplkbdncgkgppaaGreatDoorPack14
set_option linter.all false
set_option maxRecDepth 100000
set_option maxHeartbeats 16000000
section
namespace Go.Proofs.YtplkbdncgkgppaaGreatDoor.Qry
open Go.RowKit Words Tree QryP Kit Sch SchP Owned
theorem ybx (qs:R→E (QT × R)) (r:R):ze6 zan zbm qs 10 r=match zcq opF ((zaf r).takeWhile zco) 3 with
 | none=>.error ((zaf r).length,180)
 | some o=>match zaj 44 ((zaf r).dropWhile zco) with
  | .error e=>.error e
  | .ok r2=>match zdo r2 with
   | .error e=>.error e
   | .ok (f,r3)=>match zaj 44 r3 with
     | .error e=>.error e
     | .ok r4=>match zgp zan zbm r4 with
      | .error e=>.error e
      | .ok (z,r5)=>match zaj 44 r5 with
        | .error e=>.error e
        | .ok r6=>match qs r6 with
         | .error e=>.error e
         | .ok (q,r7)=>match zaj 41 r7 with
           | .error e=>.error e
           | .ok r8=>.ok (.mk 10 0 f emp emp [z] [] 0 o [q],r8):=by
 unfold ze6;rw[if_neg (by decide),if_neg (by decide),if_pos rfl];unfold opS
 cases zcq opF ((zaf r).takeWhile zco) 3 with
 | none=>rfl
 | some o=>
  dsimp only[bind,Except.bind]
  cases zaj 44 ((zaf r).dropWhile zco) with
  | error e=>rfl
  | ok r2=>
   dsimp only
   cases zdo r2 with
   | error e=>rfl
   | ok p=>
    obtain ⟨f,r3⟩:=p;dsimp only
    cases zaj 44 r3 with
    | error e=>rfl
    | ok r4=>
     dsimp only
     cases zgp zan zbm r4 with
     | error e=>rfl
     | ok p=>
      obtain ⟨z,r5⟩:=p;dsimp only
      cases zaj 44 r5 with
      | error e=>rfl
      | ok r6=>
       dsimp only
       cases qs r6 with
       | error e=>rfl
       | ok p=>
        obtain ⟨q,r7⟩:=p;dsimp only
        cases zaj 41 r7 with
        | error e=>rfl
        | ok r8=>rfl
def opV (tk:List UInt8) (i:Nat):Int:=match zcq opF tk i with
 | none=>0
 | some o=>o
theorem yby (a b:Int) (ha:1≤a∧a≤3) (hb:1≤b∧b≤3) (h:opF a=opF b):a=b:=by
 have h1:a=1∨a=2∨a=3:=by omega
 have h2:b=1∨b=2∨b=3:=by omega
 rcases h1 with rfl | rfl | rfl <;> rcases h2 with rfl | rfl | rfl <;> first | rfl | (exact absurd h (by decide))
theorem ybz {tk:List UInt8} {i:Nat} (hi:i<3) (h:opF ((i:Int)+1)=tk):opV tk (i+1)=(i:Int)+1:=by
 have hn:zcq opF tk i=none:=by
  cases hf:zcq opF tk i with
  | none=>rfl
  | some o=>
   have:=zju hf;have:=yby o ((i:Int)+1) (by omega) (by omega) (this.2.2.trans h.symm);omega
 unfold opV;rw[zrz hn h];rfl
theorem zy1 {tk:List UInt8} {i:Nat} (h:opF ((i:Int)+1)≠tk):opV tk (i+1)=opV tk i:=by
 unfold opV
 cases h0:zcq opF tk i with
 | none=>rw[zn0 h0 h]
 | some o=>rw[zp6 h0 (Nat.le_succ i)]
theorem zy2 (B:Nat) (s:ByteArray) (hs:s.size≤4096) (above:Nat) (ha:above≤6) (n:Int) (r1:R) (gp k:Nat) (w:World) (h:Pa s gp k w) (hB:B≤gp) (hT:PT B w) (hK:zc0 (6 - above) (rem s k) = .ok (n,r1)) (ha5:above≤5) (hQ:zn8 B s (above+1)) (hn:n=10) :
 Calls Tryz.prog 51 #[.pointer (some ⟨gp,0,none⟩),.int .i64 above] w (Out s gp k w (zhi (5 - above) n r1) (QV w.heap.size)):=by
 subst hn
 obtain ⟨x,hx⟩:∃x,zhi (5 - above) 10 r1=x:=⟨_,rfl⟩
 rw[hx]
 have HX:Hid (x=match zaj 40 r1 with | .error e=>.error e | .ok r2=>match zcq opF ((zaf r2).takeWhile zco) 3 with
  | none=>.error ((zaf r2).length,180)
  | some o=>match zaj 44 ((zaf r2).dropWhile zco) with
   | .error e=>.error e
   | .ok r2=>match zdo r2 with
    | .error e=>.error e
    | .ok (f,r3)=>match zaj 44 r3 with
      | .error e=>.error e
      | .ok r4=>match zgp zan zbm r4 with
       | .error e=>.error e
       | .ok (z,r5)=>match zaj 44 r5 with
         | .error e=>.error e
         | .ok r6=>match zaz zan zbm (6 - (above+1)) r6 with
          | .error e=>.error e
          | .ok (q,r7)=>match zaj 41 r7 with
            | .error e=>.error e
            | .ok r8=>.ok (.mk 10 0 f emp emp [z] [] 0 o [q],r8)):=hX (by rw[←hx,show 6 - (above+1)=5 - above by omega];unfold zhi;cases zaj 40 r1 with
  | error e=>rfl
  | ok r2=>exact ybx _ _)
 clear hx;have HQ:=hX hQ;clear hQ;have HT:=hX hT;have hgp:gp<w.heap.size:=h.blk.lt;have hsz1:(w.alloc (.cells #[.pointer (some ⟨gp,0,none⟩)] 102)).heap.size=w.heap.size+1:=by simp
 have hsz2:((w.alloc (.cells #[.pointer (some ⟨gp,0,none⟩)] 102)).alloc (.cells #[.int .i64 above] 3)).heap.size=w.heap.size+2:=by simp
 have hA:Below w.heap.size w (((w.alloc (.cells #[.pointer (some ⟨gp,0,none⟩)] 102)).alloc (.cells #[.int .i64 above] 3)).alloc (.cells zax 28)):=(((Below.refl _ w).alloc (Nat.le_refl _) _).alloc (by first | (simp;done) | (simp;omega)) _).alloc (by first | (simp;done) | (simp;omega)) _;have HP:=hX (h.keep hA);have hbp:Blk (((w.alloc (.cells #[.pointer (some ⟨gp,0,none⟩)] 102)).alloc (.cells #[.int .i64 above] 3)).alloc (.cells zax 28)) w.heap.size 102 #[.pointer (some ⟨gp,0,none⟩)]:=((Blk.new w _ _).alloc _).alloc _;have hba:Blk (((w.alloc (.cells #[.pointer (some ⟨gp,0,none⟩)] 102)).alloc (.cells #[.int .i64 above] 3)).alloc (.cells zax 28)) (w.heap.size+1) 3 #[.int .i64 above]:=by rw[←hsz1];exact (Blk.new _ _ _).alloc _
 have hbr:Blk (((w.alloc (.cells #[.pointer (some ⟨gp,0,none⟩)] 102)).alloc (.cells #[.int .i64 above] 3)).alloc (.cells zax 28)) (w.heap.size+2) 28 zax:=by rw[←hsz2];exact Blk.new _ _ _
 have HBP:=hX hbp;have HBA:=hX hba;have HBR:=hX hbr;have HG:=hX (only_of_below hA (some gp));have HKD:=hX (zgd above ha s gp k _ HP.out hs);rw[hK] at HKD;clear h hT hA hbp hba hbr hsz1 hsz2 hK;unfold zax at HBR HBA HBP HG HKD HP;go_enter Tryz.func51,Tryz.ntmps51;go_wp2_with fail;refine HKD.out.mono ?_;intro e w4 ho;obtain ⟨v,rfl,⟨rfl,hn1,hn2⟩,hg,j1,hkj,hpa,hr1⟩:=ho;subst hr1;have hbp4:=HBP.out.grown hg (fun e=>by injection e with e;omega);have hba4:=HBA.out.grown hg (fun e=>by injection e with e;omega);have hbr4:=HBR.out.grown hg (fun e=>by injection e with e;omega);have hg4:=zaa HG.out hg;have HF:=hX (Fr.first (k:=10) hpa hg4 hbp4 hba4 hbr4 hgp);have HT5:=hX ((HT.out.grown hg4 hB).next ((Below.refl B w4).alloc (HT.out.grown hg4 hB).1 (.cells #[.int .i64 10,.int .i64 0,.string emp,.string emp,.string emp,.slice none 0 0,.slice none 0 0,.int .i64 0,.int .i64 0,.slice none 0 0] 28)));clear hbp4 hba4 hbr4 hg4 hg hpa HBP HBA HBR HG HKD HP HT;unfold emp at HF HT5;go_upto_region 2 with fail;generalize w4.alloc (.cells #[.int .i64 10,.int .i64 0,.string ⟨#[]⟩,.string ⟨#[]⟩,.string ⟨#[]⟩,.slice none 0 0,.slice none 0 0,.int .i64 0,.int .i64 0,.slice none 0 0] 28)=W at *;generalize w4.heap.size=gq at *;have hbq:=HF.out.bq.lt;have H1:=hX (zb9 40 s gp j1 W HF.out.pa hs);have q0:W.cell? ⟨gq,0,none⟩=some (.int .i64 10):=HF.out.bq.cell 0;have cp:W.cell? ⟨w.heap.size,0,none⟩=some (.pointer (some ⟨gp,0,none⟩)):=HF.out.bp.cell 0
 go_wp2_with fail;refine H1.out.mono ?_;clear H1
 obtain ⟨y1,hy1⟩:∃y,zaj 40 (rem s j1)=y:=⟨_,rfl⟩
 rw[hy1] at HX ⊢;clear hy1
 match y1 with
 | .error (p,c)=>
   intro e w9 ho;obtain ⟨rfl,hg⟩:=ho;refine ⟨rfl,?_⟩;rw[HX.out];exact ⟨rfl,zaa HF.out.grown hg⟩
 | .ok r2=>
  intro e w6 ho;obtain ⟨rfl,hg,j2,hj2,hpa,hr⟩:=ho;subst hr;have HF6:=hX (HF.out.same hg hpa);have HT6:=hX (HT5.out.grown hg hB);clear hg hpa q0 cp;have q0:w6.cell? ⟨gq,0,none⟩=some (.int .i64 10):=HF6.out.bq.cell 0;have cp:w6.cell? ⟨w.heap.size,0,none⟩=some (.pointer (some ⟨gp,0,none⟩)):=HF6.out.bp.cell 0;have HR:=hX (run_any s gp j2 w6 HF6.out.pa hs);try dsimp only at HX
  generalize (zaf (rem s j2)).takeWhile zco=tk at HR HX;generalize (zaf (rem s j2)).dropWhile zco=dk at HR HX;generalize (zaf (rem s j2)).length=nn at HR HX;go_wp2_with fail;refine HR.out.mono ?_;clear HR;rintro e w7 ⟨rfl,hg,j3,hj3,hpa,hr⟩;subst hr;have HF7:=hX (HF6.out.same hg hpa);have HT7:=hX (HT6.out.grown hg hB);clear hg hpa q0 cp;go_wp2_with fail;go_loopw [13] (fun v wr=>∃i:Nat,i≤3∧v = .int .i64 ((i:Int)+1)∧Hid (Fr s gp w gq above j3 (.mk 10 0 ⟨#[]⟩ ⟨#[]⟩ ⟨#[]⟩ [] [] 0 (opV tk i) []) [.int .i64 10,.int .i64 0,.string ⟨#[]⟩,.string ⟨#[]⟩,.string ⟨#[]⟩,.slice none 0 0,.slice none 0 0,.int .i64 0,.int .i64 (opV tk i),.slice none 0 0] [] wr)∧Hid (PT B wr)) (fun v _=>5 - (intOf v).toNat);case atStart=>exact ⟨0,by omega,rfl,HF7,HT7⟩
  case round=>
   clear HF7 HT7;obtain ⟨i,hi,rfl,HF8,HT8⟩:=hrel;by_cases hlt:i<3
   ·have hlt2:((i:Int)+1)≤3:=by omega
    have HW:=hX (fun W=>ydl ((i:Int)+1) W (by omega));by_cases hw:opF ((i:Int)+1)=tk
    ·have de:((str (opF ((i:Int)+1))).toList == (QryP.bytes tk).toList)=true:=by rw[str_eq];exact decide_eq_true hw
     have HV:=hX (ybz hlt hw);clear hw;generalize str (opF ((i:Int)+1))=sw at *;have q8:wr.cell? ⟨gq,8,none⟩=some (.int .i64 (opV tk i)):=HF8.out.bq.cell 8;have z8:wr.frozen? ⟨gq,8,none⟩=false:=HF8.out.bq.frozen 8;have HF9:=hX (HF8.out.set 8 (.int .i64 ((i:Int)+1)) (HF8.out.oq.oper ((i:Int)+1)) HF8.out.nd);have HT9:=hX (HT8.out.next (show Below B wr (wr.setCell ⟨gq,8,none⟩ (.int .i64 ((i:Int)+1))) from (Below.refl B wr).setCell (by show B≤gq;have:=HF8.out.hq;omega) _));go_wp2_with fail;refine (HW.out _).mono ?_;rintro e w2 ⟨rfl,rfl⟩;go_wp2_with fail;go_roundw;case rel=>exact ⟨i+1,by omega,by go_num,by rw[HV.out];exact HF9,HT9⟩
     case measure=>simp[intOf];omega
    ·have de:((str (opF ((i:Int)+1))).toList == (QryP.bytes tk).toList)=false:=by rw[str_eq];exact decide_eq_false hw
     have HV:=hX (zy1 hw);clear hw;generalize str (opF ((i:Int)+1))=sw at *;go_wp2_with fail;refine (HW.out _).mono ?_;rintro e w2 ⟨rfl,rfl⟩;go_wp2_with fail;go_roundw;case rel=>exact ⟨i+1,by omega,by go_num,by rw[HV.out];exact HF8,HT8⟩
     case measure=>simp[intOf];omega
   ·obtain rfl:i=3:=by omega
    unfold opV at HF8;try dsimp only at HX
    obtain ⟨fk,hfk⟩:∃y,zcq opF tk 3=y:=⟨_,rfl⟩
    rw[hfk] at HX HF8
    cases fk with
    | none=>
     have HX2:Hid (x = .error (nn,180)):=hX HX.out;have q8:wr.cell? ⟨gq,8,none⟩=some (.int .i64 0):=HF8.out.bq.cell 8;have HWR:=hX (za1 ((s.size - nn:Nat):Int) wr);clear hfk HX;go_wp2_with fail;refine HWR.out.mono ?_;rintro e w9 ⟨rfl,rfl⟩;refine ⟨rfl,?_⟩;rw[HX2.out];exact ⟨rfl,HF8.out.grown⟩
    | some o=>
     have ho3:=zju hfk;have d0:(o == 0)=false:=by rw[beq_eq_false_iff_ne];omega
     dsimp only at HX HF8;have q8:wr.cell? ⟨gq,8,none⟩=some (.int .i64 o):=HF8.out.bq.cell 8;have cp:wr.cell? ⟨w.heap.size,0,none⟩=some (.pointer (some ⟨gp,0,none⟩)):=HF8.out.bp.cell 0;have H2:=hX (zff w.heap.size s gp j3 wr HF8.out.pa hs cp);clear hfk ho3;go_wp2_with fail;refine H2.out.mono ?_;clear H2
     obtain ⟨y2,hy2⟩:∃y,zaj 44 (rem s j3)=y:=⟨_,rfl⟩
     rw[hy2] at HX ⊢;clear hy2
     match y2 with
     | .error (p,c)=>
       intro e w9 ho;obtain ⟨rfl,hg⟩:=ho;refine ⟨rfl,?_⟩;rw[HX.out];exact ⟨rfl,zaa HF8.out.grown hg⟩
     | .ok r3=>
      intro e w9 ho;obtain ⟨rfl,hg,j4,hj4,hpa,hr⟩:=ho;subst hr;have HF9:=hX (HF8.out.same hg hpa);have HT9:=hX (HT8.out.grown hg hB);clear hg hpa cp q8;have cp:w9.cell? ⟨w.heap.size,0,none⟩=some (.pointer (some ⟨gp,0,none⟩)):=HF9.out.bp.cell 0;have H3:=hX (zn5 s gp j4 w9 HF9.out.pa hs);go_wp2_with fail;refine H3.out.mono ?_;clear H3
      obtain ⟨y3,hy3⟩:∃y,zdo (rem s j4)=y:=⟨_,rfl⟩
      rw[hy3] at HX ⊢;clear hy3
      match y3 with
      | .error (p,c)=>
        intro e w9 ho;obtain ⟨rfl,hg⟩:=ho;refine ⟨rfl,?_⟩;rw[HX.out];exact ⟨rfl,zaa HF9.out.grown hg⟩
      | .ok (f,r4)=>
        intro e w10 ho;obtain ⟨v,rfl,rfl,hg,j5,hj5,hpa,hr⟩:=ho;subst hr;have HF10:=hX (HF9.out.same hg hpa);have HT10:=hX (HT9.out.grown hg hB);have q2:w10.cell? ⟨gq,2,none⟩=some (.string ⟨#[]⟩):=HF10.out.bq.cell 2;have z2:w10.frozen? ⟨gq,2,none⟩=false:=HF10.out.bq.frozen 2;have HF11:=hX (HF10.out.set 2 (.string f) (HF10.out.oq.field f) HF10.out.nd);have HT11:=hX (HT10.out.next (show Below B w10 (w10.setCell ⟨gq,2,none⟩ (.string f)) from (Below.refl B w10).setCell (by show B≤gq;have:=HF10.out.hq;omega) _));clear hg hpa cp;go_upto_region 45 with fail;generalize w10.setCell ⟨gq,2,none⟩ (.string f)=w11 at *;clear q2 z2;have cp:w11.cell? ⟨w.heap.size,0,none⟩=some (.pointer (some ⟨gp,0,none⟩)):=HF11.out.bp.cell 0;have H4:=hX (zff w.heap.size s gp j5 w11 HF11.out.pa hs cp);go_wp2_with fail;refine H4.out.mono ?_;clear H4
        obtain ⟨y4,hy4⟩:∃y,zaj 44 (rem s j5)=y:=⟨_,rfl⟩
        rw[hy4] at HX ⊢;clear hy4
        match y4 with
        | .error (p,c)=>
          intro e w9 ho;obtain ⟨rfl,hg⟩:=ho;refine ⟨rfl,?_⟩;rw[HX.out];exact ⟨rfl,zaa HF11.out.grown hg⟩
        | .ok r5=>
         intro e w12 ho;obtain ⟨rfl,hg,j6,hj6,hpa,hr⟩:=ho;subst hr;have HF12:=hX (HF11.out.same hg hpa);have HT12:=hX (HT11.out.grown hg hB);clear hg hpa cp;have cp:w12.cell? ⟨w.heap.size,0,none⟩=some (.pointer (some ⟨gp,0,none⟩)):=HF12.out.bp.cell 0;have H5:=hX (zgf B s gp j6 w12 HF12.out.pa hs hB HT12.out);go_wp2_with fail;refine H5.out.mono ?_;clear H5
         obtain ⟨y5,hy5⟩:∃y,zgp zan zbm (rem s j6)=y:=⟨_,rfl⟩
         rw[hy5] at HX ⊢;clear hy5
         match y5 with
         | .error (p,c)=>
           intro e w9 ho;obtain ⟨rfl,hg⟩:=ho;refine ⟨rfl,?_⟩;rw[HX.out];exact ⟨rfl,zaa HF12.out.grown hg⟩
         | .ok (zz,r6)=>
           intro e w13 ho;obtain ⟨v,rfl,⟨rfl,hz64⟩,hg,j7,hj7,hpa,hr⟩:=ho;subst hr;have HF13:=hX (HF12.out.same hg hpa);have HT13:=hX (HT12.out.grown hg hB);clear hg hpa cp hz64;have hA:=(Below.refl w13.heap.size w13).alloc (Nat.le_refl _) (.cells #[.int .i64 zz] 2);have HF14:=hX (HF13.out.same (only_of_below hA (some gp)) (HF13.out.pa.keep hA));have HT14:=hX (HT13.out.next (hA.mono HT13.out.1))
           have hrow:ze1 (w13.alloc (.cells #[.int .i64 zz] 2)) (gq+1) (.slice (some ⟨w13.heap.size,0,none⟩) 1 1) [zz]:=⟨rfl,.inr ⟨w13.heap.size,1,#[.int .i64 zz],rfl,HF13.out.bq.lt,Blk.new w13 _ _,Nat.le_refl _,by unfold maxLen;omega,rfl,rfl⟩⟩
           obtain ⟨bs2,hoq2,hnd2⟩:=HF14.out.oq.low HF14.out.nd hrow (fun g hg hm=>by cases hm);have HF15:=hX (HF14.out.set 5 _ hoq2 hnd2);have HT15:=hX (HT14.out.next (show Below B _ ((w13.alloc (.cells #[.int .i64 zz] 2)).setCell ⟨gq,5,none⟩ (.slice (some ⟨w13.heap.size,0,none⟩) 1 1)) from (Below.refl B _).setCell (by show B≤gq;have:=HF13.out.hq;omega) _));have q5:(w13.alloc (.cells #[.int .i64 zz] 2)).cell? ⟨gq,5,none⟩=some (.slice none 0 0):=HF14.out.bq.cell 5;have z5:(w13.alloc (.cells #[.int .i64 zz] 2)).frozen? ⟨gq,5,none⟩=false:=HF14.out.bq.frozen 5;have hlt13:=HF13.out.bq.lt;have hne13:gq≠w13.heap.size:=by omega
           have q5':w13.cell? ⟨gq,5,none⟩=some (.slice none 0 0):=HF13.out.bq.cell 5;have z5':w13.frozen? ⟨gq,5,none⟩=false:=HF13.out.bq.frozen 5;clear hA hrow hoq2 hnd2;rw[World.setCell_alloc_past _ _ _ _ hlt13] at HF15 HT15;go_upto_region 47 with fail;generalize (w13.setCell ⟨gq,5,none⟩ (.slice (some ⟨w13.heap.size,0,none⟩) 1 1)).alloc (.cells #[.int .i64 zz] 2)=w15 at *;clear q5 z5 q5' z5';generalize hsl:(List.set _ 5 (Value.slice (some ⟨w13.heap.size,0,none⟩) 1 1))=us15 at HF15;have cp:w15.cell? ⟨w.heap.size,0,none⟩=some (.pointer (some ⟨gp,0,none⟩)):=HF15.out.bp.cell 0;have H6:=hX (zff w.heap.size s gp j7 w15 HF15.out.pa hs cp);go_wp2_with fail;refine H6.out.mono ?_;clear H6
           obtain ⟨y6,hy6⟩:∃y,zaj 44 (rem s j7)=y:=⟨_,rfl⟩
           rw[hy6] at HX ⊢;clear hy6
           match y6 with
           | .error (p,c)=>
             intro e w9 ho;obtain ⟨rfl,hg⟩:=ho;refine ⟨rfl,?_⟩;rw[HX.out];exact ⟨rfl,zaa HF15.out.grown hg⟩
           | .ok r7=>
            intro e w16 ho;obtain ⟨rfl,hg,j8,hj8,hpa,hr⟩:=ho;subst hr;have HF16:=hX (HF15.out.same hg hpa);have HT16:=hX (HT15.out.grown hg hB);clear hg hpa cp;have H7:=hX (zp8 B s gp w gq above j8 _ _ _ w16 HF16.out hs hB HT16.out ha5 (Nat.zero_le 4096) HQ.out);go_wp2_with fail;refine H7.out.mono ?_;clear H7
            obtain ⟨y7,hy7⟩:∃y,zaz zan zbm (6 - (above+1)) (rem s j8)=y:=⟨_,rfl⟩
            rw[hy7] at HX ⊢;clear hy7
            match y7 with
            | .error (p,c)=>
              intro e w99 ho;obtain ⟨rfl,hg⟩:=ho;refine ⟨rfl,?_⟩;rw[HX.out];exact ⟨rfl,hg⟩
            | .ok (q,r9)=>
              intro e w17 ho;obtain ⟨rfl,j9,us6,bs6,hj9,hr,hf⟩:=ho;subst hr;generalize hqa:ydu (QT.mk 10 0 f ⟨#[]⟩ ⟨#[]⟩ [zz] [] 0 o []) q=qa at hf;have HE:Hid (QT.mk 10 0 f emp emp [zz] [] 0 o [q]=qa):=hX hqa;clear hqa;have HF17:=hX hf;clear hf;have cp:w17.cell? ⟨w.heap.size,0,none⟩=some (.pointer (some ⟨gp,0,none⟩)):=HF17.out.bp.cell 0;have H8:=hX (zb9 41 s gp j9 w17 HF17.out.pa hs);go_wp2_with fail;refine H8.out.mono ?_;clear H8
              obtain ⟨y8,hy8⟩:∃y,zaj 41 (rem s j9)=y:=⟨_,rfl⟩
              rw[hy8] at HX ⊢;clear hy8
              match y8 with
              | .error (p,c)=>
                intro e w9 ho;obtain ⟨rfl,hg⟩:=ho;refine ⟨rfl,?_⟩;rw[HX.out];exact ⟨rfl,zaa HF17.out.grown hg⟩
              | .ok r8=>
               intro e w18 ho;obtain ⟨rfl,hg,j10,hj10,hpa,hr⟩:=ho;subst hr;have HF18:=hX (HF17.out.same hg hpa);clear hg hpa cp;obtain ⟨kq,oq,fq,tq,uq,loq,hiq,bq,opq,ksq⟩:=qa;obtain ⟨cl,ch,ck,al,ah,ak,hus⟩:=HF18.out.shape;subst hus;have hq:=HF18.out.hq;have hne:gq≠w.heap.size+1+1:=by omega
               have hkj10:k≤j10:=by omega
               obtain ⟨q0,q1,q2,q3,q4,q5,q6,q7,q8,q9⟩:=b10 HF18.out.bq;obtain ⟨r0,r1,r2,r3,r4,r5,r6,r7,r8,r9⟩:=b10 HF18.out.br;obtain ⟨z0,z1,z2,z3,z4,z5,z6,z7,z8,z9⟩:=z10 HF18.out.br;have HBK:=hX (zcg (W:=w18) (g:=w.heap.size+1+1) HF18.out.br (.int .i64 kq) (.int .i64 oq) (.string fq) (.string tq) (.string uq) (.slice al loq.length cl) (.slice ah hiq.length ch) (.int .i64 bq) (.int .i64 opq) (.slice ak ksq.length ck));have HGR:=hX (zbn w18 (w.heap.size+1+1) (.int .i64 kq) (.int .i64 oq) (.string fq) (.string tq) (.string uq) (.slice al loq.length cl) (.slice ah hiq.length ch) (.int .i64 bq) (.int .i64 opq) (.slice ak ksq.length ck));go_wp2_with fail;generalize ((((((((((w18.setCell ⟨w.heap.size+1+1,0,none⟩ (.int .i64 kq)).setCell ⟨w.heap.size+1+1,1,none⟩ (.int .i64 oq)).setCell ⟨w.heap.size+1+1,2,none⟩ (.string fq)).setCell ⟨w.heap.size+1+1,3,none⟩ (.string tq)).setCell ⟨w.heap.size+1+1,4,none⟩ (.string uq)).setCell ⟨w.heap.size+1+1,5,none⟩ (.slice al loq.length cl)).setCell ⟨w.heap.size+1+1,6,none⟩ (.slice ah hiq.length ch)).setCell ⟨w.heap.size+1+1,7,none⟩ (.int .i64 bq)).setCell ⟨w.heap.size+1+1,8,none⟩ (.int .i64 opq)).setCell ⟨w.heap.size+1+1,9,none⟩ (.slice ak ksq.length ck))=W2 at *;clear q0 r0 z0 q1 r1 z1 q2 r2 z2 q3 r3 z3 q4 r4 z4 q5 r5 z5 q6 r6 z6 q7 r7 z7 q8 r8 z8 q9 r9 z9;try simp only[Exit.inBlock,Exit.then]
               refine ⟨rfl,_,results_cell_row rfl _ W2 (w.heap.size+1+1) 28 _ (0,0) _ rfl HBK.out Tryz.underlying28 rfl (by kernel_rfl),?_⟩;obtain ⟨_,hqv,hat⟩:=HF18.out.done HGR.out hkj10;rw[HX.out,HE.out];exact ⟨_,rfl,hqv,hat⟩
end Go.Proofs.YtplkbdncgkgppaaGreatDoor.Qry
end
section
namespace Go.Proofs.YtplkbdncgkgppaaGreatDoor.Qry
open QryP SchP
def clW (qs:R→E (QT × R)) (r:R):E (List QT × R):=zbk qs (r.length+1) r
def zr2 (l0:List QT):E (List QT × R)→E (List QT × R)
 | .ok (l,r)=>.ok (l0++l,r)
 | .error e=>.error e
theorem zy3 (a b:List QT) (x:E (List QT × R)):zr2 a (zr2 b x)=zr2 (a++b) x:=by
 match x with
 | .ok (l,r)=>simp[zr2]
 | .error e=>rfl
theorem zmn (qs:R→E (QT × R)) (hq:∀t,zgx t.length (qs t)) (r:R):clW qs r=match zaf r with
 | []=>.error (0,180)
 | c::t=>if zc7 c=0 then .error (t.length+1,180) else match qs t with
  | .error e=>.error e
  | .ok (k,r1)=>if (isS 44 r1).1 then zr2 [zcp (zc7 c) k] (clW qs (isS 44 r1).2) else .ok ([zcp (zc7 c) k],(isS 44 r1).2):=by
 unfold clW;rw[zbk];have hs:=za6 r
 cases hk:zaf r with
 | nil=>rfl
 | cons c t=>
  rw[hk] at hs;dsimp only;by_cases hm:zc7 c=0
  ·rw[if_pos hm,if_pos hm]
  ·rw[if_neg hm,if_neg hm];have hqt:=hq t
   match hx:qs t,hqt with
   | .error e,_=>rfl
   | .ok (k,r1),hqt=>
     replace hqt:r1.length≤t.length:=hqt;dsimp only;have hs1:=za6 r1
     cases hk1:zaf r1 with
     | nil=>rw[zp5 hk1];rfl
     | cons x r3=>
      rw[hk1] at hs1;simp only[List.length_cons] at hs hs1;by_cases h44:x=44
      ·subst h44;rw[show isS 44 r1=(true,r3) from (zhg hk1).trans (if_pos rfl)];dsimp only;rw[if_pos rfl]
       show (match zbk qs r.length r3 with
        | .error e=>Except.error e
        | .ok (ks,r4)=>Except.ok (zcp (zc7 c) k::ks,r4))=_
       rw[zjv hq r.length (r3.length+1) r3 (by omega) (by omega)]
       cases zbk qs (r3.length+1) r3 with
       | error e=>rfl
       | ok p=>rfl
      ·rw[show isS 44 r1=(false,x::r3) from (zhg hk1).trans (if_neg h44)];dsimp only;rw[if_neg (by decide)];split
       ·rename_i heq;injection heq with e1 e2;exact absurd e1 h44
       ·rfl
theorem zqb (qs:R→E (QT × R)) (hq:∀t,zgx t.length (qs t)) (r:R):clW qs (zaf r)=clW qs r:=by
 rw[zmn qs hq,zmn qs hq r,zji]
theorem ydx (qs:R→E (QT × R)) (hq:∀t,zgx t.length (qs t)) (r:R):ze6 zan zbm qs 8 r=if (isS 41 r).1 then .ok (.mk 8 0 emp emp emp [] [] 0 0 [],(isS 41 r).2) else match clW qs (isS 41 r).2 with
 | .error e=>.error e
 | .ok (ks,r1)=>match zaj 41 r1 with
   | .error e=>.error e
   | .ok r2=>.ok (.mk 8 0 emp emp emp [] [] 0 0 ks,r2):=by
 have key:zbk qs (r.length+1) r=clW qs r:=rfl;unfold ze6;rw[if_pos rfl,key]
 cases hk:zaf r with
 | nil=>
  rw[zp5 hk];dsimp only[bind,Except.bind];rw[if_neg (by decide),←zqb qs hq r,hk]
  cases clW qs [] with
  | error e=>rfl
  | ok p=>
   obtain ⟨ks,r1⟩:=p;dsimp only
   cases zaj 41 r1 with
   | error e=>rfl
   | ok r2=>rfl
 | cons x t=>
  by_cases h41:x=41
  ·subst h41;rw[show isS 41 r=(true,t) from (zhg hk).trans (if_pos rfl)];rfl
  ·rw[show isS 41 r=(false,x::t) from (zhg hk).trans (if_neg h41)];dsimp only[bind,Except.bind];rw[if_neg (by decide),←zqb qs hq r,hk];split
   ·rename_i heq;injection heq with e1 e2;exact absurd e1 h41
   ·cases clW qs (x::t) with
    | error e=>rfl
    | ok p=>
     obtain ⟨ks,r1⟩:=p;dsimp only
     cases zaj 41 r1 with
     | error e=>rfl
     | ok r2=>rfl
end Go.Proofs.YtplkbdncgkgppaaGreatDoor.Qry
end
section
namespace Go.Proofs.YtplkbdncgkgppaaGreatDoor.Qry
open Go.RowKit Words Tree QryP Kit Sch SchP Owned
theorem zvm {r:R} {p:Int × R} (h:zc0 0 r = .ok p):False:=by
 unfold zc0 at h;split at h
 ·cases h
 ·rw[if_pos rfl] at h;cases h
theorem zod (d:Nat) (r:R):zaz zan zbm (d+1) r=match zc0 (d+1) r with
 | .error e=>.error e
 | .ok (k,r1)=>if k=1∨k=2 then .ok (.mk k 0 emp emp emp [] [] 0 0 [],r1) else zhi d k r1:=by
 rw[zaz];rfl
theorem zs5 (r:R):zaz zan zbm 0 r=match zc0 0 r with
 | .error e=>.error e
 | .ok _=>.error (0,0):=by
 rw[zaz];cases zc0 0 r <;> rfl
theorem zvn (B:Nat) (s:ByteArray) (hs:s.size≤4096) (above:Nat) (ha:above≤6) (ec:Nat × Int) (gp k:Nat) (w:World) (h:Pa s gp k w) (hB:B≤gp) (hT:PT B w) (hK:zc0 (6 - above) (rem s k) = .error ec) :
 Calls Tryz.prog 51 #[.pointer (some ⟨gp,0,none⟩),.int .i64 above] w (Out s gp k w (.error ec) (QV w.heap.size)):=by
 obtain ⟨pc,cc⟩:=ec;have HT:=hX hT;have hgp:gp<w.heap.size:=h.blk.lt;have hsz1:(w.alloc (.cells #[.pointer (some ⟨gp,0,none⟩)] 102)).heap.size=w.heap.size+1:=by simp
 have hsz2:((w.alloc (.cells #[.pointer (some ⟨gp,0,none⟩)] 102)).alloc (.cells #[.int .i64 above] 3)).heap.size=w.heap.size+2:=by simp
 have hA:Below w.heap.size w (((w.alloc (.cells #[.pointer (some ⟨gp,0,none⟩)] 102)).alloc (.cells #[.int .i64 above] 3)).alloc (.cells zax 28)):=(((Below.refl _ w).alloc (Nat.le_refl _) _).alloc (by first | (simp;done) | (simp;omega)) _).alloc (by first | (simp;done) | (simp;omega)) _;have HP:=hX (h.keep hA);have hbp:Blk (((w.alloc (.cells #[.pointer (some ⟨gp,0,none⟩)] 102)).alloc (.cells #[.int .i64 above] 3)).alloc (.cells zax 28)) w.heap.size 102 #[.pointer (some ⟨gp,0,none⟩)]:=((Blk.new w _ _).alloc _).alloc _;have hba:Blk (((w.alloc (.cells #[.pointer (some ⟨gp,0,none⟩)] 102)).alloc (.cells #[.int .i64 above] 3)).alloc (.cells zax 28)) (w.heap.size+1) 3 #[.int .i64 above]:=by rw[←hsz1];exact (Blk.new _ _ _).alloc _
 have hbr:Blk (((w.alloc (.cells #[.pointer (some ⟨gp,0,none⟩)] 102)).alloc (.cells #[.int .i64 above] 3)).alloc (.cells zax 28)) (w.heap.size+2) 28 zax:=by rw[←hsz2];exact Blk.new _ _ _
 have HBP:=hX hbp;have HBA:=hX hba;have HBR:=hX hbr;have HG:=hX (only_of_below hA (some gp));have HKD:=hX (zgd above ha s gp k _ HP.out hs);rw[hK] at HKD;clear h hT hA hbp hba hbr hsz1 hsz2 hK;unfold zax at HBR HBA HBP HG HKD HP;go_enter Tryz.func51,Tryz.ntmps51;go_wp2_with fail;refine HKD.out.mono ?_;intro e w4 ho;obtain ⟨rfl,hg⟩:=ho;refine ⟨rfl,?_⟩;exact ⟨rfl,zaa HG.out hg⟩
end Go.Proofs.YtplkbdncgkgppaaGreatDoor.Qry
end
