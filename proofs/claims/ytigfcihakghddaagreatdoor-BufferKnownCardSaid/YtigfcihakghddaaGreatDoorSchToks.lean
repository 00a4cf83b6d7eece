/- Lemmas that the last text leans on. -/
import Derived.Test.YtigfcihakghddaaGreatDoorTake
import Derived.Test.YtigfcihakghddaaGreatDoorPack24
import Derived.Test.YtigfcihakghddaaGreatDoorPack26
import Derived.Test.YtigfcihakghddaaGreatDoorPack30
import Derived.Deep.RegionHeld3
import Derived.Orders
set_option linter.all false
namespace Go.Proofs.YtigfcihakghddaaGreatDoor.Sch
open Go.RowKit Words Tree SchP Kit Owned AnaP
set_option maxRecDepth 100000 in
set_option maxHeartbeats 100000000 in
theorem toksW_any (u x:Value) (l:List FT) (field:Int) (cs:List CT) (w:World) (hu:T.At bare w (fun g=>g<w.heap.size) (fieldsT l) u) (hl:l.length*72≤140737488351232) (hf:∀f∈l,FOk f)
 (hx:T.At bare w (fun g=>g<w.heap.size) (cellsT cs) x) (hd:cs.length≤1048576) (he:∀c∈cs,COk c) (hT:FoldNext.Tabs w) :
 Calls Tryz.prog 104 #[.agg #[u],.int .i64 field,x] w (OwnT (toksF l field cs) w):=by
 have HCK:=hX (fun (W:World) (hW:Below w.heap.size w W)=>checkS_any u l W (At.below hu hW (fun g hg=>Nat.lt_of_lt_of_le hg hW.size)) hl hf);obtain ⟨A,cA,rfl,hcA,hmA,eA⟩:=at_row fcells_len hu;obtain ⟨D,cD,rfl,hcD,hmD,eD⟩:=at_row ccells_len hx;have EA:=hX eA;have ED:=hX eD;have HF:=hX hf;have HE:=hX he;have HTT:=hX hT;clear hT;clear hu hx eA eD hf he
 cases hck:checkS l with
 | false=>
  rw[hck] at HCK;have HNO:Hid (toksF l field cs=[]):=hX (toksF_no (.inl hck) cs);have herr:errS false=80:=rfl;rw[herr] at HCK;go_enter Tryz.func104,Tryz.ntmps104;go_wp2_with fail;refine (HCK.out _ ((Below.refl _ _).alloc (Nat.le_refl _) _)).mono ?_;rintro e' W1 ⟨rfl,b1⟩;have HB1:=hX (((Below.refl _ _).alloc (Nat.le_refl _) _).trans (b1.mono (by simp)):Below w.heap.size w W1);have BA:=hX ((Blk.new w 24 #[.slice A l.length cA]).below b1 (by simp));have hA:W1.cell? ⟨w.heap.size,0,none⟩=some (.slice A l.length cA):=BA.out.cell 0;have hz1:w.heap.size<W1.heap.size:=BA.out.lt;clear b1;go_wp2_with fail;go_ret;rw[HNO.out];exact ownT_none HB1.out
 | true=>
 rw[hck] at HCK;have herr:errS true=0:=rfl;rw[herr] at HCK
 rcases (show field<0∨(¬field<0∧(l.length:Int)≤field)∨(0≤field∧field<l.length) by omega) with hn | ⟨hn,hn2⟩ | ⟨hn,hn2⟩
 ·have HNO:Hid (toksF l field cs=[]):=hX (toksF_no (.inr (.inl hn)) cs);have e1:decide (field<0)=true:=decide_eq_true hn;clear hn;go_enter Tryz.func104,Tryz.ntmps104;go_wp2_with fail;refine (HCK.out _ ((Below.refl _ _).alloc (Nat.le_refl _) _)).mono ?_;rintro e' W1 ⟨rfl,b1⟩;have HB1:=hX (((Below.refl _ _).alloc (Nat.le_refl _) _).trans (b1.mono (by simp)):Below w.heap.size w W1);have BA:=hX ((Blk.new w 24 #[.slice A l.length cA]).below b1 (by simp));have hA:W1.cell? ⟨w.heap.size,0,none⟩=some (.slice A l.length cA):=BA.out.cell 0;have hz1:w.heap.size<W1.heap.size:=BA.out.lt;clear b1;go_wp2_with fail;go_ret;rw[HNO.out];exact ownT_none HB1.out
 ·have HNO:Hid (toksF l field cs=[]):=hX (toksF_no (.inr (.inr hn2)) cs);have e1:decide (field<0)=false:=decide_eq_false hn;have e2:decide ((l.length:Int)≤field)=true:=decide_eq_true hn2;clear hn hn2;go_enter Tryz.func104,Tryz.ntmps104;go_wp2_with fail;refine (HCK.out _ ((Below.refl _ _).alloc (Nat.le_refl _) _)).mono ?_;rintro e' W1 ⟨rfl,b1⟩;have HB1:=hX (((Below.refl _ _).alloc (Nat.le_refl _) _).trans (b1.mono (by simp)):Below w.heap.size w W1);have BA:=hX ((Blk.new w 24 #[.slice A l.length cA]).below b1 (by simp));have hA:W1.cell? ⟨w.heap.size,0,none⟩=some (.slice A l.length cA):=BA.out.cell 0;have hz1:w.heap.size<W1.heap.size:=BA.out.lt;clear b1;go_wp2_with fail;go_ret;rw[HNO.out];exact ownT_none HB1.out
 obtain ⟨i,rfl⟩:∃i:Nat,field=i:=⟨field.toNat,by omega⟩
 have hil:i<l.length:=by omega
 have hil2:(i:Int)<(l.length:Int):=by omega
 have e1:decide ((i:Int)<0)=false:=decide_eq_false (by omega);have e2:decide ((l.length:Int)≤i)=false:=decide_eq_false (by omega);have e3:decide (l.length≤i)=false:=decide_eq_false (by omega);clear hn hn2;obtain ⟨sd,us2,rfl,hbs,asx,ls,fs⟩:=EA.out i hil;have hli:l[i]?=some l[i]:=List.getElem?_eq_getElem hil;have HFO:=hX (HF.out _ (List.getElem_mem hil));generalize l[i]=f at *;obtain ⟨vs,rfl,gs⟩:=at_fcells asx;obtain ⟨X,z1,rfl,hz1',hmz1⟩:=at_slice gs;have HFC:=hX gs;obtain ⟨s0,s1,s2,s3,s4,s5,s6⟩:=seven fs;have HS1:=hX s1;have HS2:=hX s2;have HTF:=hX (toksF_in hck hli cs);have hsb:(sd.add (i*7)).block<w.heap.size:=by rw[block_of_add];exact hbs
 clear s0 s1 s2 s3 s4 s5 s6 hli asx ls gs fs
 obtain ⟨A,rfl⟩:∃A,A=some sd:=⟨_,rfl⟩
 obtain ⟨h1,h2⟩ | ⟨h1,h2⟩:=neqz f.kind 1;rotate_left
 ·have HNO:Hid (toksF l i cs=[]):=hX (by rw[HTF.out,if_neg h1]);clear h1;go_enter Tryz.func104,Tryz.ntmps104;go_wp2_with fail;refine (HCK.out _ ((Below.refl _ _).alloc (Nat.le_refl _) _)).mono ?_;rintro e' W1 ⟨rfl,b1⟩;have HB1:=hX (((Below.refl _ _).alloc (Nat.le_refl _) _).trans (b1.mono (by simp)):Below w.heap.size w W1);have BA:=hX ((Blk.new w 24 #[.slice (some sd) l.length cA]).below b1 (by simp));have hA:W1.cell? ⟨w.heap.size,0,none⟩=some (.slice (some sd) l.length cA):=BA.out.cell 0;have hz1:w.heap.size<W1.heap.size:=BA.out.lt;clear b1;have q1:W1.cell? ⟨(sd.add (i*7)).block,(sd.add (i*7)).off+1,none⟩=some (.int .i64 f.kind):=(HB1.out.cell (p:=⟨(sd.add (i*7)).block,(sd.add (i*7)).off+1,none⟩) hsb).trans HS1.out;go_wp2_with fail;go_ret;rw[HNO.out];exact ownT_none HB1.out
 obtain ⟨f0,f1,f2,f3,f4,f5,f6⟩:=f;dsimp only at *;subst h1
 obtain ⟨R,hR⟩:∃R,toksF l i cs=R:=⟨_,rfl⟩
 have HR:Hid (toksF l i cs=R):=hX hR;have HG0:Hid (toksGo (runTk ⟨f0,1,f2,f3,f4,f5,f6⟩) i [] (cs.drop 0)=R):=hX (by rw[←hR,HTF.out,if_pos rfl,List.drop_zero])
 obtain ⟨F,hF⟩:∃F,F=(⟨f0,1,f2,f3,f4,f5,f6⟩:FT):=⟨_,rfl⟩
 have HFQ:Hid (∀s,runTk F s=(runF f2 s).1):=hX (fun s=>by rw[hF];rfl);rw[←hF] at HG0;clear hR HTF hF;go_enter Tryz.func104,Tryz.ntmps104;go_wp2_with fail;refine (HCK.out _ ((Below.refl _ _).alloc (Nat.le_refl _) _)).mono ?_;rintro e' W1 ⟨rfl,b1⟩;have HB1:=hX (((Below.refl _ _).alloc (Nat.le_refl _) _).trans (b1.mono (by simp)):Below w.heap.size w W1);have BA:=hX ((Blk.new w 24 #[.slice (some sd) l.length cA]).below b1 (by simp));have hA:W1.cell? ⟨w.heap.size,0,none⟩=some (.slice (some sd) l.length cA):=BA.out.cell 0;have hz1:w.heap.size<W1.heap.size:=BA.out.lt;clear b1;have q1:W1.cell? ⟨(sd.add (i*7)).block,(sd.add (i*7)).off+1,none⟩=some (.int .i64 1):=(HB1.out.cell (p:=⟨(sd.add (i*7)).block,(sd.add (i*7)).off+1,none⟩) hsb).trans HS1.out;have HS0:Hid (ToksSt W1 F i cs R 0 (.slice none 0 0) W1):=hX ⟨[],HG0.out,ToksOk.nil,World.ownsRow_nil _ _ _ _,Below.refl _ _⟩;go_wp2_with fail;clear q1 hA;go_loopw [7,41] (fun o i1 wr=>∃k:Nat,k≤cs.length∧i1 = .int .i64 k∧Hid (ToksSt W1 F i cs R k o wr)) (fun _ i _=>cs.length - (intOf i).toNat);case atStart=>exact ⟨0,by omega,rfl,HS0⟩
 case round=>
  obtain ⟨k,hk,rfl,HS⟩:=hrel
  obtain ⟨wo,hwo⟩:∃wo:World,wo=wr:=⟨_,rfl⟩
  subst hwo;obtain ⟨out,hgo,hok,hown,hbel⟩:=HS.out;have HGO:=hX hgo;have HOK:=hX hok;have HOWN:=hX hown;have HBL:=hX hbel;have hsz:=hbel.size;have HBW:Hid (Below w.heap.size w wo):=hX (HB1.out.trans (hbel.mono HB1.out.size));obtain ⟨ao,co,rfl,hro⟩:=Ana.reads_slice hown;have HRO:=hX hro;clear hgo hok hown hbel hro HS;by_cases hlt:k<cs.length;rotate_left
  ·obtain rfl:k=cs.length:=by omega
   have HR2:Hid (R=out):=hX (by have:=HGO.out;rw[List.drop_length] at this;exact this.symm);go_wp2_with fail;go_ret;rw[HR.out,HR2.out];exact ⟨ao,co,rfl,own_from HOWN.out (by omega),HBW.out⟩
  obtain ⟨ad,us,rfl,hba,au,lu,cu⟩:=ED.out k hlt;replace cu:=cu.keep (w':=wo) (fun p hp=>HBW.out.cell (by rw[hp,block_of_add];exact hba));have HEO:=hX (HE.out _ (List.getElem_mem hlt));have HGN:=hX ((toksGo_step (run:=runTk F) (field:=i) (out:=out) hlt).symm.trans HGO.out);generalize cs[k]=c at *;obtain ⟨vc,rfl,gc⟩:=at_ccells au;obtain ⟨Y0,z0,rfl,hz0,hmz0⟩:=at_slice gc;obtain ⟨a0,a1,a2⟩:=three cu;have hab:(ad.add (k*3)).block<wo.heap.size:=by rw[block_of_add];omega
  clear au lu gc cu HGO;obtain ⟨c0,ct,cn⟩:=c;dsimp only at *;go_upto_region 7 with fail;have BC:=hX (Blk.new wo 103 #[.int .i64 c0,.string ct,.slice Y0 cn.length z0]);have HB3:=hX ((Below.refl _ wo).alloc (Nat.le_refl _) (.cells #[.int .i64 c0,.string ct,.slice Y0 cn.length z0] 103));have hz3:wo.heap.size+1=(wo.alloc (.cells #[.int .i64 c0,.string ct,.slice Y0 cn.length z0] 103)).heap.size:=by simp
  generalize wo.alloc (.cells #[.int .i64 c0,.string ct,.slice Y0 cn.length z0] 103)=W3 at *;have hz3':wo.heap.size≤W3.heap.size:=by omega
  clear a0 a1 a2;have d0:W3.cell? ⟨wo.heap.size,0,none⟩=some (.int .i64 c0):=BC.out.cell 0;have HBW3:Hid (Below w.heap.size w W3):=hX (HBW.out.trans (HB3.out.mono HBW.out.size));have HOWN3:=hX (own_below HOWN.out HB3.out);have BA3:=hX (BA.out.below (HBL.out.trans (HB3.out.mono hsz)) hz1);obtain ⟨hc1,hc2⟩ | ⟨hc1,hc2⟩:=neqz c0 i
  rotate_left
  ·have HST:Hid (ToksSt W1 F i cs R (k+1) (.slice ao out.length co) W3):=hX ⟨out,by have:=HGN.out;rwa [if_neg hc1] at this,HOK.out.more,HOWN3.out,HBL.out.trans (HB3.out.mono hsz)⟩;clear hc1;go_wp2_with fail;go_roundw;case rel=>exact ⟨k+1,by omega,by go_num,HST⟩
   case measure=>simp[intOf];omega
  subst hc1
  obtain ⟨ts0,hts⟩:∃ts0,runF f2 ct=ts0:=⟨_,rfl⟩
  have HGM:Hid (toksGo (runTk F) i (out++shiftP (baseP out) ts0.1) (cs.drop (k+1))=R):=hX (by have:=HGN.out;rw[if_pos rfl,HFQ.out,hts] at this;exact this);have HOK2:Hid (ToksOk (k+1) (out++shiftP (baseP out) ts0.1)):=hX (by rw[←hts];exact HOK.out.step f2 ct);have hts4:ts0.1.length≤4096:=by rw[←hts];exact runF_len f2 ct
  have HTP:Hid (∀t∈ts0.1,0≤t.pos∧t.pos<4096):=hX (by rw[←hts];exact runF_pos f2 ct);obtain ⟨_,_,he0,hzc,hmc,hrd0⟩:=at_nums HFC.out;injection he0 with ee1 _ ee3;subst ee1 ee3
  have HRUN:=hX (fun (V:World) (hV:Below W3.heap.size W3 V)=>have hq:=HBW3.out.trans (hV.mono HBW3.out.size)
   Ana.run_any X f2.length z1 f2 ct V rfl ((hrd0.below hq).more hq.size) hzc hmc (by have:=HEO.out.text;dsimp only at this;omega) (HTT.out.next hq))
  rw[hts] at HRUN;obtain ⟨ts,er⟩:=ts0;dsimp only at *;clear hts hrd0 hzc hmc HGN;go_upto_region 8 with fail;refine wp_region_held_drew (S:=fun V=>Below W3.heap.size W3 V) (by kernel_rfl) (Below.refl _ _).drew (fun hS0=>?_);refine' tk 0 (by simp only[tkD,tkE,tkG];rfl) (by kernel_rfl) (by exact fun _ _ _ h=>h) (by rfl) hS0 (by intro V hSw;clear hSw;go_simp;try with_reducible rfl) ?_;try simp only[Act.put,tkA,tkB,tkC]
  refine' tk 1 (by simp only[tkD,tkE,tkG];rfl) (by kernel_rfl) (by exact fun _ _ _ h=>h) (by rfl) hS0 (by intro V hSw;have fq:V.cell? ⟨w.heap.size,0,none⟩=some (.slice (some sd) l.length cA):=(BA3.out.below hSw BA3.out.lt).cell 0;clear hSw;go_simp;try with_reducible rfl) ?_;try simp only[Act.put,tkA,tkB,tkC]
  refine' tk 2 (by simp only[tkD,tkE,tkG];rfl) (by kernel_rfl) (by exact fun _ _ _ h=>h) (by rfl) hS0 (by intro V hSw;clear hSw;go_simp;try with_reducible rfl) ?_;try simp only[Act.put,tkA,tkB,tkC]
  refine' tk 3 (by simp only[tkD,tkE,tkG];rfl) (by kernel_rfl) (by exact fun _ _ _ h=>h) (by rfl) hS0 (by intro V hSw;clear hSw;go_simp;try with_reducible rfl) ?_;try simp only[Act.put,tkA,tkB,tkC]
  refine' tk 4 (by simp only[tkD,tkE,tkG];rfl) (by kernel_rfl) (by exact fun _ _ _ h=>h) (by rfl) hS0 (by intro V hSw;clear hSw;go_simp;try with_reducible rfl) ?_;try simp only[Act.put,tkA,tkB,tkC]
  refine' tk 5 (by simp only[tkD,tkE,tkG];rfl) (by kernel_rfl) (by exact fun _ _ _ h=>h) (by rfl) hS0 (by intro V hSw;have fq:V.cell? ⟨(sd.add (i*7)).block,(sd.add (i*7)).off+2,none⟩=some (.slice X f2.length z1):=(hSw.cell (by have:=HBW3.out.size;show (sd.add (i*7)).block<_;omega)).trans ((HBW3.out.cell (p:=⟨(sd.add (i*7)).block,(sd.add (i*7)).off+2,none⟩) hsb).trans HS2.out);clear hSw;go_simp;try with_reducible rfl) ?_;try simp only[Act.put,tkA,tkB,tkC]
  refine' tk 6 (by simp only[tkD,tkE,tkG];rfl) (by kernel_rfl) (by exact fun _ _ _ h=>h) (by rfl) hS0 (by intro V hSw;clear hSw;go_simp;try with_reducible rfl) ?_;try simp only[Act.put,tkA,tkB,tkC]
  refine' tk 7 (by simp only[tkD,tkE,tkG];rfl) (by kernel_rfl) (by exact fun _ _ _ h=>h) (by rfl) hS0 (by intro V hSw;have fq:V.cell? ⟨wo.heap.size,1,none⟩=some (.string ct):=(BC.out.below hSw BC.out.lt).cell 1;clear hSw;go_simp;try with_reducible rfl) ?_;try simp only[Act.put,tkA,tkB,tkC]
  refine wpAnyH_ready (rs:=[8]) (by kernel_rfl) (by simp) ?_;refine' AllReadyH.cons (by simp only[tkD,tkE,tkG];rfl) (fun K hK=>?_) AllReadyH.nil;go_simp;refine (HRUN.out _ hS0).mono ?_;rintro e' W6 ⟨ro,rc,rfl,hrow,hb6⟩;dsimp only at hrow ⊢;have HB6:Hid (Below W3.heap.size W3 W6):=hX (((Below.refl _ W3).drew).trans hb6);have HROW:Hid (W6.ownsRow W3.heap.size 179 4 (.slice ro ts.length rc) ts.length (tokCells ts)):=hX hrow;have hS1:Below W3.heap.size W3 W6:=HB6.out;clear hb6 hrow;go_simp;refine hK.out _ _ hS1 (fun hS2=>?_);try simp only[Act.put,tkA,tkB,tkC]
  refine' tk 9 (by simp only[tkD,tkE,tkG];rfl) (by kernel_rfl) (by exact fun _ _ _ h=>h) (by rfl) hS2 (by intro V hSw;clear hSw;go_simp;try with_reducible rfl) ?_;try simp only[Act.put,tkA,tkB,tkC]
  refine' tk 10 (by simp only[tkD,tkE,tkG];rfl) (by kernel_rfl) (by exact fun _ _ _ h=>h) (by rfl) hS2 (by intro V hSw;clear hSw;go_simp;try with_reducible rfl) ?_;try simp only[Act.put,tkA,tkB,tkC]
  refine' tk 11 (by simp only[tkD,tkE,tkG];rfl) (by kernel_rfl) (by exact fun _ _ _ h=>h) (by rfl) hS2 (by intro V hSw;clear hSw;go_simp;try with_reducible rfl) ?_;try simp only[Act.put,tkA,tkB,tkC]
  refine' tk 12 (by simp only[tkD,tkE,tkG];rfl) (by kernel_rfl) (by exact fun _ _ _ h=>h) (by rfl) hS2 (by intro V hSw;clear hSw;go_simp;try with_reducible rfl) ?_;try simp only[Act.put,tkA,tkB,tkC]
  refine' tk 13 (by simp only[tkD,tkE,tkG];rfl) (by kernel_rfl) (by exact fun _ _ _ h=>h) (by rfl) hS2 (by intro V hSw;clear hSw;go_simp;try with_reducible rfl) ?_;try simp only[Act.put,tkA,tkB,tkC]
  refine wpAnyH_done (by kernel_rfl) ?_ _;clear hK K hS2 hS1 hS0 HRUN;have hz6:=HB6.out.size;have HOWN6:=hX (own_below HOWN3.out HB6.out)
  have HRD:Hid (Reads W6 W6.heap.size 4 ro ts.length (tokCells ts)):=hX (by
   obtain ⟨_,_,hh,hr⟩:=Ana.reads_slice HROW.out;injection hh with h1 _ _
   subst h1;exact hr)
  have hol:=HOK.out.len;have hbb:=HOK.out.base;have HBL6:Hid (Below W1.heap.size W1 W6):=hX ((HBL.out.trans (HB3.out.mono hsz)).trans (HB6.out.mono (by omega)));rcases Nat.eq_zero_or_pos out.length with hln | hlp
  ·have hd0:decide ((0:Int)<(out.length:Int))=false:=decide_eq_false (by omega);have hd1:decide (0<out.length)=false:=decide_eq_false (by omega);have HBS:Hid (baseP out=0):=hX (by rw[List.eq_nil_of_length_eq_zero hln];rfl);clear hln;have HIN0:Hid (AddSt W1.heap.size W3.heap.size W6 out ts 0 0 (.slice ao out.length co) W6):=hX ⟨by simpa using HOWN6.out,fun g h=>.inl (HOWN3.out.lt g h).2,But.refl _ _⟩;go_wp2_with fail;go_loopw [7,75] (fun o i1 wr=>∃j:Nat,j≤ts.length∧i1 = .int .i64 j∧Hid (AddSt W1.heap.size W3.heap.size W6 out ts 0 j o wr)) (fun _ i1 _=>ts.length - (intOf i1).toNat);case atStart=>exact ⟨0,by omega,rfl,HIN0⟩
   case round=>
    obtain ⟨j,hj,rfl,HI⟩:=hrel
    obtain ⟨wq,hwq⟩:∃wq:World,wq=wr:=⟨_,rfl⟩
    subst hwq;obtain ⟨aq,cq,rfl⟩:=own_sl HI.out.own;have hzq:=HI.out.but.size;by_cases hjl:j<ts.length;rotate_left
    ·obtain rfl:j=ts.length:=by omega
     have HST:Hid (ToksSt W1 F i cs R (k+1) (.slice aq (out.length+ts.length) cq) wq):=hX ⟨out++shiftP 0 ts,by have:=HGM.out;rwa [HBS.out] at this,by have:=HOK2.out;rwa [HBS.out] at this,by
      have:=HI.out.own;rw[List.take_of_length_le (by rw[shiftP_len];exact Nat.le_refl _)] at this
      rwa [List.length_append,shiftP_len],HBL6.out.trans (HI.out.but.below (by have:=HBL6.out.size;omega) (fun g hg h=>by omega))⟩
     go_wp2_with fail;go_roundw;case rel=>exact ⟨k+1,by omega,by go_num,HST⟩
     case measure=>simp[intOf];omega
    ·obtain ⟨rd,hrq,hrb,c0,c1,c2,c3⟩:=Ana.reads_tok HRD.out rfl hjl;have hlow:W3.heap.size≤rd.block:=(HROW.out.lt rd.block (by rw[hrq];rfl)).1;have hnn:¬(W1.heap.size≤rd.block∧(rd.block<W3.heap.size∨W6.heap.size≤rd.block)):=by omega
     have hkp:∀p:Addr,p.block=rd.block→wq.cell? p=W6.cell? p:=fun p hp=>HI.out.but.cell (by rw[hp];exact hrb) (by rw[hp];exact hnn);rw[←hkp _ (by rw[block_of_add])] at c0;rw[←hkp _ (by show (rd.add (j*4)).block=_;rw[block_of_add])] at c1 c2 c3;subst hrq;have HPS:=hX (HTP.out _ (List.getElem_mem hjl));have HTK:=hX (shiftP_take (b:=0) hjl);simp only[Int.add_zero] at HTK;have hrw:(rd.add (j*4)).block<wq.heap.size:=by rw[block_of_add];omega
     generalize ts[j]=t at *;obtain ⟨tx,ps,fr,tl⟩:=t;dsimp only at *;have hps:=HPS.out;clear hkp hnn;go_upto_region 16 with fail;have BT:=hX (Blk.new wq 179 #[.string tx,.int .i64 ps,.int .i64 fr,.int .i64 tl]);have HBQ:=hX ((Below.refl _ wq).alloc (Nat.le_refl _) (.cells #[.string tx,.int .i64 ps,.int .i64 fr,.int .i64 tl] 179));clear c0 c1 c2 c3 hrw;generalize wq.alloc (.cells #[.string tx,.int .i64 ps,.int .i64 fr,.int .i64 tl] 179)=W7 at *;obtain ⟨t0,t1,t2,t3⟩:=tok4 BT.out;have t4:W7.frozen? ⟨wq.heap.size,1,none⟩=false:=BT.out.frozen 1;have hz7:wq.heap.size<W7.heap.size:=BT.out.lt;go_upto_region 17 with fail;have BT8:Hid (Blk (W7.setCell ⟨wq.heap.size,1,none⟩ (.int .i64 ps)) wq.heap.size 179 #[.string tx,.int .i64 ps,.int .i64 fr,.int .i64 tl]):=hX (BT.out.set_ 1 _);have HBQ8:Hid (Below wq.heap.size wq (W7.setCell ⟨wq.heap.size,1,none⟩ (.int .i64 ps))):=hX (HBQ.out.setCell (Nat.le_refl _) _);clear t0 t1 t2 t3 t4 BT HBQ;generalize W7.setCell ⟨wq.heap.size,1,none⟩ (.int .i64 ps)=W8 at *;obtain ⟨t0,t1,t2,t3⟩:=tok4 BT8.out;have hz8:wq.heap.size<W8.heap.size:=BT8.out.lt;have hown8:=own_below HI.out.own HBQ8.out;obtain ⟨i0,hi1,hi2,hi3,hi4⟩:=info_parts Ana.infoTok
     go_wp2_with (at_builtin;refine wpList_append_any _ rfl (.tmp 84) (.tmp 86) 156 rfl W1.heap.size 179 i0 (.agg #[.string ⟨#[]⟩,.int .i64 0,.int .i64 0,.int .i64 0]) 4 40 Tryz.underlying156 hi1 hi2 hi3 hi4 rfl (by decide) _ (out.length+j) (tokCells (out++(shiftP 0 ts).take j)) rfl (hown8.alloc _) (W8.heap.size+1) (some ⟨W8.heap.size,0,none⟩) 1 1 [.string tx,.int .i64 ps,.int .i64 fr,.int .i64 tl] rfl ?da1 ?da2 ?da3 ?da4 ?da5 ?_);case da1=>exact ⟨rfl,fun _=>⟨_,rfl,by simp,fun q u hu=>cells_new W8 [.string tx,.int .i64 ps,.int .i64 fr,.int .i64 tl] _ q u hu⟩⟩
     case da2=>first | exact ⟨rfl,rfl,rfl,rfl⟩ | (intro u hu;simp only[List.mem_cons,List.not_mem_nil,or_false] at hu;rcases hu with rfl | rfl | rfl | rfl <;> rfl)
     case da3=>unfold maxLen;omega
     case da4=>omega
     case da5=>first | omega | (simp;omega)
     intro v' wA ho hg hv;obtain ⟨g',cap',rfl⟩:=ownsRow_succ ho;have hgA:(Value.slice (some ⟨g',0,none⟩) (out.length+j+1) cap').ownBlock=some g':=rfl;have hlA:(W8.alloc (.cells #[.string tx,.int .i64 ps,.int .i64 fr,.int .i64 tl] 179)).heap.size=W8.heap.size+1:=by simp
     have HADD:Hid (AddSt W1.heap.size W3.heap.size W6 out ts 0 (j+1) (.slice (some ⟨g',0,none⟩) (out.length+j+1) cap') wA):=hX ⟨by
      rw[HTK.out,←List.append_assoc,Ana.tokCells_append]
      exact ho,fun g h=>by
      rcases hv with hv | hv
      ·rw[hv] at h;exact HI.out.far g h
      ·rw[hv] at h;injection h with h;right;omega,((HI.out.but.trans (But.of_below HBQ8.out)).alloc _).trans (But.grown hg (fun r h=>⟨(HI.out.own.lt r h).1,HI.out.far r h⟩))⟩
     clear ho hg hv hgA hown8 hi1 hi2 hi3 hi4 t0 t1 t2 t3;go_wp2_with fail;go_roundw;case rel=>exact ⟨j+1,by omega,by go_num,HADD⟩
     case measure=>simp[intOf];omega
  ·obtain ⟨n,hln⟩:∃n,out.length=n+1:=⟨out.length - 1,by omega⟩
   have hd0:decide ((0:Int)<(out.length:Int))=true:=decide_eq_true (by omega);have hd1:decide (0<out.length)=true:=decide_eq_true (by omega);obtain ⟨od,hoq,hob,o0,o1,o2,o3⟩:=Ana.reads_tok HRO.out rfl (k:=n) (by omega);subst hoq;have HBA:=hX (baseP_at hln);have hpp:=HOK.out.pos _ (List.getElem_mem (show n<out.length by omega));generalize (out[n]'(by omega))=lt at *;obtain ⟨lx,lp,lf,ll⟩:=lt;dsimp only at *;have o1':W6.cell? ⟨(od.add (n*4)).block,(od.add (n*4)).off+1,none⟩=some (.int .i64 lp):=((HB3.out.trans (HB6.out.mono hz3')).cell (by show (od.add (n*4)).block<_;rw[block_of_add];exact hob)).trans o1;have hob6:(od.add (n*4)).block<W6.heap.size:=by rw[block_of_add];omega
   have hsub:(out.length:Int) - 1=n:=by omega
   have hnl:(n:Int)<(out.length:Int):=by omega
   have HBS:Hid (baseP out=lp+1+100):=hX (by rw[HBA.out];omega);clear hln hlp o0 o1 o2 o3 HBA;have HIN0:Hid (AddSt W1.heap.size W3.heap.size W6 out ts (lp+1+100) 0 (.slice (some od) out.length co) W6):=hX ⟨by simpa using HOWN6.out,fun g h=>.inl (HOWN3.out.lt g h).2,But.refl _ _⟩;go_wp2_with fail;go_loopw [7,75] (fun o i1 wr=>∃j:Nat,j≤ts.length∧i1 = .int .i64 j∧Hid (AddSt W1.heap.size W3.heap.size W6 out ts (lp+1+100) j o wr)) (fun _ i1 _=>ts.length - (intOf i1).toNat);case atStart=>exact ⟨0,by omega,rfl,HIN0⟩
   case round=>
    obtain ⟨j,hj,rfl,HI⟩:=hrel
    obtain ⟨wq,hwq⟩:∃wq:World,wq=wr:=⟨_,rfl⟩
    subst hwq;obtain ⟨aq,cq,rfl⟩:=own_sl HI.out.own;have hzq:=HI.out.but.size;by_cases hjl:j<ts.length;rotate_left
    ·obtain rfl:j=ts.length:=by omega
     have HST:Hid (ToksSt W1 F i cs R (k+1) (.slice aq (out.length+ts.length) cq) wq):=hX ⟨out++shiftP (lp+1+100) ts,by have:=HGM.out;rwa [HBS.out] at this,by have:=HOK2.out;rwa [HBS.out] at this,by
      have:=HI.out.own;rw[List.take_of_length_le (by rw[shiftP_len];exact Nat.le_refl _)] at this
      rwa [List.length_append,shiftP_len],HBL6.out.trans (HI.out.but.below (by have:=HBL6.out.size;omega) (fun g hg h=>by omega))⟩
     go_wp2_with fail;go_roundw;case rel=>exact ⟨k+1,by omega,by go_num,HST⟩
     case measure=>simp[intOf];omega
    ·obtain ⟨rd,hrq,hrb,c0,c1,c2,c3⟩:=Ana.reads_tok HRD.out rfl hjl;have hlow:W3.heap.size≤rd.block:=(HROW.out.lt rd.block (by rw[hrq];rfl)).1;have hnn:¬(W1.heap.size≤rd.block∧(rd.block<W3.heap.size∨W6.heap.size≤rd.block)):=by omega
     have hkp:∀p:Addr,p.block=rd.block→wq.cell? p=W6.cell? p:=fun p hp=>HI.out.but.cell (by rw[hp];exact hrb) (by rw[hp];exact hnn);rw[←hkp _ (by rw[block_of_add])] at c0;rw[←hkp _ (by show (rd.add (j*4)).block=_;rw[block_of_add])] at c1 c2 c3;subst hrq;have HPS:=hX (HTP.out _ (List.getElem_mem hjl));have HTK:=hX (shiftP_take (b:=(lp+1+100)) hjl);have hrw:(rd.add (j*4)).block<wq.heap.size:=by rw[block_of_add];omega
     generalize ts[j]=t at *;obtain ⟨tx,ps,fr,tl⟩:=t;dsimp only at *;have hps:=HPS.out;clear hkp hnn;go_upto_region 16 with fail;have BT:=hX (Blk.new wq 179 #[.string tx,.int .i64 ps,.int .i64 fr,.int .i64 tl]);have HBQ:=hX ((Below.refl _ wq).alloc (Nat.le_refl _) (.cells #[.string tx,.int .i64 ps,.int .i64 fr,.int .i64 tl] 179));clear c0 c1 c2 c3 hrw;generalize wq.alloc (.cells #[.string tx,.int .i64 ps,.int .i64 fr,.int .i64 tl] 179)=W7 at *;obtain ⟨t0,t1,t2,t3⟩:=tok4 BT.out;have t4:W7.frozen? ⟨wq.heap.size,1,none⟩=false:=BT.out.frozen 1;have hz7:wq.heap.size<W7.heap.size:=BT.out.lt;go_upto_region 17 with fail;have BT8:Hid (Blk (W7.setCell ⟨wq.heap.size,1,none⟩ (.int .i64 (ps+(lp+1+100)))) wq.heap.size 179 #[.string tx,.int .i64 (ps+(lp+1+100)),.int .i64 fr,.int .i64 tl]):=hX (BT.out.set_ 1 _);have HBQ8:Hid (Below wq.heap.size wq (W7.setCell ⟨wq.heap.size,1,none⟩ (.int .i64 (ps+(lp+1+100))))):=hX (HBQ.out.setCell (Nat.le_refl _) _);clear t0 t1 t2 t3 t4 BT HBQ;generalize W7.setCell ⟨wq.heap.size,1,none⟩ (.int .i64 (ps+(lp+1+100)))=W8 at *;obtain ⟨t0,t1,t2,t3⟩:=tok4 BT8.out;have hz8:wq.heap.size<W8.heap.size:=BT8.out.lt;have hown8:=own_below HI.out.own HBQ8.out;obtain ⟨i0,hi1,hi2,hi3,hi4⟩:=info_parts Ana.infoTok
     go_wp2_with (at_builtin;refine wpList_append_any _ rfl (.tmp 84) (.tmp 86) 156 rfl W1.heap.size 179 i0 (.agg #[.string ⟨#[]⟩,.int .i64 0,.int .i64 0,.int .i64 0]) 4 40 Tryz.underlying156 hi1 hi2 hi3 hi4 rfl (by decide) _ (out.length+j) (tokCells (out++(shiftP (lp+1+100) ts).take j)) rfl (hown8.alloc _) (W8.heap.size+1) (some ⟨W8.heap.size,0,none⟩) 1 1 [.string tx,.int .i64 (ps+(lp+1+100)),.int .i64 fr,.int .i64 tl] rfl ?db1 ?db2 ?db3 ?db4 ?db5 ?_);case db1=>exact ⟨rfl,fun _=>⟨_,rfl,by simp,fun q u hu=>cells_new W8 [.string tx,.int .i64 (ps+(lp+1+100)),.int .i64 fr,.int .i64 tl] _ q u hu⟩⟩
     case db2=>first | exact ⟨rfl,rfl,rfl,rfl⟩ | (intro u hu;simp only[List.mem_cons,List.not_mem_nil,or_false] at hu;rcases hu with rfl | rfl | rfl | rfl <;> rfl)
     case db3=>unfold maxLen;omega
     case db4=>omega
     case db5=>first | omega | (simp;omega)
     intro v' wA ho hg hv;obtain ⟨g',cap',rfl⟩:=ownsRow_succ ho;have hgA:(Value.slice (some ⟨g',0,none⟩) (out.length+j+1) cap').ownBlock=some g':=rfl;have hlA:(W8.alloc (.cells #[.string tx,.int .i64 (ps+(lp+1+100)),.int .i64 fr,.int .i64 tl] 179)).heap.size=W8.heap.size+1:=by simp
     have HADD:Hid (AddSt W1.heap.size W3.heap.size W6 out ts (lp+1+100) (j+1) (.slice (some ⟨g',0,none⟩) (out.length+j+1) cap') wA):=hX ⟨by
      rw[HTK.out,←List.append_assoc,Ana.tokCells_append]
      exact ho,fun g h=>by
      rcases hv with hv | hv
      ·rw[hv] at h;exact HI.out.far g h
      ·rw[hv] at h;injection h with h;right;omega,((HI.out.but.trans (But.of_below HBQ8.out)).alloc _).trans (But.grown hg (fun r h=>⟨(HI.out.own.lt r h).1,HI.out.far r h⟩))⟩
     clear ho hg hv hgA hown8 hi1 hi2 hi3 hi4 t0 t1 t2 t3;go_wp2_with fail;go_roundw;case rel=>exact ⟨j+1,by omega,by go_num,HADD⟩
     case measure=>simp[intOf];omega
end Go.Proofs.YtigfcihakghddaaGreatDoor.Sch
