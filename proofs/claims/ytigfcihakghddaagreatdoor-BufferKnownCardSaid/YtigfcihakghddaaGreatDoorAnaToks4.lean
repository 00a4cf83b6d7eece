/- Lemmas that the last text leans on. -/
import Derived.Test.YtigfcihakghddaaGreatDoorTake
import Derived.Test.YtigfcihakghddaaGreatDoorPack28
set_option linter.all false
namespace Go.Proofs.YtigfcihakghddaaGreatDoor.Ana
open Go.RowKit Go.Lib FoldP FoldInts Kit FoldForms FoldNext FoldIter AnaP Words Owned Tree
def pw (c:Nat × Nat):Nat:=if c.2=c.1+1 then 1 else 2
theorem pieces2_get (c:Nat × Nat) (h:c.1<c.2) (i:Nat) (hi:i+pw c≤c.2 - c.1):(pieces2 c)[i]?=some (c.1+i,c.1+i+pw c):=by
 unfold pieces2 pw at *;split
 ·rename_i e
  rw[if_pos e] at hi;obtain rfl:i=0:=by omega
  obtain ⟨a,b⟩:=c;dsimp only at e;subst e;rfl
 ·rename_i e
  rw[if_neg e] at hi;rw[List.getElem?_map,List.getElem?_range (by omega)];rfl
theorem pieces2_count (c:Nat × Nat) (h:c.1<c.2):(pieces2 c).length+pw c=c.2 - c.1+1:=by
 unfold pieces2 pw;split
 ·simp only[List.length_singleton];omega
 ·simp only[List.length_map,List.length_range];omega
theorem piece_tok (s:ByteArray) (a b i n m:Nat) (hab:a≤b) (hb:b≤nR s.data.toList) (hi:i+n≤b - a) :
 (⟨(s.extract (posAt s.data.toList a) (posAt s.data.toList b)).extract (posAt (subL s.data.toList a b) i) (posAt (subL s.data.toList a b) (i+n)),m,(posAt s.data.toList a:Int)+(posAt (subL s.data.toList a b) i:Int),(posAt s.data.toList a:Int)+(posAt (subL s.data.toList a b) (i+n):Int)⟩:TokD)=tokAt s m (a+i,a+i+n):=by
 have h1:=sub_posAt s.data.toList a b hab hb i (by omega);have h2:=sub_posAt s.data.toList a b hab hb (i+n) hi;have h3:=posAt_mono s.data.toList a (a+i) (by omega) (by omega);have h4:=posAt_mono s.data.toList (a+i) (a+(i+n)) (by omega) (by omega);have h5:=posAt_mono s.data.toList (a+(i+n)) b (by omega) hb;have h6:=posAt_le s.data.toList b;have e:s.data.toList.length=s.size:=by simp
 unfold tokAt;rw[h1,h2,extract_sub _ _ _ _ _ (by omega) (by omega) (by omega),show a+(i+n)=a+i+n by omega] at *;rw[show posAt s.data.toList a+(posAt s.data.toList (a+i) - posAt s.data.toList a)=posAt s.data.toList (a+i) by omega,show posAt s.data.toList a+(posAt s.data.toList (a+i+n) - posAt s.data.toList a)=posAt s.data.toList (a+i+n) by omega];simp only[TokD.mk.injEq,true_and];omega
theorem take_flat (L:List (Nat × Nat)) (k:Nat) (h:k<L.length):(L.take (k+1)).flatMap pieces2=(L.take k).flatMap pieces2++pieces2 L[k]:=by
 rw[List.take_succ_eq_append_getElem h,List.flatMap_append];simp
structure RunP (s:ByteArray) (c:Nat × Nat) (m:Nat) (tx:ByteArray) (fr:Nat) (P:Nat→Nat) (n:Nat) (G:Nat→TokD):Prop where
 le:∀i,i+pw c≤n→P i≤P (i+pw c)∧P (i+pw c)≤tx.size
 tok:∀i,i+pw c≤n→(⟨tx.extract (P i) (P (i+pw c)),(m+i:Nat),(fr:Int)+(P i:Int),(fr:Int)+(P (i+pw c):Int)⟩:TokD)=G i
theorem runP (s:ByteArray) (c:Nat × Nat) (m:Nat) (h:c.1<c.2) (hb:c.2≤nR s.data.toList) :
 RunP s c m (s.extract (posAt s.data.toList c.1) (posAt s.data.toList c.2)) (posAt s.data.toList c.1) (posAt (subL s.data.toList c.1 c.2)) (c.2 - c.1) (fun i=>tokAt s (m+i) (c.1+i,c.1+i+pw c)):=by
 refine ⟨fun i hi=>?_,fun i hi=>piece_tok s c.1 c.2 i (pw c) (m+i) (by omega) hb hi⟩;have hn:=sub_nR s.data.toList c.1 c.2 (by omega) hb;refine ⟨posAt_mono _ _ _ (by omega) (by omega),?_⟩;have:=posAt_le (subL s.data.toList c.1 c.2) (i+pw c)
 have e:(subL s.data.toList c.1 c.2).length=(s.extract (posAt s.data.toList c.1) (posAt s.data.toList c.2)).size:=(by rw[←sub_text s c.1 c.2 hb];exact Array.length_toList)
 rw[e] at this;exact this
structure PieceW (w1:World) (bt g:Nat) (bc pc:Array Value) (o:Value) (wq:World):Prop where
 below:Below w1.heap.size w1 wq
 tb:Blk wq bt 179 bc
 pr:Blk wq g 3 pc
 far:∀r,o.ownBlock=some r→r≠bt∧r≠g
theorem PieceW.more {w1:World} {bt g gg:Nat} {bc pc:Array Value} {o:Value} {W w4:World} (h:PieceW w1 bt g bc pc o W) {O:Obj} (hg:(W.alloc O).grownBy w4 o.ownBlock) (hr:∀r,o.ownBlock=some r→w1.heap.size≤r) {v':Value} {n cap:Nat} (hv:v' = .slice (some ⟨gg,0,none⟩) n cap) (hgg:o.ownBlock=some gg∨gg=W.heap.size+1):PieceW w1 bt g bc pc v' w4:=by
 subst hv;have h1:=h.tb.lt;have h2:=h.pr.lt;refine ⟨(h.below.alloc h.below.size O).grown hg (by have:=h.below.size;simp;omega) hr,(h.tb.alloc O).grown hg (fun e=>(h.far _ e.symm).1 rfl),(h.pr.alloc O).grown hg (fun e=>(h.far _ e.symm).2 rfl),fun r e=>?_⟩;obtain rfl:gg=r:=by simpa [Value.ownBlock] using e
 rcases hgg with h3 | h3
 ·exact h.far _ h3
 ·exact ⟨by omega,by omega⟩
theorem tokOf_more (s:ByteArray) (cuts:List (Nat × Nat)) (c:Nat × Nat) (h:c.1<c.2) (i:Nat) (hi:i+pw c≤c.2 - c.1):tokOf s (cuts++(pieces2 c).take (i+1))=tokOf s (cuts++(pieces2 c).take i)++[tokAt s (cuts.length+i) (c.1+i,c.1+i+pw c)]:=by
 have hg:=pieces2_get c h i hi
 have hl:i<(pieces2 c).length:=by
  rcases Nat.lt_or_ge i (pieces2 c).length with h' | h'
  ·exact h'
  ·rw[List.getElem?_eq_none h'] at hg;cases hg
 rw[List.take_add_one,hg,Option.toList_some,←List.append_assoc,tokOf_snoc,List.length_append,List.length_take,Nat.min_eq_left (Nat.le_of_lt hl)]
set_option maxRecDepth 100000 in
set_option maxHeartbeats 8000000 in
theorem toks_4 (s:ByteArray) (w:World) (hs:s.size≤1073741824) (hT:Tabs w) :
 Calls Tryz.prog 122 #[.int .i64 4,.string s] w (OwnToks (tokensF 4 s) w):=by
 have hcs:=cutF_len 4 (runeL s.data.toList);have hco:=fun c hc=>runIx_mem (may:=mayF) (begins:=wordF) (runeL s.data.toList) 0 none (fun a e=>by cases e) c hc;have HE:Hid (tokensF 4 s=tokOf s ((runIx mayF wordF (runeL s.data.toList) 0 none).flatMap pieces2)):=hX rfl;have HCT:Hid (cutF 4 (runeL s.data.toList)=(runIx mayF wordF (runeL s.data.toList) 0 none).flatMap pieces2):=hX rfl;have HC:=hX (letters_any s w (by omega) hT);have hll:=runIx_len (may:=mayF) (begins:=wordF) (runeL s.data.toList) 0 none;have hnr:=nR_le s.data.toList;have e2:s.data.toList.length=s.size:=by simp
 rw[HE.out];rw[HCT.out] at hcs;rw[runeL_len] at hcs hll hco;rw[e2] at hnr;have HT:=hX hT;clear hT HE HCT e2;generalize runIx mayF wordF (runeL s.data.toList) 0 none=L at *;have hLn:L.length≤s.size:=by simp at hll;omega
 have HCO:Hid (∀c∈L,c.1<c.2∧c.2≤nR s.data.toList):=hX (fun c hc=>by have:=hco c hc;omega);have HFL:Hid ((L.flatMap pieces2).length≤s.size):=hX (by omega);clear hco hll hcs;go_enter Tryz.func122,Tryz.ntmps122;go_wp2_with fail;refine HC.out.mono ?_;rintro e w1 ⟨v,rfl,o1,b1⟩;obtain ⟨lo,lc,rfl⟩:=own_slice2 o1;have hrd:=Reads.of_own o1;rw[tokOf_len] at hrd ⊢;have HRD:=hX hrd;have HB1:=hX b1;clear o1 b1 hrd HC;go_wp2_with fail;go_loopw [6,8,9,10,11,30] (fun o _ _ _ _ i wr=>∃k:Nat,k≤L.length∧i = .int .i64 k∧Hid (wr.ownsRow w1.heap.size 179 4 o (tokOf s ((L.take k).flatMap pieces2)).length (tokCells (tokOf s ((L.take k).flatMap pieces2))))∧Hid (Below w1.heap.size w1 wr)) (fun _ _ _ _ _ i _=>L.length - (RowKit.intOf i).toNat);case atStart=>exact ⟨0,by omega,rfl,hX (World.ownsRow_nil _ _ _ _),hX (Below.refl _ _)⟩
 case round=>
  obtain ⟨k,hk,rfl,HO,HW⟩:=hrel;have hzr:=HW.out.size
  obtain ⟨wo,hwo⟩:∃wo:World,wr=wo:=⟨_,rfl⟩
  rw[hwo] at HO HW hzr ⊢;clear hwo wr;by_cases hlt:k<L.length
  ·have hlt2:k<(tokOf s L).length:=by rw[tokOf_len];exact hlt
   obtain ⟨ad,rfl,hba,c0,c1,c2,c3⟩:=reads_tok HRD.out (tokOf_len s L).symm hlt2;rw[tokOf_get] at c0 c1 c2 c3;obtain ⟨hc1,hc2⟩:=HCO.out L[k] (List.getElem_mem hlt);have HTF:=hX (take_flat L k hlt);generalize L[k]=c at *;have hab2:(ad.add (k*4)).block<w1.heap.size:=by rw[block_of_add];exact hba
   have d0:=(HW.out.cell (p:=ad.add (k*4)) hab2).trans c0;have d1:=(HW.out.cell (p:=⟨(ad.add (k*4)).block,(ad.add (k*4)).off+1,none⟩) hab2).trans c1;have d2:=(HW.out.cell (p:=⟨(ad.add (k*4)).block,(ad.add (k*4)).off+2,none⟩) hab2).trans c2;have d3:=(HW.out.cell (p:=⟨(ad.add (k*4)).block,(ad.add (k*4)).off+3,none⟩) hab2).trans c3;clear c0 c1 c2 c3;have HRP:=hX (runP s c ((L.take k).flatMap pieces2).length hc1 hc2);have HPC:=hX (pieces2_count c hc1);have HMO:=hX (tokOf_more s ((L.take k).flatMap pieces2) c hc1);have hsub:=sub_text s c.1 c.2 hc2;have HNS:=hX (sub_nR s.data.toList c.1 c.2 (by omega) hc2);have HGS:=hX (posAt_get (subL s.data.toList c.1 c.2))
   have HTLN:Hid (((L.take k).flatMap pieces2).length+(pieces2 c).length≤s.size):=hX (by
    have h1:=HFL.out;have h2:(L.flatMap pieces2).length=((L.take (k+1)).flatMap pieces2).length+((L.drop (k+1)).flatMap pieces2).length:=by rw[←List.length_append,←List.flatMap_append,List.take_append_drop]
    rw[HTF.out,List.length_append] at h2
    omega)
   dsimp only[tokAt] at d0 d1 d2 d3;have hpl1:=posL_len (subL s.data.toList c.1 c.2);rw[HNS.out] at hpl1;have HPWD:Hid (pw c=if c.2=c.1+1 then 1 else 2):=hX rfl;have hNb:c.2 - c.1≤s.size:=by omega
   have hfrb:=posAt_le s.data.toList c.1;rw[show s.data.toList.length=s.size by simp] at hfrb;replace hfrb:posAt s.data.toList c.1≤1073741824:=by omega
   generalize hfr:posAt s.data.toList c.1=fr at *;generalize htl:posAt s.data.toList c.2=tl at *
   obtain ⟨tx,htx⟩:∃tx,s.extract fr tl=tx:=⟨_,rfl⟩
   rw[htx] at d0 HRP hsub;have htxs:tx.size≤17592186044415:=by rw[←htx,ByteArray.size_extract];omega
   have HPA:=hX (fun W hW=>places_any tx W (by omega) (HT.out.next hW));rw[hsub] at HPA;clear htx hfr htl hsub;generalize subL s.data.toList c.1 c.2=SL at *
   obtain ⟨N,hN⟩:∃N,c.2 - c.1=N:=⟨_,rfl⟩
   have hN1:1≤N:=by omega
   have hN2:N≤1073741824:=by omega
   rw[hN] at hpl1 HRP HPC HMO HNS;have HPG:Hid (∀i,i≤N→(posL SL)[i]?=some (posAt SL i)):=hX (fun i hi=>HGS.out i (by rw[HNS.out];exact hi));clear HGS
   have HPW:Hid (pw c=if N=1 then 1 else 2):=hX (by
    rw[HPWD.out];by_cases h1:N=1
    ·rw[if_pos h1,if_pos (by omega)]
    ·rw[if_neg h1,if_neg (by omega)])
   clear hN;have HPL:=hX hpl1;clear hpl1;generalize hP:posAt SL=P at *;clear hP
   go_upto_region 14 with (go_at_call 151;refine (HPA.out _ (HB1.out.trans ((HW.out.alloc hzr _).mono HB1.out.size))).mono ?_;rintro e w3 ⟨v,rfl,hv,b3⟩)
   obtain ⟨g,cap,cur,rfl,hg1,hg2,hc3,hc4,hcell⟩:=ints_blk hv (by rw[HPL.out];omega);have HCE:=hX hcell;unfold maxLen at hc4;have hzt:wo.heap.size<(wo.alloc (.cells #[.string tx,.int .i64 (k:Int),.int .i64 (fr:Int),.int .i64 (tl:Int)] 179)).heap.size:=by simp
   have hb3w:Below w1.heap.size w1 w3:=(HW.out.alloc hzr _).trans (b3.mono (by simp;omega));have hbt:Blk w3 wo.heap.size 179 #[.string tx,.int .i64 (k:Int),.int .i64 (fr:Int),.int .i64 (tl:Int)]:=(Blk.new wo _ _).below b3 hzt;have HO3':=own_below (HO.out.alloc (.cells #[.string tx,.int .i64 (k:Int),.int .i64 (fr:Int),.int .i64 (tl:Int)] 179)) b3;have HW3:Hid (PieceW w1 wo.heap.size g #[.string tx,.int .i64 (k:Int),.int .i64 (fr:Int),.int .i64 (tl:Int)] cur u6 w3):=hX ⟨hb3w,hbt,hg2,fun r e=>by have h1:=(HO.out.lt r e).2;simp at hg1;exact ⟨by omega,by omega⟩⟩;clear hv b3 hg1 hg2 hcell hzt hb3w hbt d0 d1 d2 d3;have HTN:Hid (∀i,i+pw c≤N→tokOf s ((L.take k).flatMap pieces2++(pieces2 c).take (i+1))=tokOf s ((L.take k).flatMap pieces2++(pieces2 c).take i)++[tokAt s (((L.take k).flatMap pieces2).length+i) (c.1+i,c.1+i+pw c)]):=HMO;have HT0:Hid (tokOf s ((L.take k).flatMap pieces2++(pieces2 c).take 0)=tokOf s ((L.take k).flatMap pieces2)):=hX (by simp);have HTM0:Hid (tokOf s ((L.take k).flatMap pieces2++(pieces2 c).take (pieces2 c).length)=tokOf s ((L.take (k+1)).flatMap pieces2)):=hX (by rw[HTF.out,List.take_length]);have HTL0:Hid (∀i,i≤(pieces2 c).length→(tokOf s ((L.take k).flatMap pieces2++(pieces2 c).take i)).length=((L.take k).flatMap pieces2).length+i):=hX (fun i hi=>by rw[tokOf_len,List.length_append,List.length_take,Nat.min_eq_left hi])
   have HO3:Hid (w3.ownsRow w1.heap.size 179 4 u6 (tokOf s ((L.take k).flatMap pieces2++(pieces2 c).take 0)).length (tokCells (tokOf s ((L.take k).flatMap pieces2++(pieces2 c).take 0)))):=hX (by rw[HT0.out];exact HO3');clear HO3';have hml:((L.take k).flatMap pieces2).length+(pieces2 c).length≤s.size:=HTLN.out;have HPC2:=HPC
   obtain ⟨Q,hQ⟩:∃Q,(pieces2 c).length=Q:=⟨_,rfl⟩
   obtain ⟨m,hm⟩:∃m,((L.take k).flatMap pieces2).length=m:=⟨_,rfl⟩
   rw[hQ] at HTM0 HTL0 hml HPC2;rw[hm] at HTN HTL0 hml HRP
   obtain ⟨T,hTd⟩:∃T:Nat→List TokD,(fun i=>tokOf s ((L.take k).flatMap pieces2++(pieces2 c).take i))=T:=⟨_,rfl⟩
   have HTX:∀i,tokOf s ((L.take k).flatMap pieces2++(pieces2 c).take i)=T i:=fun i=>congrFun hTd i;simp only[HTX] at HTN HTL0 HTM0 HO3;have HTXS:=hX htxs;clear HTX hTd hQ hm HMO HTLN HPC HT0 htxs HPA HPWD;rw[HPL.out] at hc3 ⊢;by_cases hN:N=1
   ·subst hN;simp only[Nat.reduceAdd];have HPW1:Hid (pw c=1):=hX (by rw[HPW.out];rfl);clear HPW;have HPW:=HPW1;clear HPW1;have hQ1:Q=1:=by have:=HPC2.out;rw[HPW.out] at this;omega
    subst hQ1;have HTL:=HTL0;have HTM:=HTM0;rw[HPW.out] at HTN;have hmin:min (2:Int) (1:Int)=1:=by decide
    go_wp2_with fail;go_loopw [6,11] (fun o i wq=>∃j:Nat,j≤1∧i = .int .i64 j∧Hid (wq.ownsRow w1.heap.size 179 4 o (T j).length (tokCells (T j)))∧Hid (PieceW w1 wo.heap.size g #[.string tx,.int .i64 (k:Int),.int .i64 (fr:Int),.int .i64 (tl:Int)] cur o wq)) (fun _ i _=>1 - (RowKit.intOf i).toNat);case atStart=>exact ⟨0,by omega,rfl,HO3,HW3⟩
    case round=>
     obtain ⟨j,hj,rfl,HO,HW⟩:=hrel;by_cases hlt:j<1
     ·obtain ⟨hp1,hp2⟩:=HRP.out.le j (by rw[HPW.out];omega);rw[HPW.out] at hp1 hp2;have htj:(T j).length≤1099511627776:=by have:=HTL.out j (by omega);omega
      have HTS:Hid (T (j+1)=T j++[⟨tx.extract (P j) (P (j+1)),((T j).length:Int),(fr:Int)+(P j:Int),(fr:Int)+(P (j+1):Int)⟩]):=hX (by
       have h9:=HRP.out.tok j (by rw[HPW.out];omega);rw[HPW.out] at h9
       rw[HTN.out j (by omega),←h9,HTL.out j (by omega)])
      have SF:Hid (∀W,(Blk W wo.heap.size 179 #[.string tx,.int .i64 (k:Int),.int .i64 (fr:Int),.int .i64 (tl:Int)]∧Blk W g 3 cur)→W.cell? ⟨wo.heap.size,0,none⟩=some (.string tx)∧W.cell? ⟨wo.heap.size,2,none⟩=some (.int .i64 (fr:Int))∧W.cell? ⟨g,j,none⟩=some (.int .i64 (P j:Int))∧W.cell? ⟨g,j+1,none⟩=some (.int .i64 (P (j+1):Int))):=hX (fun W h=>
       ⟨h.1.cell 0,h.1.cell 2,(h.2.cell j).trans (HCE.out j _ (HPG.out j (by omega))),(h.2.cell (j+1)).trans (HCE.out (j+1) _ (HPG.out (j+1) (by omega)))⟩)
      obtain ⟨ao4,cp4,rfl⟩:=own_slice2 HO.out;have hx1:(j:Int)<2:=by omega
      have hx2:(j:Int)+1<2:=by omega
      have hx3:(P j:Int)≤(P (j+1):Int):=by omega
      have hx4:(P (j+1):Int)≤(tx.size:Int):=by omega
      have hfb:fr≤1073741824:=hfrb;have hpb:=HTXS.out;go_upto_region 18 with fail;have hy3:((j:Int)+1).toNat=j+1:=by omega
      have hy2:0≤(j:Int)+1:=by omega
      have hy1:IntKind.i64.wrap ((j:Int)+1)=(j:Int)+1:=IntWalk.i64_in _ (by omega);have hz1:IntKind.i64.wrap ((fr:Int)+(P j:Int))=(fr:Int)+(P j:Int):=IntWalk.i64_in _ (by omega);have hz2:IntKind.i64.wrap ((fr:Int)+(P (j+1):Int))=(fr:Int)+(P (j+1):Int):=IntWalk.i64_in _ (by omega);have HB5:Hid (PieceW w1 wo.heap.size g #[.string tx,.int .i64 (k:Int),.int .i64 (fr:Int),.int .i64 (tl:Int)] cur (.slice ao4 (T j).length cp4) wr.drew):=hX ⟨HW.out.below.drew,HW.out.tb,HW.out.pr,HW.out.far⟩;have HO5:Hid (wr.drew.ownsRow w1.heap.size 179 4 (.slice ao4 (T j).length cp4) (T j).length (tokCells (T j))):=HO;refine wp_region_held_drew (S:=fun W=>Blk W wo.heap.size 179 #[.string tx,.int .i64 (k:Int),.int .i64 (fr:Int),.int .i64 (tl:Int)]∧Blk W g 3 cur) (by kernel_rfl) ⟨HB5.out.tb,HB5.out.pr⟩ (fun hS0=>?_);generalize wr.drew=W at *;refine' tk 0 (by simp only[tkD,tkE,tkG];rfl) (by kernel_rfl) (by exact fun _ _ _ h=>h) (by rfl) hS0 (by intro V hSw;clear hSw;go_simp;try with_reducible rfl) ?_;try simp only[Act.put,tkA,tkB,tkC]
      refine' tk 1 (by simp only[tkD,tkE,tkG];rfl) (by kernel_rfl) (by exact fun _ _ _ h=>h) (by rfl) hS0 (by intro V hSw;clear hSw;go_simp;try with_reducible rfl) ?_;try simp only[Act.put,tkA,tkB,tkC]
      refine' tk 2 (by simp only[tkD,tkE,tkG];rfl) (by kernel_rfl) (by exact fun _ _ _ h=>h) (by rfl) hS0 (by intro V hSw;obtain ⟨f0,f1,f2,f3⟩:=SF.out V hSw;clear hSw;go_simp;try with_reducible rfl) ?_;try simp only[Act.put,tkA,tkB,tkC]
      refine' tk 3 (by simp only[tkD,tkE,tkG];rfl) (by kernel_rfl) (by exact fun _ _ _ h=>h) (by rfl) hS0 (by intro V hSw;clear hSw;go_simp;try with_reducible rfl) ?_;try simp only[Act.put,tkA,tkB,tkC]
      refine' tk 4 (by simp only[tkD,tkE,tkG];rfl) (by kernel_rfl) (by exact fun _ _ _ h=>h) (by rfl) hS0 (by intro V hSw;clear hSw;go_simp;try with_reducible rfl) ?_;try simp only[Act.put,tkA,tkB,tkC]
      refine' tk 5 (by simp only[tkD,tkE,tkG];rfl) (by kernel_rfl) (by exact fun _ _ _ h=>h) (by rfl) hS0 (by intro V hSw;clear hSw;go_simp;try with_reducible rfl) ?_;try simp only[Act.put,tkA,tkB,tkC]
      refine' tk 6 (by simp only[tkD,tkE,tkG];rfl) (by kernel_rfl) (by exact fun _ _ _ h=>h) (by rfl) hS0 (by intro V hSw;obtain ⟨f0,f1,f2,f3⟩:=SF.out V hSw;clear hSw;go_simp;try with_reducible rfl) ?_;try simp only[Act.put,tkA,tkB,tkC]
      refine' tk 7 (by simp only[tkD,tkE,tkG];rfl) (by kernel_rfl) (by exact fun _ _ _ h=>h) (by rfl) hS0 (by intro V hSw;clear hSw;go_simp;try with_reducible rfl) ?_;try simp only[Act.put,tkA,tkB,tkC]
      refine' tk 8 (by simp only[tkD,tkE,tkG];rfl) (by kernel_rfl) (by exact fun _ _ _ h=>h) (by rfl) hS0 (by intro V hSw;clear hSw;go_simp;try with_reducible rfl) ?_;try simp only[Act.put,tkA,tkB,tkC]
      refine' tk 9 (by simp only[tkD,tkE,tkG];rfl) (by kernel_rfl) (by exact fun _ _ _ h=>h) (by rfl) hS0 (by intro V hSw;clear hSw;go_simp;try with_reducible rfl) ?_;try simp only[Act.put,tkA,tkB,tkC]
      refine' tk 10 (by simp only[tkD,tkE,tkG];rfl) (by kernel_rfl) (by exact fun _ _ _ h=>h) (by rfl) hS0 (by intro V hSw;clear hSw;go_simp;try with_reducible rfl) ?_;try simp only[Act.put,tkA,tkB,tkC]
      refine' tk 11 (by simp only[tkD,tkE,tkG];rfl) (by kernel_rfl) (by exact fun _ _ _ h=>h) (by rfl) hS0 (by intro V hSw;clear hSw;go_simp;try with_reducible rfl) ?_;try simp only[Act.put,tkA,tkB,tkC]
      refine' tk 12 (by simp only[tkD,tkE,tkG];rfl) (by kernel_rfl) (by exact fun _ _ _ h=>h) (by rfl) hS0 (by intro V hSw;obtain ⟨f0,f1,f2,f3⟩:=SF.out V hSw;clear hSw;go_simp;try with_reducible rfl) ?_;try simp only[Act.put,tkA,tkB,tkC]
      refine' tk 13 (by simp only[tkD,tkE,tkG];rfl) (by kernel_rfl) (by exact fun _ _ _ h=>h) (by rfl) hS0 (by intro V hSw;clear hSw;go_simp;try with_reducible rfl) ?_;try simp only[Act.put,tkA,tkB,tkC]
      refine' tk 14 (by simp only[tkD,tkE,tkG];rfl) (by kernel_rfl) (by exact fun _ _ _ h=>h) (by rfl) hS0 (by intro V hSw;clear hSw;go_simp;try with_reducible rfl) ?_;try simp only[Act.put,tkA,tkB,tkC]
      refine' tk 15 (by simp only[tkD,tkE,tkG];rfl) (by kernel_rfl) (by exact fun _ _ _ h=>h) (by rfl) hS0 (by intro V hSw;clear hSw;go_simp;try with_reducible rfl) ?_;try simp only[Act.put,tkA,tkB,tkC]
      refine' tk 16 (by simp only[tkD,tkE,tkG];rfl) (by kernel_rfl) (by exact fun _ _ _ h=>h) (by rfl) hS0 (by intro V hSw;clear hSw;go_simp;try with_reducible rfl) ?_;try simp only[Act.put,tkA,tkB,tkC]
      refine' tk 17 (by simp only[tkD,tkE,tkG];rfl) (by kernel_rfl) (by exact fun _ _ _ h=>h) (by rfl) hS0 (by intro V hSw;obtain ⟨f0,f1,f2,f3⟩:=SF.out V hSw;clear hSw;go_simp;try with_reducible rfl) ?_;try simp only[Act.put,tkA,tkB,tkC]
      refine' tk 18 (by simp only[tkD,tkE,tkG];rfl) (by kernel_rfl) (by exact fun _ _ _ h=>h) (by rfl) hS0 (by intro V hSw;clear hSw;go_simp;try with_reducible rfl) ?_;try simp only[Act.put,tkA,tkB,tkC]
      refine' tk 19 (by simp only[tkD,tkE,tkG];rfl) (by kernel_rfl) (by exact fun _ _ _ h=>h) (by rfl) hS0 (by intro V hSw;clear hSw;go_simp;try with_reducible rfl) ?_;try simp only[Act.put,tkA,tkB,tkC]
      refine' tk 20 (by simp only[tkD,tkE,tkG];rfl) (by kernel_rfl) (by exact fun _ _ _ h=>h) (by rfl) hS0 (by intro V hSw;clear hSw;go_simp;try with_reducible rfl) ?_;try simp only[Act.put,tkA,tkB,tkC]
      refine' tk 21 (by simp only[tkD,tkE,tkG];rfl) (by kernel_rfl) (by exact fun _ _ _ h=>h) (by rfl) hS0 (by intro V hSw;obtain ⟨f0,f1,f2,f3⟩:=SF.out V hSw;clear hSw;go_simp;try with_reducible rfl) ?_;try simp only[Act.put,tkA,tkB,tkC]
      refine' tk 22 (by simp only[tkD,tkE,tkG];rfl) (by kernel_rfl) (by exact fun _ _ _ h=>h) (by rfl) hS0 (by intro V hSw;clear hSw;go_simp;try with_reducible rfl) ?_;try simp only[Act.put,tkA,tkB,tkC]
      refine' tk 23 (by simp only[tkD,tkE,tkG];rfl) (by kernel_rfl) (by exact fun _ _ _ h=>h) (by rfl) hS0 (by intro V hSw;clear hSw;go_simp;try with_reducible rfl) ?_;try simp only[Act.put,tkA,tkB,tkC]
      refine' tk 24 (by simp only[tkD,tkE,tkG];rfl) (by kernel_rfl) (by exact fun _ _ _ h=>h) (by rfl) hS0 (by intro V hSw;obtain ⟨f0,f1,f2,f3⟩:=SF.out V hSw;clear hSw;go_simp;try with_reducible rfl) ?_;try simp only[Act.put,tkA,tkB,tkC]
      refine' tk 25 (by simp only[tkD,tkE,tkG];rfl) (by kernel_rfl) (by exact fun _ _ _ h=>h) (by rfl) hS0 (by intro V hSw;clear hSw;go_simp;try with_reducible rfl) ?_;try simp only[Act.put,tkA,tkB,tkC]
      refine' tk 26 (by simp only[tkD,tkE,tkG];rfl) (by kernel_rfl) (by exact fun _ _ _ h=>h) (by rfl) hS0 (by intro V hSw;clear hSw;go_simp;try with_reducible rfl) ?_;try simp only[Act.put,tkA,tkB,tkC]
      refine' tk 27 (by simp only[tkD,tkE,tkG];rfl) (by kernel_rfl) (by exact fun _ _ _ h=>h) (by rfl) hS0 (by intro V hSw;clear hSw;go_simp;try with_reducible rfl) ?_;try simp only[Act.put,tkA,tkB,tkC]
      refine' tk 28 (by simp only[tkD,tkE,tkG];rfl) (by kernel_rfl) (by exact fun _ _ _ h=>h) (by rfl) hS0 (by intro V hSw;clear hSw;go_simp;try with_reducible rfl) ?_;try simp only[Act.put,tkA,tkB,tkC]
      refine' tk 29 (by simp only[tkD,tkE,tkG];rfl) (by kernel_rfl) (by exact fun _ _ _ h=>h) (by rfl) hS0 (by intro V hSw;clear hSw;go_simp;try with_reducible rfl) ?_;try simp only[Act.put,tkA,tkB,tkC]
      refine' tk 30 (by simp only[tkD,tkE,tkG];rfl) (by kernel_rfl) (by exact fun _ _ _ h=>h) (by rfl) hS0 (by intro V hSw;obtain ⟨f0,f1,f2,f3⟩:=SF.out V hSw;clear hSw;go_simp;try with_reducible rfl) ?_;try simp only[Act.put,tkA,tkB,tkC]
      refine' tk 31 (by simp only[tkD,tkE,tkG];rfl) (by kernel_rfl) (by exact fun _ _ _ h=>h) (by rfl) hS0 (by intro V hSw;clear hSw;go_simp;try with_reducible rfl) ?_;try simp only[Act.put,tkA,tkB,tkC]
      refine' tk 32 (by simp only[tkD,tkE,tkG];rfl) (by kernel_rfl) (by exact fun _ _ _ h=>h) (by rfl) hS0 (by intro V hSw;clear hSw;go_simp;try with_reducible rfl) ?_;try simp only[Act.put,tkA,tkB,tkC]
      refine wpAnyH_ready (rs:=[33]) (by kernel_rfl) (by simp) ?_;refine' AllReadyH.cons (by simp only[tkD,tkE,tkG];rfl) (fun K hK=>?_) AllReadyH.nil;go_simp;refine hK.out _ _ ⟨hS0.1.alloc _,hS0.2.alloc _⟩ (fun hS1=>?_);try simp only[Act.put,tkA,tkB,tkC]
      have hoW:=HO5.out;clear hy1 hy2 hy3;refine wpAnyH_ready (rs:=[34]) (by kernel_rfl) (by simp) ?_;refine' AllReadyH.cons (by simp only[tkD,tkE,tkG];rfl) (fun K hK=>?_) AllReadyH.nil;refine step_append_tok (by rfl) _ _ (by rfl) w1.heap.size ao4 cp4 (T j) W (by rfl) hoW ⟨tx.extract (P j) (P (j+1)),((T j).length:Int),(fr:Int)+(P j:Int),(fr:Int)+(P (j+1):Int)⟩ (by rfl) htj HB5.out.below.size ?_;intro gg cap3 w4 ho4 hg4 hgb;have hp4:=HB5.out.more (O:=(.cells #[.string (tx.extract (P j) (P (j+1))),.int .i64 ((T j).length:Int),.int .i64 ((fr:Int)+(P j:Int)),.int .i64 ((fr:Int)+(P (j+1):Int))] 179)) hg4 (fun r e=>(hoW.lt r e).1) (v':=.slice (some ⟨gg,0,none⟩) ((T j).length+1) cap3) rfl hgb;have HO6:Hid (w4.ownsRow w1.heap.size 179 4 (.slice (some ⟨gg,0,none⟩) ((T j).length+1) cap3) (T (j+1)).length (tokCells (T (j+1)))):=hX (by rw[HTS.out,List.length_append];exact ho4);have HB6:=hX hp4;refine hK.out _ _ ⟨hp4.tb,hp4.pr⟩ (fun hS2=>?_);try simp only[Act.put,tkA,tkB,tkC]
      refine' tk 35 (by simp only[tkD,tkE,tkG];rfl) (by kernel_rfl) (by exact fun _ _ _ h=>h) (by rfl) hS2 (by intro V hSw;clear hSw;go_simp;try with_reducible rfl) ?_;try simp only[Act.put,tkA,tkB,tkC]
      refine wpAnyH_done (by kernel_rfl) ?_ _;clear hoW ho4 hg4 hgb hp4 hz1 hz2 hS0 hS1 hS2;go_wp2_with fail;go_roundw;case rel=>exact ⟨j+1,by omega,by go_num,HO6,HB6⟩
      case measure=>simp[RowKit.intOf];omega
     ·obtain rfl:j=1:=by omega
      have HOF:Hid (wr.ownsRow w1.heap.size 179 4 u6 (tokOf s ((L.take (k+1)).flatMap pieces2)).length (tokCells (tokOf s ((L.take (k+1)).flatMap pieces2)))):=hX (by have:=HO.out;rw[HTM.out] at this;exact this);have HWF:=hX HW.out.below;go_wp2_with fail;go_roundw;case rel=>exact ⟨k+1,by omega,by go_num,HOF,HWF⟩
      case measure=>simp[RowKit.intOf];omega
   ·have HPW1:Hid (pw c=2):=hX (by rw[HPW.out,if_neg hN]);clear HPW;have HPW:=HPW1;clear HPW1;have hQ1:N - 1=Q:=by have:=HPC2.out;rw[HPW.out] at this;omega
    subst hQ1;have HTL:=HTL0;have HTM:=HTM0;rw[HPW.out] at HTN;have hNN:2≤N:=by omega
    have hmin:min (2:Int) (N:Int)=2:=by omega
    go_wp2_with fail;go_loopw [6,11] (fun o i wq=>∃j:Nat,j≤(N - 1)∧i = .int .i64 j∧Hid (wq.ownsRow w1.heap.size 179 4 o (T j).length (tokCells (T j)))∧Hid (PieceW w1 wo.heap.size g #[.string tx,.int .i64 (k:Int),.int .i64 (fr:Int),.int .i64 (tl:Int)] cur o wq)) (fun _ i _=>(N - 1) - (RowKit.intOf i).toNat);case atStart=>exact ⟨0,by omega,rfl,HO3,HW3⟩
    case round=>
     obtain ⟨j,hj,rfl,HO,HW⟩:=hrel;by_cases hlt:j<(N - 1)
     ·obtain ⟨hp1,hp2⟩:=HRP.out.le j (by rw[HPW.out];omega);rw[HPW.out] at hp1 hp2;have htj:(T j).length≤1099511627776:=by have:=HTL.out j (by omega);omega
      have HTS:Hid (T (j+1)=T j++[⟨tx.extract (P j) (P (j+2)),((T j).length:Int),(fr:Int)+(P j:Int),(fr:Int)+(P (j+2):Int)⟩]):=hX (by
       have h9:=HRP.out.tok j (by rw[HPW.out];omega);rw[HPW.out] at h9
       rw[HTN.out j (by omega),←h9,HTL.out j (by omega)])
      have SF:Hid (∀W,(Blk W wo.heap.size 179 #[.string tx,.int .i64 (k:Int),.int .i64 (fr:Int),.int .i64 (tl:Int)]∧Blk W g 3 cur)→W.cell? ⟨wo.heap.size,0,none⟩=some (.string tx)∧W.cell? ⟨wo.heap.size,2,none⟩=some (.int .i64 (fr:Int))∧W.cell? ⟨g,j,none⟩=some (.int .i64 (P j:Int))∧W.cell? ⟨g,j+2,none⟩=some (.int .i64 (P (j+2):Int))):=hX (fun W h=>
       ⟨h.1.cell 0,h.1.cell 2,(h.2.cell j).trans (HCE.out j _ (HPG.out j (by omega))),(h.2.cell (j+2)).trans (HCE.out (j+2) _ (HPG.out (j+2) (by omega)))⟩)
      obtain ⟨ao4,cp4,rfl⟩:=own_slice2 HO.out;have hx1:(j:Int)<(N:Int)+1:=by omega
      have hx2:(j:Int)+2<(N:Int)+1:=by omega
      have hx3:(P j:Int)≤(P (j+2):Int):=by omega
      have hx4:(P (j+2):Int)≤(tx.size:Int):=by omega
      have hfb:fr≤1073741824:=hfrb;have hpb:=HTXS.out;go_upto_region 18 with fail;have hy3:((j:Int)+2).toNat=j+2:=by omega
      have hy2:0≤(j:Int)+2:=by omega
      have hy1:IntKind.i64.wrap ((j:Int)+2)=(j:Int)+2:=IntWalk.i64_in _ (by omega);have hz1:IntKind.i64.wrap ((fr:Int)+(P j:Int))=(fr:Int)+(P j:Int):=IntWalk.i64_in _ (by omega);have hz2:IntKind.i64.wrap ((fr:Int)+(P (j+2):Int))=(fr:Int)+(P (j+2):Int):=IntWalk.i64_in _ (by omega);have HB5:Hid (PieceW w1 wo.heap.size g #[.string tx,.int .i64 (k:Int),.int .i64 (fr:Int),.int .i64 (tl:Int)] cur (.slice ao4 (T j).length cp4) wr.drew):=hX ⟨HW.out.below.drew,HW.out.tb,HW.out.pr,HW.out.far⟩;have HO5:Hid (wr.drew.ownsRow w1.heap.size 179 4 (.slice ao4 (T j).length cp4) (T j).length (tokCells (T j))):=HO;refine wp_region_held_drew (S:=fun W=>Blk W wo.heap.size 179 #[.string tx,.int .i64 (k:Int),.int .i64 (fr:Int),.int .i64 (tl:Int)]∧Blk W g 3 cur) (by kernel_rfl) ⟨HB5.out.tb,HB5.out.pr⟩ (fun hS0=>?_);generalize wr.drew=W at *;refine' tk 0 (by simp only[tkD,tkE,tkG];rfl) (by kernel_rfl) (by exact fun _ _ _ h=>h) (by rfl) hS0 (by intro V hSw;clear hSw;go_simp;try with_reducible rfl) ?_;try simp only[Act.put,tkA,tkB,tkC]
      refine' tk 1 (by simp only[tkD,tkE,tkG];rfl) (by kernel_rfl) (by exact fun _ _ _ h=>h) (by rfl) hS0 (by intro V hSw;clear hSw;go_simp;try with_reducible rfl) ?_;try simp only[Act.put,tkA,tkB,tkC]
      refine' tk 2 (by simp only[tkD,tkE,tkG];rfl) (by kernel_rfl) (by exact fun _ _ _ h=>h) (by rfl) hS0 (by intro V hSw;obtain ⟨f0,f1,f2,f3⟩:=SF.out V hSw;clear hSw;go_simp;try with_reducible rfl) ?_;try simp only[Act.put,tkA,tkB,tkC]
      refine' tk 3 (by simp only[tkD,tkE,tkG];rfl) (by kernel_rfl) (by exact fun _ _ _ h=>h) (by rfl) hS0 (by intro V hSw;clear hSw;go_simp;try with_reducible rfl) ?_;try simp only[Act.put,tkA,tkB,tkC]
      refine' tk 4 (by simp only[tkD,tkE,tkG];rfl) (by kernel_rfl) (by exact fun _ _ _ h=>h) (by rfl) hS0 (by intro V hSw;clear hSw;go_simp;try with_reducible rfl) ?_;try simp only[Act.put,tkA,tkB,tkC]
      refine' tk 5 (by simp only[tkD,tkE,tkG];rfl) (by kernel_rfl) (by exact fun _ _ _ h=>h) (by rfl) hS0 (by intro V hSw;clear hSw;go_simp;try with_reducible rfl) ?_;try simp only[Act.put,tkA,tkB,tkC]
      refine' tk 6 (by simp only[tkD,tkE,tkG];rfl) (by kernel_rfl) (by exact fun _ _ _ h=>h) (by rfl) hS0 (by intro V hSw;obtain ⟨f0,f1,f2,f3⟩:=SF.out V hSw;clear hSw;go_simp;try with_reducible rfl) ?_;try simp only[Act.put,tkA,tkB,tkC]
      refine' tk 7 (by simp only[tkD,tkE,tkG];rfl) (by kernel_rfl) (by exact fun _ _ _ h=>h) (by rfl) hS0 (by intro V hSw;clear hSw;go_simp;try with_reducible rfl) ?_;try simp only[Act.put,tkA,tkB,tkC]
      refine' tk 8 (by simp only[tkD,tkE,tkG];rfl) (by kernel_rfl) (by exact fun _ _ _ h=>h) (by rfl) hS0 (by intro V hSw;clear hSw;go_simp;try with_reducible rfl) ?_;try simp only[Act.put,tkA,tkB,tkC]
      refine' tk 9 (by simp only[tkD,tkE,tkG];rfl) (by kernel_rfl) (by exact fun _ _ _ h=>h) (by rfl) hS0 (by intro V hSw;clear hSw;go_simp;try with_reducible rfl) ?_;try simp only[Act.put,tkA,tkB,tkC]
      refine' tk 10 (by simp only[tkD,tkE,tkG];rfl) (by kernel_rfl) (by exact fun _ _ _ h=>h) (by rfl) hS0 (by intro V hSw;clear hSw;go_simp;try with_reducible rfl) ?_;try simp only[Act.put,tkA,tkB,tkC]
      refine' tk 11 (by simp only[tkD,tkE,tkG];rfl) (by kernel_rfl) (by exact fun _ _ _ h=>h) (by rfl) hS0 (by intro V hSw;clear hSw;go_simp;try with_reducible rfl) ?_;try simp only[Act.put,tkA,tkB,tkC]
      refine' tk 12 (by simp only[tkD,tkE,tkG];rfl) (by kernel_rfl) (by exact fun _ _ _ h=>h) (by rfl) hS0 (by intro V hSw;obtain ⟨f0,f1,f2,f3⟩:=SF.out V hSw;clear hSw;go_simp;try with_reducible rfl) ?_;try simp only[Act.put,tkA,tkB,tkC]
      refine' tk 13 (by simp only[tkD,tkE,tkG];rfl) (by kernel_rfl) (by exact fun _ _ _ h=>h) (by rfl) hS0 (by intro V hSw;clear hSw;go_simp;try with_reducible rfl) ?_;try simp only[Act.put,tkA,tkB,tkC]
      refine' tk 14 (by simp only[tkD,tkE,tkG];rfl) (by kernel_rfl) (by exact fun _ _ _ h=>h) (by rfl) hS0 (by intro V hSw;clear hSw;go_simp;try with_reducible rfl) ?_;try simp only[Act.put,tkA,tkB,tkC]
      refine' tk 15 (by simp only[tkD,tkE,tkG];rfl) (by kernel_rfl) (by exact fun _ _ _ h=>h) (by rfl) hS0 (by intro V hSw;clear hSw;go_simp;try with_reducible rfl) ?_;try simp only[Act.put,tkA,tkB,tkC]
      refine' tk 16 (by simp only[tkD,tkE,tkG];rfl) (by kernel_rfl) (by exact fun _ _ _ h=>h) (by rfl) hS0 (by intro V hSw;clear hSw;go_simp;try with_reducible rfl) ?_;try simp only[Act.put,tkA,tkB,tkC]
      refine' tk 17 (by simp only[tkD,tkE,tkG];rfl) (by kernel_rfl) (by exact fun _ _ _ h=>h) (by rfl) hS0 (by intro V hSw;obtain ⟨f0,f1,f2,f3⟩:=SF.out V hSw;clear hSw;go_simp;try with_reducible rfl) ?_;try simp only[Act.put,tkA,tkB,tkC]
      refine' tk 18 (by simp only[tkD,tkE,tkG];rfl) (by kernel_rfl) (by exact fun _ _ _ h=>h) (by rfl) hS0 (by intro V hSw;clear hSw;go_simp;try with_reducible rfl) ?_;try simp only[Act.put,tkA,tkB,tkC]
      refine' tk 19 (by simp only[tkD,tkE,tkG];rfl) (by kernel_rfl) (by exact fun _ _ _ h=>h) (by rfl) hS0 (by intro V hSw;clear hSw;go_simp;try with_reducible rfl) ?_;try simp only[Act.put,tkA,tkB,tkC]
      refine' tk 20 (by simp only[tkD,tkE,tkG];rfl) (by kernel_rfl) (by exact fun _ _ _ h=>h) (by rfl) hS0 (by intro V hSw;clear hSw;go_simp;try with_reducible rfl) ?_;try simp only[Act.put,tkA,tkB,tkC]
      refine' tk 21 (by simp only[tkD,tkE,tkG];rfl) (by kernel_rfl) (by exact fun _ _ _ h=>h) (by rfl) hS0 (by intro V hSw;obtain ⟨f0,f1,f2,f3⟩:=SF.out V hSw;clear hSw;go_simp;try with_reducible rfl) ?_;try simp only[Act.put,tkA,tkB,tkC]
      refine' tk 22 (by simp only[tkD,tkE,tkG];rfl) (by kernel_rfl) (by exact fun _ _ _ h=>h) (by rfl) hS0 (by intro V hSw;clear hSw;go_simp;try with_reducible rfl) ?_;try simp only[Act.put,tkA,tkB,tkC]
      refine' tk 23 (by simp only[tkD,tkE,tkG];rfl) (by kernel_rfl) (by exact fun _ _ _ h=>h) (by rfl) hS0 (by intro V hSw;clear hSw;go_simp;try with_reducible rfl) ?_;try simp only[Act.put,tkA,tkB,tkC]
      refine' tk 24 (by simp only[tkD,tkE,tkG];rfl) (by kernel_rfl) (by exact fun _ _ _ h=>h) (by rfl) hS0 (by intro V hSw;obtain ⟨f0,f1,f2,f3⟩:=SF.out V hSw;clear hSw;go_simp;try with_reducible rfl) ?_;try simp only[Act.put,tkA,tkB,tkC]
      refine' tk 25 (by simp only[tkD,tkE,tkG];rfl) (by kernel_rfl) (by exact fun _ _ _ h=>h) (by rfl) hS0 (by intro V hSw;clear hSw;go_simp;try with_reducible rfl) ?_;try simp only[Act.put,tkA,tkB,tkC]
      refine' tk 26 (by simp only[tkD,tkE,tkG];rfl) (by kernel_rfl) (by exact fun _ _ _ h=>h) (by rfl) hS0 (by intro V hSw;clear hSw;go_simp;try with_reducible rfl) ?_;try simp only[Act.put,tkA,tkB,tkC]
      refine' tk 27 (by simp only[tkD,tkE,tkG];rfl) (by kernel_rfl) (by exact fun _ _ _ h=>h) (by rfl) hS0 (by intro V hSw;clear hSw;go_simp;try with_reducible rfl) ?_;try simp only[Act.put,tkA,tkB,tkC]
      refine' tk 28 (by simp only[tkD,tkE,tkG];rfl) (by kernel_rfl) (by exact fun _ _ _ h=>h) (by rfl) hS0 (by intro V hSw;clear hSw;go_simp;try with_reducible rfl) ?_;try simp only[Act.put,tkA,tkB,tkC]
      refine' tk 29 (by simp only[tkD,tkE,tkG];rfl) (by kernel_rfl) (by exact fun _ _ _ h=>h) (by rfl) hS0 (by intro V hSw;clear hSw;go_simp;try with_reducible rfl) ?_;try simp only[Act.put,tkA,tkB,tkC]
      refine' tk 30 (by simp only[tkD,tkE,tkG];rfl) (by kernel_rfl) (by exact fun _ _ _ h=>h) (by rfl) hS0 (by intro V hSw;obtain ⟨f0,f1,f2,f3⟩:=SF.out V hSw;clear hSw;go_simp;try with_reducible rfl) ?_;try simp only[Act.put,tkA,tkB,tkC]
      refine' tk 31 (by simp only[tkD,tkE,tkG];rfl) (by kernel_rfl) (by exact fun _ _ _ h=>h) (by rfl) hS0 (by intro V hSw;clear hSw;go_simp;try with_reducible rfl) ?_;try simp only[Act.put,tkA,tkB,tkC]
      refine' tk 32 (by simp only[tkD,tkE,tkG];rfl) (by kernel_rfl) (by exact fun _ _ _ h=>h) (by rfl) hS0 (by intro V hSw;clear hSw;go_simp;try with_reducible rfl) ?_;try simp only[Act.put,tkA,tkB,tkC]
      refine wpAnyH_ready (rs:=[33]) (by kernel_rfl) (by simp) ?_;refine' AllReadyH.cons (by simp only[tkD,tkE,tkG];rfl) (fun K hK=>?_) AllReadyH.nil;go_simp;refine hK.out _ _ ⟨hS0.1.alloc _,hS0.2.alloc _⟩ (fun hS1=>?_);try simp only[Act.put,tkA,tkB,tkC]
      have hoW:=HO5.out;clear hy1 hy2 hy3;refine wpAnyH_ready (rs:=[34]) (by kernel_rfl) (by simp) ?_;refine' AllReadyH.cons (by simp only[tkD,tkE,tkG];rfl) (fun K hK=>?_) AllReadyH.nil;refine step_append_tok (by rfl) _ _ (by rfl) w1.heap.size ao4 cp4 (T j) W (by rfl) hoW ⟨tx.extract (P j) (P (j+2)),((T j).length:Int),(fr:Int)+(P j:Int),(fr:Int)+(P (j+2):Int)⟩ (by rfl) htj HB5.out.below.size ?_;intro gg cap3 w4 ho4 hg4 hgb;have hp4:=HB5.out.more (O:=(.cells #[.string (tx.extract (P j) (P (j+2))),.int .i64 ((T j).length:Int),.int .i64 ((fr:Int)+(P j:Int)),.int .i64 ((fr:Int)+(P (j+2):Int))] 179)) hg4 (fun r e=>(hoW.lt r e).1) (v':=.slice (some ⟨gg,0,none⟩) ((T j).length+1) cap3) rfl hgb;have HO6:Hid (w4.ownsRow w1.heap.size 179 4 (.slice (some ⟨gg,0,none⟩) ((T j).length+1) cap3) (T (j+1)).length (tokCells (T (j+1)))):=hX (by rw[HTS.out,List.length_append];exact ho4);have HB6:=hX hp4;refine hK.out _ _ ⟨hp4.tb,hp4.pr⟩ (fun hS2=>?_);try simp only[Act.put,tkA,tkB,tkC]
      refine' tk 35 (by simp only[tkD,tkE,tkG];rfl) (by kernel_rfl) (by exact fun _ _ _ h=>h) (by rfl) hS2 (by intro V hSw;clear hSw;go_simp;try with_reducible rfl) ?_;try simp only[Act.put,tkA,tkB,tkC]
      refine wpAnyH_done (by kernel_rfl) ?_ _;clear hoW ho4 hg4 hgb hp4 hz1 hz2 hS0 hS1 hS2;go_wp2_with fail;go_roundw;case rel=>exact ⟨j+1,by omega,by go_num,HO6,HB6⟩
      case measure=>simp[RowKit.intOf];omega
     ·obtain rfl:j=(N - 1):=by omega
      have HOF:Hid (wr.ownsRow w1.heap.size 179 4 u6 (tokOf s ((L.take (k+1)).flatMap pieces2)).length (tokCells (tokOf s ((L.take (k+1)).flatMap pieces2)))):=hX (by have:=HO.out;rw[HTM.out] at this;exact this);have HWF:=hX HW.out.below;go_wp2_with fail;go_roundw;case rel=>exact ⟨k+1,by omega,by go_num,HOF,HWF⟩
      case measure=>simp[RowKit.intOf];omega
  ·obtain rfl:k=L.length:=by omega
   have HO2:Hid (wo.ownsRow w1.heap.size 179 4 u6 (tokOf s (L.flatMap pieces2)).length (tokCells (tokOf s (L.flatMap pieces2)))):=hX (by have:=HO.out;rwa [List.take_of_length_le (Nat.le_refl _)] at this);go_wp2_with fail;go_ret;exact ⟨_,rfl,own_base HO2.out HB1.out.size,HB1.out.trans (HW.out.mono HB1.out.size)⟩
end Go.Proofs.YtigfcihakghddaaGreatDoor.Ana
