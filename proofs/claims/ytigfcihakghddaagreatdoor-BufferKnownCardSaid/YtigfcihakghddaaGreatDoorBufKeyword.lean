/- Lemmas that the last text leans on. -/
import Derived.Test.YtigfcihakghddaaGreatDoorTake
import Derived.Test.YtigfcihakghddaaGreatDoorPack25
import Derived.Test.YtigfcihakghddaaGreatDoorPack32
set_option linter.all false
namespace Go.Proofs.YtigfcihakghddaaGreatDoor.BufT
open Go Go.RowKit Words Tree Owned MapV BufP Sch SchP AnaP Kit
theorem infoStr:(Tryz.prog.info? 9).map (fun i=>(i.zero,i.size,i.bytes))=some (some (.string ⟨#[]⟩),1,16):=by kernel_rfl
theorem infoRowS:(Tryz.prog.info? 48).map (fun i=>(i.zero,i.size,i.bytes))=some (some (.slice none 0 0),1,24):=by kernel_rfl
def txtsF (cs:List CT):List (List UInt8):=cs.map fun c=>c.text.data.toList
theorem txtsF_step (cs:List CT) {i:Nat} (h:i<cs.length):txtsF (cs.take (i+1))=txtsF (cs.take i)++[cs[i].text.data.toList]:=by
 unfold txtsF;rw[List.take_succ_eq_append_getElem h,List.map_append];rfl
theorem clip_cell {w:World} {B:Nat} {e:TypeId} {a:Option Addr} {n c:Nat} {xs:List Value} (h:ClipRow w B e (.slice a n c) xs) {i:Nat} {u:Value} (hu:xs[i]?=some u):∃g,a=some ⟨g,0,none⟩∧w.cell? ⟨g,i,none⟩=some u:=by
 have hi:=(List.getElem?_eq_some_iff.1 hu).1
 rcases h with ⟨_,rfl⟩ | ⟨g,cap,cur,h,hB,hb,h1,h2,h3,h4⟩
 ·simp at hi
 ·injection h with e1 e2 e3;refine ⟨g,e1,?_⟩;have h5:(cur.toList.take xs.length)[i]?=some u:=by rw[h4];exact hu
  rw[List.getElem?_take_of_lt hi] at h5;simp[World.cell?,hb];simpa using h5
theorem adds_step (d:Int) (ks:List (List UInt8)) {i:Nat} (h:i<ks.length):((ks.take (i+1)).map fun s=>(⟨s,d,0⟩:Ad))=((ks.take i).map fun s=>⟨s,d,0⟩)++[⟨ks[i],d,0⟩]:=by
 rw[List.take_succ_eq_append_getElem h,List.map_append];rfl
theorem kws_eq (cs:List CT):kwsF cs=Lib.compact ((txtsF cs).mergeSort Go.leB):=rfl
set_option maxRecDepth 100000 in
set_option maxHeartbeats 4000000 in
theorem keyword_any (w:World) (B fb k:Nat) (sv cv:Value) (x:FD) (F:Nat→Prop) (d:Int) (cs:List CT) (h:FieldAt w B fb k sv x F) (hL:x.adds.length≤137438953472) (hLT:x.texts.length≤1048576) (hd:(Lit.int .i64 d).wf=true) (hB:B≤w.heap.size)
 (hx:T.At bare w (fun g=>g<w.heap.size∧¬F g) (cellsT cs) cv) (hcs:cs.length≤1048576) (htx:∀c∈cs,c.text.size≤maxLen) :
 Calls Tryz.prog 73 #[.pointer (some ⟨fb,0,none⟩),.int .i64 d,cv] w (FieldRet w B fb k sv { x with adds:=x.adds++(kwsF cs).map fun s=>⟨s,d,0⟩,texts:=x.texts++[kwsF cs] } F):=by
 obtain ⟨A,cap,rfl,hcap,_,_⟩:=at_row ccells_len hx;have HX:=hX hx;have HH:=hX h;have HTX:=hX htx;obtain ⟨i0,hi1,hz0,hz1,hz2⟩:=info_parts infoStr;have HSI0:=hX (And.intro hi1 (And.intro hz0 (And.intro hz1 hz2)));have HRA:Hid (w.ownsRow w.heap.size 9 1 (.slice none 0 0) 0 (strCells (txtsF (cs.take 0)))):=hX (World.ownsRow_nil _ _ _ _);have HBA:Hid (Below w.heap.size w w):=hX (Below.refl _ _);clear h hx hcap htx hi1 hz0 hz1 hz2;go_enter Tryz.func73,Tryz.ntmps73;go_upto_region 2 with fail;go_loopg [6,8,13] cs.length (fun m v6 _ v wr=>∃(i:Nat) (ar:Option Addr) (cr:Nat),v6 = .slice ar i cr∧v = .int .i64 i∧i≤cs.length∧m=cs.length - i∧Hid (wr.ownsRow w.heap.size 9 1 (.slice ar i cr) i (strCells (txtsF (cs.take i))))∧Hid (Below w.heap.size w wr))
 case atStart=>exact ⟨0,none,0,rfl,rfl,Nat.zero_le _,rfl,HRA,HBA⟩
 case round=>
  clear HRA HBA;obtain ⟨i,ar,cr,rfl,rfl,hi,rfl,HR,HB⟩:=hrel;by_cases hlt:i<cs.length
  ·obtain ⟨ad,A3,c3,rfl,c0,c1,c2,hrw,hnt⟩:=cell_at HX.out (But.of_below HB.out) hlt;have HST:=hX (txtsF_step cs hlt);have HLT:Hid (i<cs.length):=hX hlt;have h4:(0:Int)≤(i:Int):=by omega
   have h5:(i:Int)<(cs.length:Int):=by omega
   clear hnt;generalize cs[i]=cc at *;obtain ⟨cf,ct,cn⟩:=cc;dsimp only at *;go_upto_region 4 with fail;have BT:=hX (Blk.new wr 103 #[.int .i64 cf,.string ct,.slice A3 cn.length c3]);have HBQ:=hX ((Below.refl _ wr).alloc (Nat.le_refl _) (.cells #[.int .i64 cf,.string ct,.slice A3 cn.length c3] 103));clear c0 c1 c2 hrw;generalize wr.alloc (.cells #[.int .i64 cf,.string ct,.slice A3 cn.length c3] 103)=W7 at *;have t1:=BT.out.cell 1;have hown:=(own_below HR.out HBQ.out).alloc (.cells #[.string ct] 9)
   have hrd:Reads (W7.alloc (.cells #[.string ct] 9)) (W7.heap.size+1) 1 (some ⟨W7.heap.size,0,none⟩) 1 [.string ct]:=⟨rfl,fun _=>⟨_,rfl,Nat.lt_succ_self _,World.news_of_block (Blk.new W7 _ _)⟩⟩
   have hoc:∀u∈[Value.string ct],u.oneCell'=true:=by intro u hu;simp only[List.mem_cons,List.not_mem_nil,or_false] at hu;rcases hu with rfl;rfl
   obtain ⟨hi1,hz0,hz1,hz2⟩:=HSI0.out;have HB7:Hid (Below w.heap.size w W7):=hX (HB.out.trans (HBQ.out.mono HB.out.size));have hb7:w.heap.size≤W7.heap.size:=HB7.out.size;go_wp2_with (at_builtin;refine Words.wpList_append_any _ rfl (.tmp 17) (.tmp 20) 48 rfl w.heap.size 9 i0 (.string ⟨#[]⟩) 1 16 Tryz.underlying48 hi1 hz0 hz1 hz2 rfl (by decide) _ _ _ rfl hown (W7.heap.size+1) (some ⟨W7.heap.size,0,none⟩) 1 1 [.string ct] rfl hrd hoc ?e3 ?e4 ?e5 ?_);case e3=>unfold maxLen;omega
   case e4=>omega
   case e5=>exact Nat.le_trans hb7 (by simp)
   intro v' W2 ho hg hat;obtain ⟨a',c',rfl⟩:=own_sl ho;have HO:Hid (W2.ownsRow w.heap.size 9 1 (.slice a' (i+1) c') (i+1) (strCells (txtsF (cs.take (i+1))))):=hX (by rw[HST.out];simpa [strCells] using ho);have HB2:Hid (Below w.heap.size w W2):=hX ((HB7.out.alloc hb7 _).grown hg (by simp;omega) (fun r e=>(hown.lt r e).1));clear ho hg hat hown hrd hoc t1;go_wp2_with fail;go_roundg (cs.length - (i+1))
   case measure=>have:=HLT.out;omega
   case rel=>exact ⟨i+1,a',c',rfl,by go_num,by have:=HLT.out;omega,rfl,HO,HB2⟩
  ·obtain rfl:i=cs.length:=by omega
   have HRE:Hid (wr.ownsRow w.heap.size 9 1 (.slice ar cs.length cr) cs.length (strCells (txtsF cs))):=hX (by have:=HR.out;rwa [List.take_length] at this);clear HR hlt;have HSO:=hX (sortS_any wr w.heap.size cs.length cr ar (txtsF cs) HRE.out (by simp[txtsF]) (by omega));go_wp2_with fail;refine HSO.out.mono ?_;clear HSO;rintro e W2 ⟨rfl,hrow,hg⟩;have HB2:Hid (Below w.heap.size w W2):=hX (HB.out.grown hg HB.out.size (fun r e=>(HRE.out.lt r e).1));have HCO:=hX (compactS_any W2 w.heap.size cs.length cr ar _ hrow (by simp[txtsF]) (by omega));have HRL:=hX (fun g (e:(Value.slice ar cs.length cr).ownBlock=some g)=>hrow.lt g e);clear hrow hg HRE;go_wp2_with fail;refine HCO.out.mono ?_;clear HCO;rintro e W3 ⟨rfl,hlc,hcr,hg⟩;have HCR:=hX hcr.clip;have HB3:Hid (Below w.heap.size w W3):=hX (HB2.out.grown hg HB2.out.size (fun r e=>(HRL.out r e).1));have HCL:=hX (clip_str ar (Lib.compact ((txtsF cs).mergeSort Go.leB)).length cr W3 hlc);clear hcr hg hlc;go_wp2_with fail;refine HCL.out.mono ?_;clear HCL;rintro e W4 ⟨rfl,rfl⟩;rename World=>V1
   have HKS:Hid (kwsF cs=Lib.compact ((txtsF cs).mergeSort Go.leB)):=hX (kws_eq cs)
   have HKT:Hid (∀s∈Lib.compact ((txtsF cs).mergeSort Go.leB),s.length≤maxLen):=hX (fun s hs=>by
    obtain ⟨c,hc,rfl⟩:=mem_kwsF.1 (by rw[HKS.out];exact hs)
    exact HTX.out c hc)
   have HKL:Hid ((Lib.compact ((txtsF cs).mergeSort Go.leB)).length≤1048576):=hX (Nat.le_trans (compact_len _) (by simpa [txtsF] using hcs));generalize Lib.compact ((txtsF cs).mergeSort Go.leB)=ks at *;have hz1:w.heap.size≤V1.heap.size:=HB3.out.size
   have HFA:Hid (FieldAt V1 B fb k sv { x with adds:=x.adds++(ks.take 0).map fun s=>⟨s,d,0⟩ } F):=hX (by
    have:=HH.out.keep (w':=V1) (fun g hg=>HB3.out.block g (HH.out.lt hg).2);rw[List.take_zero]
    simpa using this)
   have HBA:Hid (But F w V1):=hX (But.of_below HB3.out);have HSA:Hid (∀g,F g→F g∨V1.heap.size≤g):=hX (fun g h=>.inl h);have HRA:Hid (ClipRow V1 w.heap.size 9 (.slice ar ks.length ks.length) (strCells ks)):=hX HCR.out.2.2;have HRB:=hX (fun g (e:(Value.slice ar ks.length ks.length).ownBlock=some g)=>HRA.out.lt e);have HFW:=hX (fun g (h:F g)=>(HH.out.lt h).2);clear HCR HB2 HRL HB;have hkl:ks.length≤1048576:=HKL.out;go_upto_region 9 with fail;go_loopg [10,30] ks.length (fun m _ v wr=>∃(i:Nat) (Fi:Nat→Prop),v = .int .i64 i∧i≤ks.length∧m=ks.length - i∧Hid (FieldAt wr B fb k sv { x with adds:=x.adds++(ks.take i).map fun s=>⟨s,d,0⟩ } Fi)∧Hid (But F w wr)∧Hid (∀g,Fi g→F g∨V1.heap.size≤g)∧Hid (ClipRow wr w.heap.size 9 (.slice ar ks.length ks.length) (strCells ks))∧Hid (V1.heap.size≤wr.heap.size))
   case atStart=>exact ⟨0,F,rfl,Nat.zero_le _,rfl,HFA,HBA,HSA,HRA,hX (Nat.le_refl _)⟩
   case round=>
    clear HFA HBA HSA HRA;obtain ⟨i,Fi,rfl,hi,rfl,HFI,HBI,HSI,HRI,HZI⟩:=hrel;by_cases hlt:i<ks.length
    ·have HTX2:=hX (HKT.out _ (List.getElem_mem hlt));have HST:=hX (adds_step d ks hlt);have HLT:Hid (i<ks.length):=hX hlt;obtain ⟨gr,rfl,c0⟩:=clip_cell HRI.out (i:=i) (u:=Go.Proofs.encStr ks[i]) (by unfold strCells;rw[List.getElem?_map,List.getElem?_eq_getElem hlt];rfl);have h4:(0:Int)≤(i:Int):=by omega
     have h5:(i:Int)<(ks.length:Int):=by omega
     generalize ks[i]=s0 at *;dsimp only[Go.Proofs.encStr] at c0;have hB7:B≤wr.heap.size:=by have:=HZI.out;omega
     have HAD:=hX (addF_any wr B fb k sv { x with adds:=x.adds++(ks.take i).map fun s=>⟨s,d,0⟩ } Fi ⟨s0.toArray⟩ d 0 HFI.out (by show (x.adds++(ks.take i).map _).length≤_;rw[List.length_append,List.length_map,List.length_take];have:=HKL.out;omega) (by simpa [ByteArray.size] using HTX2.out) hd hB7);go_wp2_with fail;refine HAD.out.mono ?_;rintro e W8 ⟨rfl,hb8,F8,h8,hf8⟩;have HF8:=hX h8;have HB8:=hX hb8;have HS8:=hX hf8;clear h8 hb8 hf8 c0;go_wp2_with fail;go_roundg (ks.length - (i+1))
     case measure=>have:=HLT.out;omega
     case rel=>
      refine ⟨i+1,F8,by go_num,by have:=HLT.out;omega,rfl,hX ?_,hX (HBI.out.more HB8.out (fun g hg=>(HSI.out g hg).imp id (fun h=>Nat.le_trans hz1 h))),hX (fun g hg=>(HS8.out g hg).elim (HSI.out g) (fun h=>.inr (Nat.le_trans HZI.out h))),hX (HRI.out.stay fun g e=>HB8.out.block g (HRI.out.lt e).2 fun hF=>?_),hX (Nat.le_trans HZI.out HB8.out.size)⟩
      ·rw[HST.out,←List.append_assoc];simpa using HF8.out
      ·obtain ⟨r1,r2⟩:=HRB.out g e;rcases HSI.out g hF with h | h
       ·have:=HFW.out g h;omega
       ·omega
    ·obtain rfl:i=ks.length:=by omega
     have HFE:Hid (FieldAt wr B fb k sv { x with adds:=x.adds++ks.map fun s=>⟨s,d,0⟩ } Fi):=hX (by have:=HFI.out;rwa [List.take_length] at this);clear HFI hlt;obtain ⟨bm,n,D,bt,Di,rv,vl,vt,vn,vp,bt1,bn,bp,h1,h2,h3⟩:=HFE.out;have c3:wr.cell? ⟨fb,3,none⟩=some vt:=h1.self.cell 3;have hBw:B≤wr.heap.size:=by have:=HZI.out;omega
     have hbf:fb<wr.heap.size:=h1.self.lt;have HI1:=hX h1;have HN2:=hX h2;have HF3:=hX h3;clear h1 h2 h3 HFE;obtain ⟨i1,hj1,hj2,hj3,hj4⟩:=info_parts infoRowS;obtain ⟨vs,b1,hrow,hvl,hbs,hmore⟩:=HI1.out.texts.more (by decide);have HMORE:=hX hmore;have HBS:=hX hbs;have hown:=hrow.alloc (.cells #[.slice ar ks.length ks.length] 48);have hcA:(wr.alloc (.cells #[.slice ar ks.length ks.length] 48)).cell? ⟨fb,3,none⟩=some vt:=(((Below.refl _ wr).alloc (Nat.le_refl _) _).cell hbf).trans c3
     have hrd:Reads (wr.alloc (.cells #[.slice ar ks.length ks.length] 48)) (wr.heap.size+1) 1 (some ⟨wr.heap.size,0,none⟩) 1 [(Value.slice ar ks.length ks.length)]:=⟨rfl,fun _=>⟨_,rfl,Nat.lt_succ_self _,World.news_of_block (Blk.new wr _ _)⟩⟩
     have hoc:∀u∈[(Value.slice ar ks.length ks.length)],u.oneCell'=true:=by intro u hu;simp only[List.mem_cons,List.not_mem_nil,or_false] at hu;rcases hu with rfl;rfl
     clear hmore hbs hrow;go_wp2_with (at_builtin;refine Words.wpList_append_any _ rfl (.tmp 44) (.tmp 46) 42 rfl B 48 i1 (.slice none 0 0) 1 24 Tryz.underlying42 hj1 hj2 hj3 hj4 rfl (by decide) _ _ _ rfl hown (wr.heap.size+1) (some ⟨wr.heap.size,0,none⟩) 1 1 [(Value.slice ar ks.length ks.length)] rfl hrd hoc ?e3 ?e4 ?e5 ?_);case e3=>unfold maxLen;omega
     case e4=>omega
     case e5=>exact Nat.le_trans hBw (by simp)
     intro v' W2 ho hg hat;obtain ⟨a',c',rfl⟩:=own_sl ho;replace hg:(wr.alloc (.cells #[.slice ar ks.length ks.length] 48)).grownBy W2 vt.ownBlock:=hg;have hgw:wr.grownBy W2 vt.ownBlock:=(World.grownBy_alloc wr _ vt.ownBlock).trans hg;have hvb:∀g,vt.ownBlock=some g→g∈bt1:=fun g e=>HI1.out.texts.own_mem e;have hfr:some fb≠vt.ownBlock:=fun e=>(List.nodup_cons.1 HI1.out.nd).1 (List.mem_append_right _ (List.mem_append_left _ (hvb fb e.symm)));have hb2:=HI1.out.self.grown hgw hfr;have p3:W2.cell? ⟨fb,3,none⟩=some vt:=hb2.cell 3;have z3:W2.frozen? ⟨fb,3,none⟩=false:=hb2.frozen 3;have HO:=hX ho;have HGW:=hX hgw;have HAT:Hid ((Value.slice a' (x.texts.length+1) c').ownBlock=vt.ownBlock∨∃g,(Value.slice a' (x.texts.length+1) c').ownBlock=some g∧wr.heap.size≤g):=hX (hat.imp id fun e=>⟨_,e,by omega⟩);clear ho hg hat hgw hfr hb2 c3 hcA hown hrd hoc hvb;go_wp2_with fail;go_end0;have hbF:∀g∈bt1,Fi g:=fun g hm=>(HF3.out g).2 (.inl (List.mem_cons_of_mem _ (List.mem_append_right _ (List.mem_append_left _ hm))));have hvF:∀g,vt.ownBlock=some g→Fi g:=fun g e=>hbF g (HI1.out.texts.own_mem e);have hblt:∀g∈bt1,g<wr.heap.size:=fun g hm=>(HI1.out.texts.mem g hm).2;have h9:=HRB.out;have hzw:=HZI.out;have h9F:∀g,(Value.slice ar ks.length ks.length).ownBlock=some g→¬Fi g:=fun g e hF=>(HSI.out g hF).elim (fun h=>by have:=HFW.out g h;have:=(h9 g e).1;omega) (fun h=>by have:=(h9 g e).2;omega)
     have HCR2:ClipRow W2 B 9 (Value.slice ar ks.length ks.length) (strCells ks):=(HRI.out.from_ hB).stay fun g e=>HGW.out.block g (HRI.out.lt e).2 (fun e2=>h9F g e (hvF g e2.symm));have hlen:(x.texts++[ks]).length=x.texts.length+1:=by simp
     have HR:=HMORE.out W2 (Value.slice a' (x.texts.length+1) c') [ks] [(Value.slice ar ks.length ks.length)] ((Value.slice ar ks.length ks.length).ownBlock.toList++[]) HGW.out (Eq.mpr (congrArg (fun m=>W2.ownsRow B 48 1 (Value.slice a' (x.texts.length+1) c') m _) hlen) HO.out) (.cons HCR2 .nil);have hbp:=HBS.out
     have hsub2:∀g∈(Value.slice a' (x.texts.length+1) c').ownBlock.toList++(b1++((Value.slice ar ks.length ks.length).ownBlock.toList++[])),g∈bt1∨(¬Fi g∧w.heap.size≤g):=fun g hg=>by
      rcases List.mem_append.1 hg with hg | hg
      ·rcases HAT.out with e | ⟨g',e,hge⟩
       ·rw[e] at hg;exact .inl (by rw[hbp];exact List.mem_append_left _ hg)
       ·rw[mem_own,e] at hg;obtain rfl:=Option.some.inj hg
        exact .inr ⟨fun hF=>by
         rcases (HF3.out g').1 hF with h | h
         ·have:=(HI1.out.ltL h).2;omega
         ·have:=HI1.out.terms.bound h;omega,by omega⟩
      ·rcases List.mem_append.1 hg with hg | hg
       ·exact .inl (by rw[hbp];exact List.mem_append_right _ hg)
       ·rw[List.append_nil,mem_own] at hg;exact .inr ⟨h9F g hg,(h9 g hg).1⟩
     have hn:((Value.slice a' (x.texts.length+1) c').ownBlock.toList++(b1++((Value.slice ar ks.length ks.length).ownBlock.toList++[]))).Nodup:=by
      rw[List.nodup_iff_count];intro g;rw[List.append_nil,List.count_append,List.count_append];have hbn:bt1.Nodup:=(List.nodup_append.1 (List.nodup_append.1 (List.nodup_cons.1 HI1.out.nd).2).2.1).1;have c1:=List.nodup_iff_count.1 hbn g;rw[hbp,List.count_append] at c1;have c2:(Value.slice ar ks.length ks.length).ownBlock.toList.count g≤1:=by cases (Value.slice ar ks.length ks.length).ownBlock <;> simp[List.count_cons];split <;> omega
      have c3:(Value.slice a' (x.texts.length+1) c').ownBlock.toList.count g≤1:=by cases (Value.slice a' (x.texts.length+1) c').ownBlock <;> simp[List.count_cons];split <;> omega
      have hb1:0<b1.count g→g∈bt1:=fun hp=>by rw[hbp];exact List.mem_append_right _ (List.count_pos_iff.1 hp)
      have h9c:0<(Value.slice ar ks.length ks.length).ownBlock.toList.count g→(Value.slice ar ks.length ks.length).ownBlock=some g:=fun hp=>mem_own.1 (List.count_pos_iff.1 hp);have hvc:0<vt.ownBlock.toList.count g→Fi g:=fun hp=>hvF g (mem_own.1 (List.count_pos_iff.1 hp));rcases Nat.eq_zero_or_pos ((Value.slice ar ks.length ks.length).ownBlock.toList.count g) with h0 | h0
      ·rcases HAT.out with e | ⟨g',e,hge⟩
       ·rw[e];omega
       ·rcases Nat.eq_zero_or_pos ((Value.slice a' (x.texts.length+1) c').ownBlock.toList.count g) with h1 | h1
        ·omega
        ·have h2:=mem_own.1 (List.count_pos_iff.1 h1);rw[e] at h2;obtain rfl:=Option.some.inj h2;rcases Nat.eq_zero_or_pos (b1.count g') with h3 | h3
         ·omega
         ·have:=hblt _ (hb1 h3);omega
      ·have hF:=h9F g (h9c h0);have hgl:=(h9 g (h9c h0)).2;rcases Nat.eq_zero_or_pos (b1.count g) with h1 | h1
       ·rcases HAT.out with e | ⟨g',e,hge⟩
        ·rw[e];rcases Nat.eq_zero_or_pos (vt.ownBlock.toList.count g) with h2 | h2
         ·omega
         ·exact absurd (hvc h2) hF
        ·rcases Nat.eq_zero_or_pos ((Value.slice a' (x.texts.length+1) c').ownBlock.toList.count g) with h2 | h2
         ·omega
         ·have h4:=mem_own.1 (List.count_pos_iff.1 h2);rw[e] at h4;have:=Option.some.inj h4;omega
       ·exact absurd (hbF g (hb1 h1)) hF
     have HUP:=HI1.out.textsUp HGW.out HR (fun g hg=>(hsub2 g hg).imp id fun h hf=>h.1 ((HF3.out g).2 hf)) hn;have hbu:But Fi wr (W2.setCell ⟨fb,3,none⟩ (Value.slice a' (x.texts.length+1) c')):=(But.grown (N:=Fi) HGW.out fun r e=>hvF r e).set (.inl ((HF3.out fb).2 (.inl (List.mem_cons_self ..)))) _;rw[HKS.out];refine ⟨rfl,HBI.out.more hbu (fun g hg=>(HSI.out g hg).imp id (fun h=>Nat.le_trans hz1 h)),_,⟨bm,n,D,bt,Di,rv,vl,_,vn,vp,_,bn,bp,HUP,HN2.out,fun g=>Iff.rfl⟩,fun g hg=>?_⟩;have hin:∀g,Fi g→F g∨w.heap.size≤g:=fun g h=>(HSI.out g h).imp id (fun h=>Nat.le_trans hz1 h);rcases hg with hg | hg
     ·rcases List.mem_cons.1 hg with rfl | hg
      ·exact hin g ((HF3.out g).2 (.inl (List.mem_cons_self ..)))
      ·rcases List.mem_append.1 hg with hg | hg
       ·exact hin g ((HF3.out g).2 (.inl (List.mem_cons_of_mem _ (List.mem_append_left _ hg))))
       ·rcases List.mem_append.1 hg with hg | hg
        ·exact (hsub2 g hg).elim (fun h=>hin g (hbF g h)) (fun h=>.inr h.2)
        ·exact hin g ((HF3.out g).2 (.inl (List.mem_cons_of_mem _ (List.mem_append_right _ (List.mem_append_right _ hg)))))
     ·exact hin g ((HF3.out g).2 (.inr hg))
end Go.Proofs.YtigfcihakghddaaGreatDoor.BufT
