/- Lemmas that the last text leans on. -/
import Derived.Test.YtigfcihakghddaaGreatDoorTake
import Derived.Test.YtigfcihakghddaaGreatDoorPack25
import Derived.Test.YtigfcihakghddaaGreatDoorPack32
set_option linter.all false
namespace Go.Proofs.YtigfcihakghddaaGreatDoor.BufT
open Go Go.RowKit Words Tree Owned MapV BufP Sch SchP AnaP Kit
theorem infoRow:(Tryz.prog.info? 50).map (fun i=>(i.zero,i.size,i.bytes))=some (some (.slice none 0 0),1,24):=by kernel_rfl
def headsF (cs:List CT):List Int:=cs.map fun c=>c.nums.headD 0
theorem headsF_step (cs:List CT) {i:Nat} (h:i<cs.length):headsF (cs.take (i+1))=headsF (cs.take i)++[cs[i].nums.headD 0]:=by
 unfold headsF;rw[List.take_succ_eq_append_getElem h,List.map_append];rfl
theorem head_at {wr:World} {S:Nat→Prop} {A3:Option Addr} {c3:Nat} {l:List Int} (h:T.At bare wr S (numsT .i64 l) (.slice A3 l.length c3)) (hl:0<l.length):∃ad,A3=some ad∧S ad.block∧wr.cell? ad=some (.int .i64 (l.headD 0)):=by
 simp only[numsT,T.At] at h;obtain ⟨A,cap,vs,hv,_,_,_,ha,hx⟩:=h;injection hv with e1 e2 e3;subst e1;obtain ⟨ad,rfl,hs,hc⟩:=ha (by omega);refine ⟨ad,rfl,hs,?_⟩
 match l,hl,vs,hx with
 | z::l,_,v::vs,hx=>
  simp only[List.map_cons,T.AtL,T.At] at hx;obtain ⟨rfl,_⟩:=hx;exact hc.zero
 | z::l,_,[],hx=>simp only[List.map_cons,T.AtL] at hx
set_option maxRecDepth 100000 in
set_option maxHeartbeats 4000000 in
theorem number_any (w:World) (B fb k:Nat) (sv cv:Value) (x:FD) (F:Nat→Prop) (d:Int) (cs:List CT) (h:FieldAt w B fb k sv x F) (hL:x.pts.length≤1099511627) (hLN:x.nums.length≤1048576) (hB:B≤w.heap.size)
 (hx:T.At bare w (fun g=>g<w.heap.size∧¬F g) (cellsT cs) cv) (hcs:cs.length≤1048576) (hnum:∀c∈cs,c.nums.length*8≤140737488351232) (hone:∀c∈cs,0<c.nums.length) :
 Calls Tryz.prog 74 #[.pointer (some ⟨fb,0,none⟩),.int .i64 d,cv] w (FieldRet w B fb k sv { x with nums:=x.nums++[numF cs],pts:=x.pts++ptsF d cs } F):=by
 obtain ⟨A,cap,rfl,hcap,_,_⟩:=at_row ccells_len hx;have HX:=hX hx;have HH:=hX h;have HNUM:=hX hnum;have HONE:=hX hone;obtain ⟨i0,hi1,hz0,hz1,hz2⟩:=info_parts infoL;have HSI0:=hX (And.intro hi1 (And.intro hz0 (And.intro hz1 hz2)));have HRA:Hid (w.ownsRow w.heap.size 2 1 (.slice none 0 0) 0 (intCells (headsF (cs.take 0)))):=hX (World.ownsRow_nil _ _ _ _);have HBA:Hid (Below w.heap.size w w):=hX (Below.refl _ _);clear h hx hcap hnum hone hi1 hz0 hz1 hz2;go_enter Tryz.func74,Tryz.ntmps74;go_upto_region 2 with fail;go_loopg [6,8,11] cs.length (fun m v6 _ v wr=>∃(i:Nat) (ar:Option Addr) (cr:Nat),v6 = .slice ar i cr∧v = .int .i64 i∧i≤cs.length∧m=cs.length - i∧Hid (wr.ownsRow w.heap.size 2 1 (.slice ar i cr) i (intCells (headsF (cs.take i))))∧Hid (Below w.heap.size w wr))
 case atStart=>exact ⟨0,none,0,rfl,rfl,Nat.zero_le _,rfl,HRA,HBA⟩
 case round=>
  clear HRA HBA;obtain ⟨i,ar,cr,rfl,rfl,hi,rfl,HR,HB⟩:=hrel;by_cases hlt:i<cs.length
  ·obtain ⟨ad,A3,c3,rfl,c0,c1,c2,hrw,hnt⟩:=cell_at HX.out (But.of_below HB.out) hlt;have HST:=hX (headsF_step cs hlt);have HLT:Hid (i<cs.length):=hX hlt;have h4:(0:Int)≤(i:Int):=by omega
   have h5:(i:Int)<(cs.length:Int):=by omega
   have hps:=HONE.out _ (List.getElem_mem hlt);obtain ⟨a3,rfl,hs3,ch⟩:=head_at hnt hps;have ha3:a3.block<wr.heap.size:=Nat.lt_of_lt_of_le hs3.1 HB.out.size;clear hnt;generalize cs[i]=cc at *;obtain ⟨cf,ct,cn⟩:=cc;dsimp only at *;have h6:(0:Int)<(cn.length:Int):=by omega
   generalize cn.headD 0=z0 at *;go_upto_region 4 with fail;have BT:=hX (Blk.new wr 103 #[.int .i64 cf,.string ct,.slice (some a3) cn.length c3]);have HBQ:=hX ((Below.refl _ wr).alloc (Nat.le_refl _) (.cells #[.int .i64 cf,.string ct,.slice (some a3) cn.length c3] 103));have ch2:=(HBQ.out.cell ha3).trans ch;clear c0 c1 c2 hrw ch;generalize wr.alloc (.cells #[.int .i64 cf,.string ct,.slice (some a3) cn.length c3] 103)=W7 at *;have t2:=BT.out.cell 2;have hown:=(own_below HR.out HBQ.out).alloc (.cells #[.int .i64 z0] 2)
   have hrd:Reads (W7.alloc (.cells #[.int .i64 z0] 2)) (W7.heap.size+1) 1 (some ⟨W7.heap.size,0,none⟩) 1 [.int .i64 z0]:=⟨rfl,fun _=>⟨_,rfl,Nat.lt_succ_self _,World.news_of_block (Blk.new W7 _ _)⟩⟩
   have hoc:∀u∈[Value.int .i64 z0],u.oneCell'=true:=by intro u hu;simp only[List.mem_cons,List.not_mem_nil,or_false] at hu;rcases hu with rfl;rfl
   obtain ⟨hi1,hz0,hz1,hz2⟩:=HSI0.out;have HB7:Hid (Below w.heap.size w W7):=hX (HB.out.trans (HBQ.out.mono HB.out.size));have hb7:w.heap.size≤W7.heap.size:=HB7.out.size;go_wp2_with (at_builtin;refine Words.wpList_append_any _ rfl (.tmp 15) (.tmp 20) 50 rfl w.heap.size 2 i0 (.int .i64 0) 1 8 Tryz.underlying50 hi1 hz0 hz1 hz2 rfl (by decide) _ _ _ rfl hown (W7.heap.size+1) (some ⟨W7.heap.size,0,none⟩) 1 1 [.int .i64 z0] rfl hrd hoc ?e3 ?e4 ?e5 ?_);case e3=>unfold maxLen;omega
   case e4=>omega
   case e5=>exact Nat.le_trans hb7 (by simp)
   intro v' W2 ho hg hat;obtain ⟨a',c',rfl⟩:=own_sl ho;have HO:Hid (W2.ownsRow w.heap.size 2 1 (.slice a' (i+1) c') (i+1) (intCells (headsF (cs.take (i+1))))):=hX (by rw[HST.out];simpa [intCells] using ho);have HB2:Hid (Below w.heap.size w W2):=hX ((HB7.out.alloc hb7 _).grown hg (by simp;omega) (fun r e=>(hown.lt r e).1));clear ho hg hat hown hrd hoc t2 ch2;go_wp2_with fail;go_roundg (cs.length - (i+1))
   case measure=>have:=HLT.out;omega
   case rel=>exact ⟨i+1,a',c',rfl,by go_num,by have:=HLT.out;omega,rfl,HO,HB2⟩
  ·obtain rfl:i=cs.length:=by omega
   have HRE:Hid (wr.ownsRow w.heap.size 2 1 (.slice ar cs.length cr) cs.length (intCells (headsF cs))):=hX (by have:=HR.out;rwa [List.take_length] at this);clear HR hlt;have HSO:=hX (sortI_any wr w.heap.size cs.length cr ar (headsF cs) HRE.out (by simp[headsF]) (by omega));go_wp2_with fail;refine HSO.out.mono ?_;clear HSO;rintro e W2 ⟨rfl,hrow,hg⟩;have hrlt:∀g,(Value.slice ar cs.length cr).ownBlock=some g→w.heap.size≤g∧g<wr.heap.size:=fun g e=>HRE.out.lt g e;have HB2:Hid (Below w.heap.size w W2):=hX (HB.out.grown hg HB.out.size (fun r e=>(hrlt r e).1));have HROW:=hX hrow;have HF2:=hX (HH.out.keep (w':=W2) (fun g hg=>HB2.out.block g (HH.out.lt hg).2));have HFW:=hX (fun g (hg:F g)=>(HH.out.lt hg).2);have hsl:(intCells ((headsF cs).mergeSort fun x y=>decide (x≤y))).length=cs.length:=by simp[intCells,headsF]
   have hcr:ClipRow W2 w.heap.size 2 (.slice ar cs.length cr) (intCells ((headsF cs).mergeSort fun x y=>decide (x≤y))):=ClipRow.of_own (by rw[hsl];exact HROW.out);have HC9:=hX (ClipRow.clip hcr);clear hcr hsl;have hle9:cs.length≤cr:=HC9.out.2.1;obtain ⟨bm,n,D,bt,Di,rv,vl,vt,vn,vp,bt1,bn,bp,h1,h2,h3⟩:=HF2.out;have hc5:W2.cell? ⟨fb,4,none⟩=some vn:=h1.self.cell 4;have hfl:fb<W2.heap.size:=h1.self.lt;have hvF:∀g,vn.ownBlock=some g→F g:=fun g e=>(h3 g).2 (.inl (List.mem_cons_of_mem _ (List.mem_append_right _ (List.mem_append_right _ (List.mem_append_left _ (h1.nums.own_mem e))))));have hfN:¬vn.ownBlock=some fb:=fun e=>(List.nodup_cons.1 h1.nd).1 (List.mem_append_right _ (List.mem_append_right _ (List.mem_append_left _ (h1.nums.own_mem e))));have HI1:=hX h1;have HN2:=hX h2;have HF3:=hX h3;have hB7:B≤W2.heap.size:=by have:=HB2.out.size;omega
   clear h1 h2 h3 hrow hg HF2 HRE;go_upto_region 7 with fail;refine HeldU.wp_region_until #[true,true,true,true,true,true,true,true,true,true,false,false,false,false] (fun V=>But (fun g=>vn.ownBlock=some g) W2 V) (by kernel_rfl) (But.of_below ((Below.refl _ _).drew)) (fun hS0=>?_);refine' HeldU.tkU 0 (by simp only[tkD,tkE,tkG];rfl) (by kernel_rfl) (by exact fun _ _ _ h=>h) (by rfl) hS0 (by intro V hSw;clear hSw;go_simp;try with_reducible rfl) ?_;try simp only[Act.put,tkA,tkB,tkC]
   refine' HeldU.tkU 1 (by simp only[tkD,tkE,tkG];rfl) (by kernel_rfl) (by exact fun _ _ _ h=>h) (by rfl) hS0 (by intro V hSw;clear hSw;go_simp;try with_reducible rfl) ?_;try simp only[Act.put,tkA,tkB,tkC]
   refine' HeldU.tkU 2 (by simp only[tkD,tkE,tkG];rfl) (by kernel_rfl) (by exact fun _ _ _ h=>h) (by rfl) hS0 (by intro V hSw;clear hSw;go_simp;try with_reducible rfl) ?_;try simp only[Act.put,tkA,tkB,tkC]
   refine' HeldU.tkU 3 (by simp only[tkD,tkE,tkG];rfl) (by kernel_rfl) (by exact fun _ _ _ h=>h) (by rfl) hS0 (by intro V hSw;clear hSw;go_simp;try with_reducible rfl) ?_;try simp only[Act.put,tkA,tkB,tkC]
   refine' HeldU.tkU 4 (by simp only[tkD,tkE,tkG];rfl) (by kernel_rfl) (by exact fun _ _ _ h=>h) (by rfl) hS0 (by intro V hSw;clear hSw;go_simp;try with_reducible rfl) ?_;try simp only[Act.put,tkA,tkB,tkC]
   refine' HeldU.tkU 5 (by simp only[tkD,tkE,tkG];rfl) (by kernel_rfl) (by exact fun _ _ _ h=>h) (by rfl) hS0 (by intro V hSw;have c5:=(hSw.cell hfl hfN).trans hc5;clear hSw;go_simp;try with_reducible rfl) ?_;try simp only[Act.put,tkA,tkB,tkC]
   refine' HeldU.tkU 6 (by simp only[tkD,tkE,tkG];rfl) (by kernel_rfl) (by exact fun _ _ _ h=>h) (by rfl) hS0 (by intro V hSw;clear hSw;go_simp;try with_reducible rfl) ?_;try simp only[Act.put,tkA,tkB,tkC]
   refine' HeldU.wpAnyU_one (i:=7) (by kernel_rfl) (by kernel_rfl) (by simp only[tkD,tkE,tkG];rfl) (fun K hK=>?_);go_simp;refine (clip_i64 ar cs.length cr _ hle9).mono ?_;rintro e V1 ⟨rfl,rfl⟩;have B1:=hX (But.trans hS0 (But.refl _ _));go_simp;refine hK.out _ _ B1.out (fun hS1=>?_);clear hK K;try simp only[Act.put,tkA,tkB,tkC]
   refine' HeldU.wpAnyU_one (i:=8) (by kernel_rfl) (by kernel_rfl) (by simp only[tkD,tkE,tkG];rfl) (fun K hK=>?_);go_simp;refine hK.out _ _ ((hS1).alloc _) (fun hS2=>?_);clear hK K;try simp only[Act.put,tkA,tkB,tkC]
   refine' HeldU.wpAnyU_one (i:=9) (by kernel_rfl) (by kernel_rfl) (by simp only[tkD,tkE,tkG];rfl) (fun K hK=>?_);obtain ⟨j0,hj1,hj2,hj3,hj4⟩:=info_parts infoRow;obtain ⟨vs,b1,hrow,hvl,hbs,hmore⟩:=HI1.out.nums.more (by decide);have hA1:Below W2.heap.size W2 (W2.alloc (.cells #[.slice ar cs.length cs.length] 50)).drew:=((Below.refl _ _).alloc (Nat.le_refl _) _).drew;have hownA:=own_below hrow hA1;have HMORE:=hX hmore;have HBS:=hX hbs;have HA1:=hX hA1;refine step_append_any _ rfl (.tmp 30) (.tmp 33) 40 rfl B 50 j0 (.slice none 0 0) 1 24 Tryz.underlying40 hj1 hj2 hj3 hj4 rfl (by decide) _ _ _ rfl hownA (W2.heap.size+1) (some ⟨W2.heap.size,0,none⟩) 1 1 [.slice ar cs.length cs.length] rfl ?e1 ?e2 ?e3 ?e4 ?e5 ?_;case e1=>exact ⟨rfl,fun _=>⟨_,rfl,Nat.lt_succ_self _,World.news_of_block (Blk.new W2 _ _).drew⟩⟩
   case e2=>intro u hu;simp only[List.mem_cons,List.not_mem_nil,or_false] at hu;rcases hu with rfl;rfl
   case e3=>unfold maxLen;omega
   case e4=>omega
   case e5=>exact Nat.le_trans hB7 hA1.size
   intro v' W8 ho hg hat;obtain ⟨a',c',rfl⟩:=own_sl ho;replace hg:(W2.alloc (.cells #[.slice ar cs.length cs.length] 50)).drew.grownBy W8 vn.ownBlock:=hg;have HO:=hX ho;have HG:=hX hg;have HAT:Hid ((Value.slice a' (x.nums.length+1) c').ownBlock=vn.ownBlock∨∃g,(Value.slice a' (x.nums.length+1) c').ownBlock=some g∧W2.heap.size≤g):=hX (hat.imp id fun e=>⟨_,e,by simp⟩);refine hK.out _ _ ((hS2).trans (But.grown hg fun r e=>e)) (fun hS13=>?_);clear hK K ho hg hat hA1 hmore hbs hownA hrow;try simp only[Act.put,tkA,tkB,tkC]
   refine HeldU.wpAnyU_off (by kernel_rfl) ?_;refine' tk 10 (by simp only[tkD,tkE,tkG];rfl) (by kernel_rfl) (by exact fun _ _ _ h=>h) (by rfl) trivial (by intro V hSw;clear hSw;go_simp;try with_reducible rfl) ?_;try simp only[Act.put,tkA,tkB,tkC]
   refine' tk 11 (by simp only[tkD,tkE,tkG];rfl) (by kernel_rfl) (by exact fun _ _ _ h=>h) (by rfl) trivial (by intro V hSw;clear hSw;go_simp;try with_reducible rfl) ?_;try simp only[Act.put,tkA,tkB,tkC]
   refine' tk 12 (by simp only[tkD,tkE,tkG];rfl) (by kernel_rfl) (by exact fun _ _ _ h=>h) (by rfl) trivial (by intro V hSw;clear hSw;go_simp;try with_reducible rfl) ?_;try simp only[Act.put,tkA,tkB,tkC]
   have hgw:W2.grownBy W8 vn.ownBlock:=(only_of_below HA1.out vn.ownBlock).trans HG.out;have hb2:=HI1.out.self.grown hgw (fun e=>hfN e.symm);have p4:W8.cell? ⟨fb,4,none⟩=some vn:=hb2.cell 4;have z4:W8.frozen? ⟨fb,4,none⟩=false:=hb2.frozen 4;have HGW:=hX hgw;clear hgw hb2;refine wpAnyH_ready (rs:=[13]) (by kernel_rfl) (by simp) ?_;refine' AllReadyH.cons (by simp only[tkD,tkE,tkG];rfl) (fun K hK=>?_) AllReadyH.nil;go_simp;refine hK.out _ _ trivial (fun _=>?_);clear hK K;try simp only[Act.put,tkA,tkB,tkC]
   refine wpAnyH_done (by kernel_rfl) ?_ _;have hbF:∀g∈bn,F g:=fun g hm=>(HF3.out g).2 (.inl (List.mem_cons_of_mem _ (List.mem_append_right _ (List.mem_append_right _ (List.mem_append_left _ hm)))));have hFW:=HFW.out;have hwr:w.heap.size≤W2.heap.size:=HB2.out.size;have h9:∀g,(Value.slice ar cs.length cs.length).ownBlock=some g→w.heap.size≤g∧g<W2.heap.size:=fun g e=>HC9.out.2.2.lt e |>.imp id id
   have HCR:ClipRow W8 B 2 (Value.slice ar cs.length cs.length) (intCells (numF cs)):=(HC9.out.2.2.from_ hB).stay fun g e=>(HG.out.block g (by have:=(h9 g e).2;simp;omega) (fun e2=>by have:=hFW g (hvF g e2.symm);have:=(h9 g e).1;omega)).trans (Below.heap_alloc _ _ g (h9 g e).2);have hlen:(x.nums++[numF cs]).length=x.nums.length+1:=by simp
   have HR:=HMORE.out W8 (Value.slice a' (x.nums.length+1) c') [numF cs] [(Value.slice ar cs.length cs.length)] ((Value.slice ar cs.length cs.length).ownBlock.toList++[]) HGW.out (Eq.mpr (congrArg (fun m=>W8.ownsRow B 50 1 (Value.slice a' (x.nums.length+1) c') m _) hlen) HO.out) (.cons HCR .nil);have hbp:=HBS.out
   have hsub2:∀g∈(Value.slice a' (x.nums.length+1) c').ownBlock.toList++(b1++((Value.slice ar cs.length cs.length).ownBlock.toList++[])),g∈bn∨w.heap.size≤g:=fun g hg=>by
    rcases List.mem_append.1 hg with hg | hg
    ·rcases HAT.out with e | ⟨g',e,hge⟩
     ·rw[e] at hg;exact .inl (by rw[hbp];exact List.mem_append_left _ hg)
     ·rw[mem_own,e] at hg;obtain rfl:=Option.some.inj hg;exact .inr (Nat.le_trans hwr hge)
    ·rcases List.mem_append.1 hg with hg | hg
     ·exact .inl (by rw[hbp];exact List.mem_append_right _ hg)
     ·rw[List.append_nil,mem_own] at hg;exact .inr (h9 g hg).1
   have hsub:∀g∈(Value.slice a' (x.nums.length+1) c').ownBlock.toList++(b1++((Value.slice ar cs.length cs.length).ownBlock.toList++[])),g∈bn∨¬FootF fb bm x bt rv vl (bt1++(bn++bp)) g:=fun g hg=>(hsub2 g hg).imp id fun h hf=>by have:=hFW g ((HF3.out g).2 hf);omega
   have hn:((Value.slice a' (x.nums.length+1) c').ownBlock.toList++(b1++((Value.slice ar cs.length cs.length).ownBlock.toList++[]))).Nodup:=by
    rw[List.nodup_iff_count];intro g;rw[List.append_nil,List.count_append,List.count_append];have hbn:bn.Nodup:=(List.nodup_append.1 (List.nodup_append.1 (List.nodup_append.1 (List.nodup_cons.1 HI1.out.nd).2).2.1).2.1).1;have c1:=List.nodup_iff_count.1 hbn g;rw[hbp,List.count_append] at c1;have c2:(Value.slice ar cs.length cs.length).ownBlock.toList.count g≤1:=by cases (Value.slice ar cs.length cs.length).ownBlock <;> simp[List.count_cons];split <;> omega
    have c3:(Value.slice a' (x.nums.length+1) c').ownBlock.toList.count g≤1:=by cases (Value.slice a' (x.nums.length+1) c').ownBlock <;> simp[List.count_cons];split <;> omega
    have hb1:0<b1.count g→g<w.heap.size:=fun hp=>hFW g (hbF g (by rw[hbp];exact List.mem_append_right _ (List.count_pos_iff.1 hp)));have h9c:0<(Value.slice ar cs.length cs.length).ownBlock.toList.count g→w.heap.size≤g∧g<W2.heap.size:=fun hp=>h9 g (mem_own.1 (List.count_pos_iff.1 hp));have hvc:0<vn.ownBlock.toList.count g→g<w.heap.size:=fun hp=>hFW g (hvF g (mem_own.1 (List.count_pos_iff.1 hp)))
    rcases HAT.out with e | ⟨g',e,hge⟩
    ·rw[e];rcases Nat.eq_zero_or_pos ((Value.slice ar cs.length cs.length).ownBlock.toList.count g) with h0 | h0
     ·omega
     ·have:=h9c h0;rcases Nat.eq_zero_or_pos (b1.count g) with h1 | h1
      ·rcases Nat.eq_zero_or_pos (vn.ownBlock.toList.count g) with h2 | h2
       ·omega
       ·have:=hvc h2;omega
      ·have:=hb1 h1;omega
    ·have hs:0<(Value.slice a' (x.nums.length+1) c').ownBlock.toList.count g→W2.heap.size≤g:=fun hp=>by
      have:=mem_own.1 (List.count_pos_iff.1 hp);rw[e] at this;obtain rfl:=Option.some.inj this;exact hge
     rcases Nat.eq_zero_or_pos ((Value.slice a' (x.nums.length+1) c').ownBlock.toList.count g) with h0 | h0
     ·rcases Nat.eq_zero_or_pos ((Value.slice ar cs.length cs.length).ownBlock.toList.count g) with h1 | h1
      ·omega
      ·have:=h9c h1;rcases Nat.eq_zero_or_pos (b1.count g) with h2 | h2
       ·omega
       ·have:=hb1 h2;omega
     ·have:=hs h0;rcases Nat.eq_zero_or_pos (b1.count g) with h1 | h1
      ·rcases Nat.eq_zero_or_pos ((Value.slice ar cs.length cs.length).ownBlock.toList.count g) with h2 | h2
       ·omega
       ·have:=h9c h2;omega
      ·have:=hb1 h1;omega
   have HUP:=HI1.out.numsUp HGW.out HR hsub hn
   have hF9:∀g,FootF fb bm { x with nums:=x.nums++[numF cs] } bt rv vl (bt1++(((Value.slice a' (x.nums.length+1) c').ownBlock.toList++(b1++((Value.slice ar cs.length cs.length).ownBlock.toList++[])))++bp)) g→F g∨w.heap.size≤g:=fun g hg=>by
    have hin:∀g,g∈fb::(vl.ownBlock.toList++(bt1++(bn++bp)))→F g∨w.heap.size≤g:=fun g h=>.inl ((HF3.out g).2 (.inl h));rcases hg with hg | hg
    ·rcases List.mem_cons.1 hg with rfl | hg
     ·exact hin g (List.mem_cons_self ..)
     ·rcases List.mem_append.1 hg with hg | hg
      ·exact hin g (List.mem_cons_of_mem _ (List.mem_append_left _ hg))
      ·rcases List.mem_append.1 hg with hg | hg
       ·exact hin g (List.mem_cons_of_mem _ (List.mem_append_right _ (List.mem_append_left _ hg)))
       ·rcases List.mem_append.1 hg with hg | hg
        ·rcases hsub2 g hg with h | h
         ·exact hin g (List.mem_cons_of_mem _ (List.mem_append_right _ (List.mem_append_right _ (List.mem_append_left _ h))))
         ·exact .inr h
        ·exact hin g (List.mem_cons_of_mem _ (List.mem_append_right _ (List.mem_append_right _ (List.mem_append_right _ hg))))
    ·exact .inl ((HF3.out g).2 (.inr hg))
   have hbu:But F w (W8.setCell ⟨fb,4,none⟩ (Value.slice a' (x.nums.length+1) c')):=((((But.of_below HB2.out)).trans (But.of_below HA1.out)).trans (But.grown HG.out fun r e=>hvF r e)).set (.inl ((HF3.out fb).2 (.inl (List.mem_cons_self ..)))) _
   obtain ⟨F9,hFA9,hF9'⟩:∃F9,FieldAt (W8.setCell ⟨fb,4,none⟩ (Value.slice a' (x.nums.length+1) c')) B fb k sv { x with nums:=x.nums++[numF cs] } F9∧∀g,F9 g→F g∨w.heap.size≤g:=⟨_,⟨bm,n,D,bt,Di,rv,vl,vt,_,vp,bt1,_,bp,HUP,HN2.out,fun g=>Iff.rfl⟩,hF9⟩
   have hx9:T.At bare (W8.setCell ⟨fb,4,none⟩ (Value.slice a' (x.nums.length+1) c')) (fun g=>g<(W8.setCell ⟨fb,4,none⟩ (Value.slice a' (x.nums.length+1) c')).heap.size∧¬F9 g) (cellsT cs) (.slice A cs.length cap):=At.keep (fun p hp=>hbu.cell hp.1 hp.2) (fun g hg=>⟨Nat.lt_of_lt_of_le hg.1 hbu.size,fun h=>(hF9' g h).elim hg.2 (fun h=>by omega)⟩) HX.out;have HPT:=hX (point_any (W8.setCell ⟨fb,4,none⟩ (Value.slice a' (x.nums.length+1) c')) B fb k sv (.slice A cs.length cap) { x with nums:=x.nums++[numF cs] } F9 d cs hFA9 hL (Nat.le_trans hB hbu.size) hx9 hcs HNUM.out);have HBU:=hX hbu;have HF9:=hX hF9';clear hbu hF9' hx9 hFA9 hF9 HUP hn hsub hsub2 HR hlen HCR p4 z4;go_wp2_with fail;refine HPT.out.mono ?_;rintro e W10 hret;have HRET:=hX (FieldRet.step (x:=x) (x1:=x) HBU.out HF9.out hret);obtain ⟨rfl,_⟩:=hret;go_wp2_with fail;go_end0;exact HRET.out
end Go.Proofs.YtigfcihakghddaaGreatDoor.BufT
