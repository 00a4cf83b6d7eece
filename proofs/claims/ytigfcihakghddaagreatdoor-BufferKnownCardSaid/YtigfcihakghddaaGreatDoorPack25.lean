/- Lemmas that the last text leans on. -/
import Derived.Test.YtigfcihakghddaaGreatDoorBufI
import Derived.Test.YtigfcihakghddaaGreatDoorPack11
import Derived.Test.YtigfcihakghddaaGreatDoorPack12
import Derived.Test.YtigfcihakghddaaGreatDoorPack24
import Derived.Test.YtigfcihakghddaaGreatDoorTake
import Derived.Test.YtigfcihakghddaaGreatDoorPack4
import Derived.Deep.LoopGhost
import Derived.Deep.RegionHeld3
import Derived.Deep.QuietTactic
import Derived.LoopTactic
set_option linter.all false
set_option maxRecDepth 100000
set_option maxHeartbeats 4000000
section
namespace Go.Proofs.YtigfcihakghddaaGreatDoor.BufT
open Go Go.RowKit Words Tree Owned MapV BufP Sch SchP AnaP Kit
theorem infoP:(Tryz.prog.info? 55).map (fun i=>(i.zero,i.size,i.bytes))=some (some (.agg #[.int .i64 0,.slice none 0 0]),2,32):=by kernel_rfl
theorem ptsF_step (d:Int) (cs:List CT) {i:Nat} (h:i<cs.length):ptsF d (cs.take (i+1))=ptsF d (cs.take i)++[(d,cs[i].nums)]:=by
 unfold ptsF;rw[List.take_succ_eq_append_getElem h,List.map_append];rfl
theorem ClipRow.from_ {w:World} {B B':Nat} {e:TypeId} {v:Value} {xs:List Value} (h:ClipRow w B e v xs) (hB:B'≤B):ClipRow w B' e v xs:=h.elim .inl fun ⟨g,cap,cur,h1,h2,h3⟩=>.inr ⟨g,cap,cur,h1,Nat.le_trans hB h2,h3⟩
theorem cell_at {w wr:World} {F:Nat→Prop} {A:Option Addr} {n cap:Nat} {cs:List CT} (hx:T.At bare w (fun g=>g<w.heap.size∧¬F g) (cellsT cs) (.slice A n cap)) (hb:But F w wr) {i:Nat} (hi:i<cs.length) :
 ∃ad A3 c3,A=some ad∧wr.cell? (ad.add (i*3))=some (.int .i64 cs[i].field)∧wr.cell? ⟨(ad.add (i*3)).block,(ad.add (i*3)).off+1,none⟩=some (.string cs[i].text)∧wr.cell? ⟨(ad.add (i*3)).block,(ad.add (i*3)).off+2,none⟩=some (.slice A3 cs[i].nums.length c3)∧
  (ad.add (i*3)).block<wr.heap.size∧T.At bare wr (fun g=>g<w.heap.size∧¬F g) (numsT .i64 cs[i].nums) (.slice A3 cs[i].nums.length c3):=by
 obtain ⟨A',cap',e,_,_,hr⟩:=at_row ccells_len hx;injection e with e1 e2 e3;subst e1 e2 e3;obtain ⟨ad,us,rfl,hs,hu,hl,hc⟩:=hr i hi;simp only[ccells] at hu
 match us,hu with
 | [u0,u1,u2],hu=>
  simp only[T.AtL,T.At,and_true] at hu;obtain ⟨rfl,rfl,hn⟩:=hu;have hn2:T.At bare w (fun g=>g<w.heap.size∧¬F g) (numsT .i64 cs[i].nums) u2:=hn;have hn3:=At.keep (S':=fun g=>g<w.heap.size) (fun _ _=>rfl) (fun g hg=>hg.1) hn2;obtain ⟨A3,c3,rfl,_,_,_⟩:=at_nums hn3;have hk:∀p:Addr,p.block=ad.block→wr.cell? p=w.cell? p:=fun p hp=>hb.cell (by rw[hp];exact hs.1) (by rw[hp];exact hs.2);have hlt:ad.block<wr.heap.size:=Nat.lt_of_lt_of_le hs.1 hb.size;exact ⟨ad,A3,c3,rfl,(hk _ (by rw[block_of_add])).trans hc.zero,(hk _ (by show (ad.add (i*3)).block=_;rw[block_of_add])).trans (hc.at_ 1 _ rfl (by omega)),(hk _ (by show (ad.add (i*3)).block=_;rw[block_of_add])).trans (hc.at_ 2 _ rfl (by omega)),by rw[block_of_add];exact hlt,At.keep (fun p hp=>hb.cell hp.1 hp.2) (fun g hg=>hg) hn2⟩
theorem point_any (w:World) (B fb k:Nat) (sv cv:Value) (x:FD) (F:Nat→Prop) (d:Int) (cs:List CT) (h:FieldAt w B fb k sv x F) (hL:x.pts.length≤1099511627) (hB:B≤w.heap.size)
 (hx:T.At bare w (fun g=>g<w.heap.size∧¬F g) (cellsT cs) cv) (hcs:cs.length≤1048576) (hnum:∀c∈cs,c.nums.length*8≤140737488351232) :
 Calls Tryz.prog 75 #[.pointer (some ⟨fb,0,none⟩),.int .i64 d,cv] w (FieldRet w B fb k sv { x with pts:=x.pts++ptsF d cs } F):=by
 obtain ⟨A,cap,rfl,hcap,_,_⟩:=at_row ccells_len hx;have HX:=hX hx;have HNUM:=hX hnum;have HFW:=hX (fun g (hg:F g)=>(h.lt hg).2);have HFA:Hid (FieldAt w B fb k sv { x with pts:=x.pts++ptsF d (cs.take 0) } F):=hX (by rw[List.take_zero];simpa [ptsF] using h);have HBA:Hid (But F w w):=hX (But.refl _ _);have HSA:Hid (∀g,F g→F g∨w.heap.size≤g):=hX (fun g h=>.inl h);clear h hx hcap hnum;go_enter Tryz.func75,Tryz.ntmps75;go_upto_region 1 with fail;go_loopg [7,10] cs.length (fun m _ v wr=>∃(i:Nat) (Fi:Nat→Prop),v = .int .i64 i∧i≤cs.length∧m=cs.length - i∧Hid (FieldAt wr B fb k sv { x with pts:=x.pts++ptsF d (cs.take i) } Fi)∧Hid (But F w wr)∧Hid (∀g,Fi g→F g∨w.heap.size≤g))
 case atStart=>exact ⟨0,F,rfl,Nat.zero_le _,rfl,HFA,HBA,HSA⟩
 case round=>
  clear HFA HBA HSA;obtain ⟨i,Fi,rfl,hi,rfl,HFI,HBI,HSI⟩:=hrel;by_cases hlt:i<cs.length
  ·obtain ⟨ad,A3,c3,rfl,c0,c1,c2,hrw,hnt⟩:=cell_at HX.out HBI.out hlt;have HNT:=hX hnt;have HNL:=hX (HNUM.out _ (List.getElem_mem hlt));have HST:=hX (ptsF_step d cs hlt);have HLT:Hid (i<cs.length):=hX hlt;have h4:(0:Int)≤(i:Int):=by omega
   have h5:(i:Int)<(cs.length:Int):=by omega
   clear hnt;generalize cs[i]=cc at *;obtain ⟨cf,ct,cn⟩:=cc;dsimp only at *;go_upto_region 3 with fail;have BT:=hX (Blk.new wr 103 #[.int .i64 cf,.string ct,.slice A3 cn.length c3]);have HBQ:=hX ((Below.refl _ wr).alloc (Nat.le_refl _) (.cells #[.int .i64 cf,.string ct,.slice A3 cn.length c3] 103));clear c0 c1 c2 hrw;generalize wr.alloc (.cells #[.int .i64 cf,.string ct,.slice A3 cn.length c3] 103)=W7 at *;have HF7:=hX (HFI.out.keep (w':=W7) (fun g hg=>HBQ.out.block g (HFI.out.lt hg).2));have HB7:Hid (But F w W7):=hX (HBI.out.trans (But.of_below HBQ.out));have HN7:=hX (At.keep (S':=fun g=>g<W7.heap.size) (fun p hp=>HBQ.out.cell (Nat.lt_of_lt_of_le hp.1 HBI.out.size)) (fun g hg=>Nat.lt_of_lt_of_le hg.1 (Nat.le_trans HBI.out.size HBQ.out.size)) HNT.out);have HCL:=hX (fun (V:World) (hV:Below W7.heap.size W7 V)=>clone_own (.slice A3 cn.length c3) cn V (At.below HN7.out hV (fun g hg=>Nat.lt_of_lt_of_le hg hV.size)) HNL.out);obtain ⟨bm,n,D,bt,Di,rv,vl,vt,vn,vp,bt1,bn,bp,h1,h2,h3⟩:=HF7.out;have hc5:W7.cell? ⟨fb,5,none⟩=some vp:=h1.self.cell 5;have hfl:fb<W7.heap.size:=h1.self.lt;have hq2:W7.cell? ⟨wr.heap.size,2,none⟩=some (.slice A3 cn.length c3):=BT.out.cell 2;have hq7:wr.heap.size<W7.heap.size:=BT.out.lt;have hvF:∀g,vp.ownBlock=some g→Fi g:=fun g e=>(h3 g).2 (.inl (List.mem_cons_of_mem _ (List.mem_append_right _ (List.mem_append_right _ (List.mem_append_right _ (h1.pts.own_mem e))))))
   have hfN:¬vp.ownBlock=some fb:=fun e=>(List.nodup_cons.1 h1.nd).1 (List.mem_append_right _ (List.mem_append_right _ (List.mem_append_right _ (h1.pts.own_mem e))));have hqN:¬vp.ownBlock=some wr.heap.size:=fun e=>by have:=(HFI.out.lt (hvF _ e)).2;omega
   have HI1:=hX h1;have HN2:=hX h2;have HF3:=hX h3;have hB7:B≤W7.heap.size:=by have:=HB7.out.size;omega
   obtain ⟨i0,hi1,hz0,hz1,hz2⟩:=info_parts infoP;have HSI0:=hX (And.intro hi1 (And.intro hz0 (And.intro hz1 hz2)));clear h1 h2 h3 HFI HN7 hi1 hz0 hz1 hz2 HF7;refine HeldU.wp_region_until #[true,true,true,true,true,true,true,true,true,true,true,true,true,true,false,false,false,false] (fun V=>But (fun g=>vp.ownBlock=some g) W7 V) (by kernel_rfl) (But.of_below ((Below.refl _ _).drew)) (fun hS0=>?_);refine' HeldU.tkU 0 (by simp only[tkD,tkE,tkG];rfl) (by kernel_rfl) (by exact fun _ _ _ h=>h) (by rfl) hS0 (by intro V hSw;clear hSw;go_simp;try with_reducible rfl) ?_;try simp only[Act.put,tkA,tkB,tkC]
   refine' HeldU.tkU 1 (by simp only[tkD,tkE,tkG];rfl) (by kernel_rfl) (by exact fun _ _ _ h=>h) (by rfl) hS0 (by intro V hSw;clear hSw;go_simp;try with_reducible rfl) ?_;try simp only[Act.put,tkA,tkB,tkC]
   refine' HeldU.tkU 2 (by simp only[tkD,tkE,tkG];rfl) (by kernel_rfl) (by exact fun _ _ _ h=>h) (by rfl) hS0 (by intro V hSw;clear hSw;go_simp;try with_reducible rfl) ?_;try simp only[Act.put,tkA,tkB,tkC]
   refine' HeldU.tkU 3 (by simp only[tkD,tkE,tkG];rfl) (by kernel_rfl) (by exact fun _ _ _ h=>h) (by rfl) hS0 (by intro V hSw;clear hSw;go_simp;try with_reducible rfl) ?_;try simp only[Act.put,tkA,tkB,tkC]
   refine' HeldU.tkU 4 (by simp only[tkD,tkE,tkG];rfl) (by kernel_rfl) (by exact fun _ _ _ h=>h) (by rfl) hS0 (by intro V hSw;clear hSw;go_simp;try with_reducible rfl) ?_;try simp only[Act.put,tkA,tkB,tkC]
   refine' HeldU.tkU 5 (by simp only[tkD,tkE,tkG];rfl) (by kernel_rfl) (by exact fun _ _ _ h=>h) (by rfl) hS0 (by intro V hSw;have c5:=(hSw.cell hfl hfN).trans hc5;clear hSw;go_simp;try with_reducible rfl) ?_;try simp only[Act.put,tkA,tkB,tkC]
   refine' HeldU.tkU 6 (by simp only[tkD,tkE,tkG];rfl) (by kernel_rfl) (by exact fun _ _ _ h=>h) (by rfl) hS0 (by intro V hSw;clear hSw;go_simp;try with_reducible rfl) ?_;try simp only[Act.put,tkA,tkB,tkC]
   refine' HeldU.tkU 7 (by simp only[tkD,tkE,tkG];rfl) (by kernel_rfl) (by exact fun _ _ _ h=>h) (by rfl) hS0 (by intro V hSw;clear hSw;go_simp;try with_reducible rfl) ?_;try simp only[Act.put,tkA,tkB,tkC]
   refine' HeldU.tkU 8 (by simp only[tkD,tkE,tkG];rfl) (by kernel_rfl) (by exact fun _ _ _ h=>h) (by rfl) hS0 (by intro V hSw;have q2:=(hSw.cell hq7 hqN).trans hq2;clear hSw;go_simp;try with_reducible rfl) ?_;try simp only[Act.put,tkA,tkB,tkC]
   refine' HeldU.wpAnyU_one (i:=9) (by kernel_rfl) (by kernel_rfl) (by simp only[tkD,tkE,tkG];rfl) (fun K hK=>?_);go_simp;refine (HCL.out _ ((Below.refl _ _).drew)).mono ?_;rintro e V1 ⟨v9,rfl,hn9,hb⟩;have B1:=hX (But.trans hS0 (But.of_below hb));obtain ⟨a9,c9,rfl⟩:=own_sl hn9.own;have HN9:=hX hn9;have HC9:=hX (ClipRow.clip (ClipRow.of_own (xs:=intCells cn) (by have:=HN9.out.own;simpa [intCells] using this)));have hle9:cn.length≤c9:=HC9.out.2.1;have HBL:Hid (Below W7.heap.size W7 V1):=hX (((Below.refl W7.heap.size W7).drew).trans (hb.mono (Nat.le_refl _)));clear hn9 hb;go_simp;refine hK.out _ _ B1.out (fun hS1=>?_);clear hK K;try simp only[Act.put,tkA,tkB,tkC]
   refine' HeldU.wpAnyU_one (i:=10) (by kernel_rfl) (by kernel_rfl) (by simp only[tkD,tkE,tkG];rfl) (fun K hK=>?_);go_simp;refine (clip_i64 a9 cn.length c9 _ hle9).mono ?_;rintro e V2 ⟨rfl,rfl⟩;have B2:=hX (But.trans hS1 (But.refl _ _));go_simp;refine hK.out _ _ B2.out (fun hS2=>?_);clear hK K;try simp only[Act.put,tkA,tkB,tkC]
   refine' HeldU.tkU 11 (by simp only[tkD,tkE,tkG];rfl) (by kernel_rfl) (by exact fun _ _ _ h=>h) (by rfl) hS2 (by intro V hSw;clear hSw;go_simp;try with_reducible rfl) ?_;try simp only[Act.put,tkA,tkB,tkC]
   refine' HeldU.wpAnyU_one (i:=12) (by kernel_rfl) (by kernel_rfl) (by simp only[tkD,tkE,tkG];rfl) (fun K hK=>?_);go_simp;have hA1:Below W7.heap.size W7 (V2.alloc (.cells #[.int .i64 d,.slice a9 cn.length cn.length] 55)):=HBL.out.alloc HBL.out.size _;refine hK.out _ _ ((hS2).alloc _) (fun hS3=>?_);clear hK K;try simp only[Act.put,tkA,tkB,tkC]
   refine' HeldU.wpAnyU_one (i:=13) (by kernel_rfl) (by kernel_rfl) (by simp only[tkD,tkE,tkG];rfl) (fun K hK=>?_);obtain ⟨hi1,hz0,hz1,hz2⟩:=HSI0.out;obtain ⟨vs,b1,hrow,hvl,hbs,hmore⟩:=HI1.out.pts.more (by decide);have hownA:=own_below hrow hA1;have hpl:(x.pts++ptsF d (cs.take i)).length≤1100560203:=by rw[List.length_append];simp only[ptsF,List.length_map,List.length_take];omega
   have HMORE:=hX hmore;have HBS:=hX hbs;have HA1:=hX hA1;refine step_append_any _ rfl (.tmp 19) (.tmp 26) 51 rfl B 55 i0 (.agg #[.int .i64 0,.slice none 0 0]) 2 32 Tryz.underlying51 hi1 hz0 hz1 hz2 rfl (by decide) _ _ _ rfl hownA (V2.heap.size+1) (some ⟨V2.heap.size,0,none⟩) 1 1 [.int .i64 d,.slice a9 cn.length cn.length] rfl ?e1 ?e2 ?e3 ?e4 ?e5 ?_;case e1=>exact ⟨rfl,fun _=>⟨_,rfl,Nat.lt_succ_self _,World.news_of_block (Blk.new V2 _ _)⟩⟩
   case e2=>intro u hu;simp only[List.mem_cons,List.not_mem_nil,or_false] at hu;rcases hu with rfl | rfl <;> rfl
   case e3=>exact Nat.le_trans (Nat.add_le_add_right hpl 1) (by unfold maxLen;omega)
   case e4=>exact Nat.le_trans (Nat.mul_le_mul_right 32 (Nat.add_le_add_right hpl 1)) (by omega)
   case e5=>exact Nat.le_trans hB7 hA1.size
   intro v' W8 ho hg hat;obtain ⟨a',c',rfl⟩:=own_sl ho;replace hg:(V2.alloc (.cells #[.int .i64 d,.slice a9 cn.length cn.length] 55)).grownBy W8 vp.ownBlock:=hg;have HO:=hX ho;have HG:=hX hg;have HAT:=hX hat;refine hK.out _ _ ((hS3).trans (But.grown hg fun r e=>e)) (fun hS13=>?_);clear hK K ho hg hat hA1 hmore hbs hownA hrow;try simp only[Act.put,tkA,tkB,tkC]
   refine HeldU.wpAnyU_off (by kernel_rfl) ?_;refine' tk 14 (by simp only[tkD,tkE,tkG];rfl) (by kernel_rfl) (by exact fun _ _ _ h=>h) (by rfl) trivial (by intro V hSw;clear hSw;go_simp;try with_reducible rfl) ?_;try simp only[Act.put,tkA,tkB,tkC]
   refine' tk 15 (by simp only[tkD,tkE,tkG];rfl) (by kernel_rfl) (by exact fun _ _ _ h=>h) (by rfl) trivial (by intro V hSw;clear hSw;go_simp;try with_reducible rfl) ?_;try simp only[Act.put,tkA,tkB,tkC]
   refine' tk 16 (by simp only[tkD,tkE,tkG];rfl) (by kernel_rfl) (by exact fun _ _ _ h=>h) (by rfl) trivial (by intro V hSw;clear hSw;go_simp;try with_reducible rfl) ?_;try simp only[Act.put,tkA,tkB,tkC]
   have hgw:W7.grownBy W8 vp.ownBlock:=(only_of_below HA1.out vp.ownBlock).trans HG.out;have hb2:=HI1.out.self.grown hgw (fun e=>hfN e.symm);have p5:W8.cell? ⟨fb,5,none⟩=some vp:=hb2.cell 5;have z5:W8.frozen? ⟨fb,5,none⟩=false:=hb2.frozen 5;have HGW:=hX hgw;clear hgw hb2;refine wpAnyH_ready (rs:=[17]) (by kernel_rfl) (by simp) ?_;refine' AllReadyH.cons (by simp only[tkD,tkE,tkG];rfl) (fun K hK=>?_) AllReadyH.nil;go_simp;refine hK.out _ _ trivial (fun _=>?_);clear hK K;try simp only[Act.put,tkA,tkB,tkC]
   refine wpAnyH_done (by kernel_rfl) ?_ _;have HAT2:Hid ((Value.slice a' ((x.pts++ptsF d (cs.take i)).length+1) c').ownBlock=vp.ownBlock∨∃g,(Value.slice a' ((x.pts++ptsF d (cs.take i)).length+1) c').ownBlock=some g∧V2.heap.size≤g):=hX (HAT.out.imp id fun e=>⟨_,e,by simp⟩);have hvlt:∀g,vp.ownBlock=some g→g<W7.heap.size:=fun g e=>(HI1.out.pts.mem g (HI1.out.pts.own_mem e)).2;have hflt:∀g,FootF fb bm { x with pts:=x.pts++ptsF d (cs.take i) } bt rv vl (bt1++(bn++bp)) g→g<W7.heap.size:=fun g hg=>hg.elim (fun h=>(HI1.out.ltL h).2) (fun h=>HI1.out.terms.bound h);have h9:∀g,(Value.slice a9 cn.length cn.length).ownBlock=some g→W7.heap.size≤g∧g<V2.heap.size:=fun g e=>HC9.out.2.2.lt e;have HCR:ClipRow W8 B 2 (.slice a9 cn.length cn.length) (intCells cn):=(HC9.out.2.2.from_ hB7).stay fun g e=>(HG.out.block g (by have:=(h9 g e).2;simp;omega) (fun e2=>by have:=hvlt g e2.symm;have:=(h9 g e).1;omega)).trans (Below.heap_alloc _ _ g (h9 g e).2);have hlen:((x.pts++ptsF d (cs.take i))++[(d,cn)]).length=(x.pts++ptsF d (cs.take i)).length+1:=by rw[List.length_append];rfl
   have HR:=HMORE.out W8 (Value.slice a' ((x.pts++ptsF d (cs.take i)).length+1) c') [(d,cn)] [.slice a9 cn.length cn.length] ((Value.slice a9 cn.length cn.length).ownBlock.toList++[]) HGW.out (Eq.mpr (congrArg (fun m=>W8.ownsRow B 55 2 (Value.slice a' ((x.pts++ptsF d (cs.take i)).length+1) c') m _) hlen) HO.out) (.cons HCR .nil);have hbp:=HBS.out
   have hsub2:∀g∈(Value.slice a' ((x.pts++ptsF d (cs.take i)).length+1) c').ownBlock.toList++(b1++((Value.slice a9 cn.length cn.length).ownBlock.toList++[])),g∈bp∨W7.heap.size≤g:=fun g hg=>by
    rcases List.mem_append.1 hg with hg | hg
    ·rcases HAT2.out with e | ⟨g',e,hge⟩
     ·rw[e] at hg;exact .inl (by rw[hbp];exact List.mem_append_left _ hg)
     ·rw[mem_own,e] at hg;obtain rfl:=Option.some.inj hg;exact .inr (Nat.le_trans HBL.out.size hge)
    ·rcases List.mem_append.1 hg with hg | hg
     ·exact .inl (by rw[hbp];exact List.mem_append_right _ hg)
     ·rw[List.append_nil,mem_own] at hg;exact .inr (h9 g hg).1
   have hsub:∀g∈(Value.slice a' ((x.pts++ptsF d (cs.take i)).length+1) c').ownBlock.toList++(b1++((Value.slice a9 cn.length cn.length).ownBlock.toList++[])),g∈bp∨¬FootF fb bm { x with pts:=x.pts++ptsF d (cs.take i) } bt rv vl (bt1++(bn++bp)) g:=fun g hg=>(hsub2 g hg).imp id fun h hf=>by have:=hflt g hf;omega
   have hn:((Value.slice a' ((x.pts++ptsF d (cs.take i)).length+1) c').ownBlock.toList++(b1++((Value.slice a9 cn.length cn.length).ownBlock.toList++[]))).Nodup:=by
    rw[List.nodup_iff_count];intro g;rw[List.append_nil,List.count_append,List.count_append];have hbn:bp.Nodup:=(List.nodup_append.1 (List.nodup_append.1 (List.nodup_append.1 (List.nodup_cons.1 HI1.out.nd).2).2.1).2.1).2.1;have c1:=List.nodup_iff_count.1 hbn g;rw[hbp,List.count_append] at c1;have c2:(Value.slice a9 cn.length cn.length).ownBlock.toList.count g≤1:=by cases (Value.slice a9 cn.length cn.length).ownBlock <;> simp[List.count_cons];split <;> omega
    have c3:(Value.slice a' ((x.pts++ptsF d (cs.take i)).length+1) c').ownBlock.toList.count g≤1:=by cases (Value.slice a' ((x.pts++ptsF d (cs.take i)).length+1) c').ownBlock <;> simp[List.count_cons];split <;> omega
    have hb1:0<b1.count g→g<W7.heap.size:=fun hp=>(HI1.out.pts.mem g (by rw[hbp];exact List.mem_append_right _ (List.count_pos_iff.1 hp))).2;have h9c:0<(Value.slice a9 cn.length cn.length).ownBlock.toList.count g→W7.heap.size≤g∧g<V2.heap.size:=fun hp=>h9 g (mem_own.1 (List.count_pos_iff.1 hp));have hvc:0<vp.ownBlock.toList.count g→g<W7.heap.size:=fun hp=>hvlt g (mem_own.1 (List.count_pos_iff.1 hp))
    rcases HAT2.out with e | ⟨g',e,hge⟩
    ·rw[e];rcases Nat.eq_zero_or_pos ((Value.slice a9 cn.length cn.length).ownBlock.toList.count g) with h0 | h0
     ·omega
     ·have:=h9c h0;rcases Nat.eq_zero_or_pos (b1.count g) with h1 | h1
      ·rcases Nat.eq_zero_or_pos (vp.ownBlock.toList.count g) with h2 | h2
       ·omega
       ·have:=hvc h2;omega
      ·have:=hb1 h1;omega
    ·have hs:0<(Value.slice a' ((x.pts++ptsF d (cs.take i)).length+1) c').ownBlock.toList.count g→V2.heap.size≤g:=fun hp=>by
      have:=mem_own.1 (List.count_pos_iff.1 hp);rw[e] at this;obtain rfl:=Option.some.inj this;exact hge
     have hbl:=HBL.out.size;rcases Nat.eq_zero_or_pos ((Value.slice a' ((x.pts++ptsF d (cs.take i)).length+1) c').ownBlock.toList.count g) with h0 | h0
     ·rcases Nat.eq_zero_or_pos ((Value.slice a9 cn.length cn.length).ownBlock.toList.count g) with h1 | h1
      ·omega
      ·have:=h9c h1;rcases Nat.eq_zero_or_pos (b1.count g) with h2 | h2
       ·omega
       ·have:=hb1 h2;omega
     ·have:=hs h0;rcases Nat.eq_zero_or_pos (b1.count g) with h1 | h1
      ·rcases Nat.eq_zero_or_pos ((Value.slice a9 cn.length cn.length).ownBlock.toList.count g) with h2 | h2
       ·omega
       ·have:=h9c h2;omega
      ·have:=hb1 h1;omega
   have HUP:=hX (HI1.out.ptsUp HGW.out HR hsub hn);have HSUB:=hX hsub2;have hbu:But Fi W7 (W8.setCell ⟨fb,5,none⟩ (Value.slice a' ((x.pts++ptsF d (cs.take i)).length+1) c')):=((But.of_below HA1.out).trans (But.grown HG.out fun r e=>hvF r e)).set (.inl ((HF3.out fb).2 (.inl (List.mem_cons_self ..)))) _;have HBU:=hX hbu;have HW7:Hid (w.heap.size≤W7.heap.size):=hX HB7.out.size
   have HFE:Hid (∃F9:Nat→Prop,FieldAt (W8.setCell ⟨fb,5,none⟩ (Value.slice a' ((x.pts++ptsF d (cs.take i)).length+1) c')) B fb k sv { x with pts:=x.pts++ptsF d (cs.take (i+1)) } F9∧∀g,F9 g→F g∨w.heap.size≤g):=hX (by
    refine ⟨FootF fb bm { x with pts:=(x.pts++ptsF d (cs.take i))++[(d,cn)] } bt rv vl (bt1++(bn++((Value.slice a' ((x.pts++ptsF d (cs.take i)).length+1) c').ownBlock.toList++(b1++((Value.slice a9 cn.length cn.length).ownBlock.toList++[]))))),?_,fun g hg=>?_⟩
    ·rw[HST.out,←List.append_assoc];exact ⟨bm,n,D,bt,Di,rv,vl,vt,vn,_,bt1,bn,_,HUP.out,HN2.out,fun g=>Iff.rfl⟩
    ·have hin:∀g,g∈fb::(vl.ownBlock.toList++(bt1++(bn++bp)))→F g∨w.heap.size≤g:=fun g h=>HSI.out g ((HF3.out g).2 (.inl h));rcases hg with hg | hg
     ·rcases List.mem_cons.1 hg with rfl | hg
      ·exact hin g (List.mem_cons_self ..)
      ·rcases List.mem_append.1 hg with hg | hg
       ·exact hin g (List.mem_cons_of_mem _ (List.mem_append_left _ hg))
       ·rcases List.mem_append.1 hg with hg | hg
        ·exact hin g (List.mem_cons_of_mem _ (List.mem_append_right _ (List.mem_append_left _ hg)))
        ·rcases List.mem_append.1 hg with hg | hg
         ·exact hin g (List.mem_cons_of_mem _ (List.mem_append_right _ (List.mem_append_right _ (List.mem_append_left _ hg))))
         ·rcases HSUB.out g hg with h | h
          ·exact hin g (List.mem_cons_of_mem _ (List.mem_append_right _ (List.mem_append_right _ (List.mem_append_right _ h))))
          ·exact .inr (Nat.le_trans HW7.out h)
     ·exact HSI.out g ((HF3.out g).2 (.inr hg)))
   clear HR hsub hsub2 hn hlen HCR hbu p5 z5 HUP HSUB;simp only[List.length_append] at HFE HBU;go_wp2_with fail;go_roundg (cs.length - (i+1))
   case measure=>have:=HLT.out;omega
   case rel=>
    obtain ⟨F9,hF9,hS9⟩:=HFE.out;exact ⟨i+1,F9,by go_num,by have:=HLT.out;omega,rfl,hX hF9,hX (HB7.out.more HBU.out (fun g hg=>HSI.out g hg)),hX hS9⟩
  ·obtain rfl:i=cs.length:=by omega
   have HFE:Hid (FieldAt wr B fb k sv { x with pts:=x.pts++ptsF d cs } Fi):=hX (by have:=HFI.out;rwa [List.take_length] at this);clear HFI hlt;go_wp2_with fail;go_end0;exact ⟨rfl,HBI.out,Fi,HFE.out,HSI.out⟩
end Go.Proofs.YtigfcihakghddaaGreatDoor.BufT
end
section
namespace Go.Proofs.YtigfcihakghddaaGreatDoor.Sch
open Go.RowKit Words Tree SchP Kit Owned
theorem find1_any (f:FT) (X:Option Addr) (n z:Nat) (s:ByteArray) (g:Nat) (w:World) (hg:w.cell? ⟨g,0,none⟩=some (.string s)) (hgl:g<w.heap.size) :
 Calls Tryz.prog 98 #[.agg #[.string f.name,.int .i64 f.kind,.slice X n z,.int .i64 f.scale,.int .i64 f.dims,.bool f.many,.bool f.stored],.pointer (some ⟨g,0,none⟩)] w (AnsB (decide (f.name=s)) w):=by
 have hne:g≠w.heap.size:=by omega
 rcases str_cases f.name s with ⟨h1,h2⟩ | ⟨h1,h2⟩
 ·have HD:Hid (decide (f.name=s)=true):=hX (decide_eq_true h1);clear h1;go_enter Tryz.func98,Tryz.ntmps98;go_wp2_with fail;go_ret;rw[HD.out];exact ⟨rfl,(Below.refl _ w).alloc (Nat.le_refl _) _⟩
 ·have HD:Hid (decide (f.name=s)=false):=hX (decide_eq_false h1);clear h1;go_enter Tryz.func98,Tryz.ntmps98;go_wp2_with fail;go_ret;rw[HD.out];exact ⟨rfl,(Below.refl _ w).alloc (Nat.le_refl _) _⟩
theorem indexFunc_any (A:Option Addr) (cap:Nat) (l:List FT) (s:ByteArray) (g:Nat) (w:World) (hu:T.At bare w (fun g=>g<w.heap.size) (fieldsT l) (.slice A l.length cap)) (hl:l.length*72≤140737488351232) (hg:w.cell? ⟨g,0,none⟩=some (.string s)) (hgl:g<w.heap.size) :
 Calls Tryz.prog 97 #[.slice A l.length cap,.func (.func 98) #[] #[.pointer (some ⟨g,0,none⟩)]] w (IntB (findZ l s) w):=by
 obtain ⟨_,_,he,hc,hm,hel⟩:=at_row fcells_len hu;injection he with e1 _ e3;subst e1 e3;have EL:=hX hel;have HG:Hid (∀W,Below w.heap.size w W→W.cell? ⟨g,0,none⟩=some (.string s)):=hX (fun W hW=>(hW.cell (p:=⟨g,0,none⟩) hgl).trans hg);clear hel hu hg
 obtain ⟨r,hr⟩:∃r,findF l s=r:=⟨_,rfl⟩
 have HZ:Hid (findZ l s=zOf r):=hX (by rw[findZ_eq,hr]);have HR:Hid ((findF (l.drop 0) s).map (· + 0)=r):=hX (by rw[←hr];cases h:findF l s <;> simp[h]);clear hr;go_enter Tryz.func97,Tryz.ntmps97;go_wp2_with fail;go_loopw [5,8] (fun _ i wr=>∃k:Nat,k≤l.length∧i = .int .i64 k∧Hid ((findF (l.drop k) s).map (· + k)=r)∧Hid (Below w.heap.size w wr)) (fun _ i _=>l.length - (RowKit.intOf i).toNat);case atStart=>exact ⟨0,by omega,rfl,HR,hX (Below.refl _ _)⟩
 case round=>
  obtain ⟨k,hk,rfl,HE,HB⟩:=hrel;by_cases hlt:k<l.length
  ·obtain ⟨ad,us,rfl,hba,au,lu,cu⟩:=EL.out k hlt;replace cu:=cu.keep (w':=wr) (fun p hp=>HB.out.cell (by rw[hp,block_of_add];exact hba));have HD:=hX (findF_drop (s:=s) hlt);generalize l[k]=f at *;obtain ⟨vc,rfl,gc⟩:=at_fcells au;obtain ⟨X,z,rfl,_,_⟩:=at_slice gc;obtain ⟨a0,a1,a2,a3,a4,a5,a6⟩:=seven cu;clear cu au lu gc;have HC:=hX (fun (W:World) (hW:Below w.heap.size w W)=>find1_any f X f.chain.length z s g W (HG.out W hW) (Nat.lt_of_lt_of_le hgl hW.size));go_wp2_with fail;refine (HC.out wr HB.out).mono ?_;rintro e w2 ⟨rfl,b2⟩;have HB2:=hX (HB.out.trans (b2.mono HB.out.size));clear a0 a1 a2 a3 a4 a5 a6 b2;by_cases h1:f.name=s
   ·have HN:Hid (findZ l s=k):=hX (by rw[HZ.out,←HE.out,HD.out,if_pos h1];simp[zOf]);have hd:decide (f.name=s)=true:=decide_eq_true h1;rw[hd];clear h1 hd;go_wp2_with fail;go_ret;rw[HN.out];exact ⟨rfl,HB2.out⟩
   ·have HE2:Hid ((findF (l.drop (k+1)) s).map (· + (k+1))=r):=hX (by rw[←HE.out,HD.out,if_neg h1,Option.map_map];congr 1;funext x;simp;omega);have hd:decide (f.name=s)=false:=decide_eq_false h1;rw[hd];clear h1 hd;go_wp2_with fail;go_roundw;case rel=>exact ⟨k+1,by omega,by go_num,HE2,HB2⟩
    case measure=>simp[RowKit.intOf];omega
  ·obtain rfl:k=l.length:=by omega
   have HN:Hid (findZ l s = -1):=hX (by rw[HZ.out,←HE.out,List.drop_length];rfl);go_wp2_with fail;go_ret;rw[HN.out];exact ⟨rfl,HB.out⟩
end Go.Proofs.YtigfcihakghddaaGreatDoor.Sch
end
section
namespace Go.Proofs.YtigfcihakghddaaGreatDoor.Sch
open Go.RowKit Words Tree SchP Kit Owned
def FindRet (z:Int) (w:World) (e:Ending) (w':World):Prop:=e = .returned (.tuple #[.int .i64 (max 0 z),.bool (decide (0≤z))])∧Below w.heap.size w w'
theorem find_any (u:Value) (l:List FT) (s:ByteArray) (w:World) (hu:T.At bare w (fun g=>g<w.heap.size) (fieldsT l) u) (hl:l.length*72≤140737488351232) :
 Calls Tryz.prog 57 #[.agg #[u],.string s] w (FindRet (findZ l s) w):=by
 obtain ⟨A,cap,rfl,_,_⟩:=at_slice hu;have HC:=hX (fun (g:Nat) (W:World) (hW:Below w.heap.size w W) (hg:W.cell? ⟨g,0,none⟩=some (.string s)) (hgl:g<W.heap.size)=>indexFunc_any A cap l s g W (At.below hu hW (fun g hg=>Nat.lt_of_lt_of_le hg hW.size)) hl hg hgl);clear hu;go_enter Tryz.func57,Tryz.ntmps57
 obtain ⟨z,hz⟩:∃z,findZ l s=z:=⟨_,rfl⟩
 rw[hz] at HC ⊢
 have hzz : -1≤z∧z≤140737488351232:=by
  rw[←hz,findZ_eq]
  cases h:findF l s with
  | none=>simp[zOf]
  | some i=>obtain ⟨h1,_⟩:=findF_some h;simp only[zOf];omega
 clear hz;go_wp2_with fail;refine (HC.out _ _ (below2 _ _) ((blk_b w #[.slice A l.length cap] #[.string s] 24 9).cell 0) (by simp)).mono ?_;rintro e w1 ⟨rfl,hb⟩;have HB:=hX ((below2 _ _).trans (hb.mono (by simp;omega)):Below w.heap.size w w1);clear hb;rcases (show z = -1∨z=0∨0<z by omega) with rfl | rfl | h0
 ·go_wp2_with fail;go_ret2;exact ⟨rfl,HB.out⟩
 ·go_wp2_with fail;go_ret2;exact ⟨rfl,HB.out⟩
 ·have hd:decide ((0:Int)≤z)=true:=decide_eq_true (by omega);have hm:max (0:Int) z=z:=by omega
  have hd2:decide ((0:Int)<z)=true:=decide_eq_true h0;have hd3:decide (z<0)=false:=by rw[decide_eq_false_iff_not];omega
  have HQ:=hX (And.intro hm hd);clear hm hd;have hd:decide ((0:Int)≤z)=true:=HQ.out.2;go_wp2_with fail;go_ret2;exact ⟨by rw[HQ.out.1,HQ.out.2];rfl,HB.out⟩
end Go.Proofs.YtigfcihakghddaaGreatDoor.Sch
end
