/- Lemmas that the last text leans on. -/
import Derived.Test.YtplkbdncgkgppaaGreatDoorPack11
import Derived.Deep.RegionHeld3
import Derived.Test.YtplkbdncgkgppaaGreatDoorTake
set_option linter.all false
namespace Go.Proofs.YtplkbdncgkgppaaGreatDoor.Qry
open Go.RowKit Words Tree QryP Kit Sch SchP Owned
theorem zvi:(Tryz.prog.info? 28).map (fun i=>(i.zero,i.size,i.bytes))=some (some (.agg zax),10,152):=by kernel_rfl
theorem Fr.parts {s:ByteArray} {gp gq above j:Nat} {w0 w:World} {k o b op:Int} {f t u:ByteArray} {lo hi:List Int} {ks:List QT} {bs:List Nat} {vl vh vk:Value}
 (h:Fr s gp w0 gq above j (.mk k o f t u lo hi b op ks) [.int .i64 k,.int .i64 o,.string f,.string t,.string u,vl,vh,.int .i64 b,.int .i64 op,vk] bs w) :
 ∃xs bk,ze1 w (gq+1) vl lo∧ze1 w (gq+1) vh hi∧w.ownsRow (gq+1) 28 10 vk ks.length xs∧OQL w (gq+1) ks xs bk∧bs=vl.ownBlock.toList++(vh.ownBlock.toList++(vk.ownBlock.toList++bk)):=by
 have h1:=h.oq;rw[OQ] at h1;obtain ⟨vl',vh',vk',xs,bk,e,h1,h2,h3,h4,rfl⟩:=h1;simp only[List.cons.injEq,true_and,and_true] at e;obtain ⟨rfl,rfl,rfl⟩:=e;exact ⟨xs,bk,h1,h2,h3,h4,rfl⟩
theorem zvj {w:World} {z:Nat} {t:TypeId} {cs:List Value} {m n:Nat} (h:Blk w z t cs.toArray) (hl:cs.length=n*m):Reads w (z+1) m (some ⟨z,0,none⟩) n cs:=
 ⟨hl,fun _=>⟨_,rfl,Nat.lt_succ_self _,World.news_of_block h⟩⟩
def zk9:List Value:=[.int .i64 0,.int .i64 0,.string ⟨#[]⟩,.string ⟨#[]⟩,.string ⟨#[]⟩,.slice none 0 0,.slice none 0 0,.int .i64 0,.int .i64 0,.slice none 0 0]
theorem OQ.shape {w:World} {B:Nat} {k o b op:Int} {f t u:ByteArray} {lo hi:List Int} {ks:List QT} {us:List Value} {bs:List Nat} (h1:OQ w B (.mk k o f t u lo hi b op ks) us bs) :
 ∃(cl ch ck:Nat) (al ah ak:Option Addr),us=[.int .i64 k,.int .i64 o,.string f,.string t,.string u,.slice al lo.length cl,.slice ah hi.length ch,.int .i64 b,.int .i64 op,.slice ak ks.length ck]:=by
 rw[OQ] at h1;obtain ⟨vl,vh,vk,xs,bk,rfl,h1,h2,h3,h4,rfl⟩:=h1;obtain ⟨al,cl,rfl⟩:=zav h1;obtain ⟨ah,ch,rfl⟩:=zav h2
 have h3':∃ak ck,vk = .slice ak ks.length ck:=by
  rcases h3.2 with ⟨rfl,h0⟩ | ⟨g,cap,cur,hv,_⟩
  ·exact ⟨none,0,by rw[h0]⟩
  ·exact ⟨_,_,hv⟩
 obtain ⟨ak,ck,rfl⟩:=h3';exact ⟨cl,ch,ck,al,ah,ak,rfl⟩
theorem zyw {s:ByteArray} {gp gq above j:Nat} {w0 V V3:World} {k o b op:Int} {f t u:ByteArray} {lo hi:List Int} {ks:List QT} {bs b1 bk:List Nat} {vl vh vk v':Value} {xs us':List Value} {q':QT}
 (h:Fr s gp w0 gq above j (.mk k o f t u lo hi b op ks) [.int .i64 k,.int .i64 o,.string f,.string t,.string u,vl,vh,.int .i64 b,.int .i64 op,vk] bs V)
 (h1:ze1 V (gq+1) vl lo) (h2:ze1 V (gq+1) vh hi) (h3:V.ownsRow (gq+1) 28 10 vk ks.length xs) (h4:OQL V (gq+1) ks xs bk) (hbs:bs=vl.ownBlock.toList++(vh.ownBlock.toList++(vk.ownBlock.toList++bk)))
 (hq:OQ V (gq+1) q' us' b1) (hn1:b1.Nodup) (hd:∀g∈b1,g∉bs)
 (ha:V3.ownsRow (gq+1) 28 10 v' (ks.length+1) (xs++zk9)) (hg:V.grownBy V3 vk.ownBlock) (hat:v'.ownBlock=vk.ownBlock∨v'.ownBlock=some V.heap.size) :
 ∃g3 cap3,v' = .slice (some ⟨g3,0,none⟩) (ks.length+1) cap3∧(ks.length+1≤cap3)∧(vl.ownBlock.toList++(vh.ownBlock.toList++(g3::(bk++b1)))).Nodup∧KF s gp w0 gq above j lo hi ks vl vh xs bk q' us' b1 g3 cap3 [.int .i64 k,.int .i64 o,.string f,.string t,.string u,vl,vh,.int .i64 b,.int .i64 op,vk] zk9 V3:=by
 have hnd:=h.nd;subst hbs;obtain ⟨hal,ha2⟩:=ha
 have ha0:V3.ownsRow (gq+1) 28 10 v' (ks.length+1) (xs++zk9):=⟨hal,ha2⟩
 rcases ha2 with ⟨_,h0⟩ | ⟨g3,cap3,cur,rfl,hB3,hc3,hle,_⟩
 ·omega
 replace hat:vk.ownBlock=some g3∨g3=V.heap.size:=by
  rcases hat with e | e
  ·exact .inl e.symm
  ·injection e with e;exact .inr e
 have hlt:∀g∈vl.ownBlock.toList++(vh.ownBlock.toList++(vk.ownBlock.toList++bk)),g<V.heap.size:=h.lt;have hlt1:∀g∈b1,g<V.heap.size:=fun g hm=>(hq.mem g hm).2;obtain ⟨n1,n2,n3⟩:=List.nodup_append.1 hnd;obtain ⟨n4,n5,n6⟩:=List.nodup_append.1 n2;obtain ⟨n7,n8,n9⟩:=List.nodup_append.1 n5
 have g3l:vl.ownBlock≠some g3:=fun e=>by
  have hm:=zat.2 e;rcases hat with e2 | rfl
  ·exact n3 g3 hm g3 (by simp[e2]) rfl
  ·exact Nat.lt_irrefl _ (hlt _ (by simp[e]))
 have g3h:vh.ownBlock≠some g3:=fun e=>by
  have hm:=zat.2 e;rcases hat with e2 | rfl
  ·exact n6 g3 hm g3 (by simp[e2]) rfl
  ·exact Nat.lt_irrefl _ (hlt _ (by simp[e]))
 have g3k:g3∉bk:=fun hm=>by
  rcases hat with e2 | rfl
  ·exact n9 g3 (zat.2 e2) g3 hm rfl
  ·exact Nat.lt_irrefl _ (hlt _ (by simp[hm]))
 have g31:g3∉b1:=fun hm=>by
  rcases hat with e2 | rfl
  ·exact hd g3 hm (by simp[e2])
  ·exact Nat.lt_irrefl _ (hlt1 _ hm)
 have hp:=h.hp;have hq0:=h.hq;have hvk:∀g,vk.ownBlock=some g→gq+1≤g:=fun g e=>(World.ownsRow.lt h3 g e).1;have far:∀g,g≤gq→some g≠vk.ownBlock:=fun g hle e=>by have:=hvk g e.symm;omega
 have keepL:∀g,vk.ownBlock=some g→g∉bk:=fun g e hm=>n9 g (zat.2 e) g hm rfl
 refine ⟨g3,cap3,rfl,hle,?_,⟨⟨h.pa.blk.grown hg (far gp (by omega)),h.pa.le⟩,⟨hg.os.trans h.grown.os,hg.tape.trans h.grown.tape,hg.output.trans h.grown.output,Nat.le_trans h.grown.size hg.size,fun i hi hne=>(hg.block i (Nat.lt_of_lt_of_le hi h.grown.size) (far i (by omega))).trans (h.grown.block i hi hne)⟩,
  h.bp.grown hg (far _ (by omega)),h.ba.grown hg (far _ (by omega)),h.br.grown hg (far _ (by omega)),h.bq.grown hg (far _ (by omega)),
  za8 h1 fun g e=>hg.block g (World.ownsRow.lt h1 g e).2 fun e2=>n3 g (zat.2 e) g (by simp[←e2]) rfl,
  za8 h2 fun g e=>hg.block g (World.ownsRow.lt h2 g e).2 fun e2=>n6 g (zat.2 e) g (by simp[←e2]) rfl,
  ha0,h4.keep fun g hm=>hg.block g (h4.mem g hm).2 fun e2=>keepL g e2.symm hm,hq.keep fun g hm=>hg.block g (hlt1 g hm) fun e2=>hd g hm (by simp[←e2]),h.hq,h.hp,g3l,g3h,g3k,g31⟩⟩
 rw[List.nodup_append];refine ⟨n1,?_,fun a ha' c hc e=>?_⟩
 ·rw[List.nodup_append];refine ⟨n4,?_,fun a ha' c hc e=>?_⟩
  ·rw[List.nodup_cons,List.nodup_append];refine ⟨?_,n8,hn1,fun a ha' c hc e=>?_⟩
   ·rw[List.mem_append];rintro (hm | hm)
    ·exact g3k hm
    ·exact g31 hm
   ·subst e;exact hd a hc (by simp[ha'])
  ·subst e;rcases List.mem_cons.1 hc with rfl | hc
   ·exact g3h (zat.1 ha')
   ·rcases List.mem_append.1 hc with hc | hc
    ·exact n6 a ha' a (by simp[hc]) rfl
    ·exact hd a hc (by simp[ha'])
 ·subst e;rcases List.mem_append.1 hc with hc | hc
  ·exact n3 a ha' a (by simp[hc]) rfl
  ·rcases List.mem_cons.1 hc with rfl | hc
   ·exact g3l (zat.1 ha')
   ·rcases List.mem_append.1 hc with hc | hc
    ·exact n3 a ha' a (by simp[hc]) rfl
    ·exact hd a hc (by simp[ha'])
section
variable {s:ByteArray} {gp gq above j g3 cap3:Nat} {w0 W:World} {lo hi:List Int} {ks:List QT} {vl vh:Value} {xs us' us els:List Value} {bk b1:List Nat} {q':QT}
theorem KF.cell (h:KF s gp w0 gq above j lo hi ks vl vh xs bk q' us' b1 g3 cap3 us els W) (i:Nat) (m:Nat) (hm:m=ks.length*10+i) (u:Value) (hi:els[i]?=some u):W.cell? ⟨g3,m,none⟩=some u∧W.frozen? ⟨g3,m,none⟩=false:=by
 have hl:=OQL.len h.ol;have hk:=h.rk;have hlen:=hk.1
 rcases hk.2 with ⟨h0,_⟩ | ⟨g',cap',cur,hv,hB,hg,hc,_,hs,ht⟩
 ·cases h0
 ·injection hv with e1 e2 e3;injection e1 with e1;injection e1 with e1;subst e1;refine ⟨?_,Blk.frozen (cs:=cur) hg m⟩;rw[Blk.cell (cs:=cur) hg m,←Array.getElem?_toList];have hi10:=(List.getElem?_eq_some_iff.1 hi).1;rw[List.length_append] at hlen;have h1:(cur.toList.take ((ks.length+1)*10))[m]?=some u:=by rw[ht,hm,←hl,List.getElem?_append_right (by omega),Nat.add_sub_cancel_left];exact hi
  rw[List.getElem?_take_of_lt (by omega)] at h1;exact h1
theorem KF.ten (h:KF s gp w0 gq above j lo hi ks vl vh xs bk q' us' b1 g3 cap3 us zk9 W) (v0 v1 v2 v3 v4 v5 v6 v7 v8 v9:Value):KF s gp w0 gq above j lo hi ks vl vh xs bk q' us' b1 g3 cap3 us [v0,v1,v2,v3,v4,v5,v6,v7,v8,v9] ((((((((((W.setCell ⟨g3,ks.length*10,none⟩ v0).setCell ⟨g3,ks.length*10+1,none⟩ v1).setCell ⟨g3,ks.length*10+2,none⟩ v2).setCell ⟨g3,ks.length*10+3,none⟩ v3).setCell ⟨g3,ks.length*10+4,none⟩ v4).setCell ⟨g3,ks.length*10+5,none⟩ v5).setCell ⟨g3,ks.length*10+6,none⟩ v6).setCell ⟨g3,ks.length*10+7,none⟩ v7).setCell ⟨g3,ks.length*10+8,none⟩ v8).setCell ⟨g3,ks.length*10+9,none⟩ v9):=by
 have h0:=h.el 0 (ks.length*10) rfl v0;have h1:=h0.el 1 (ks.length*10+1) rfl v1;have h2:=h1.el 2 (ks.length*10+2) rfl v2;have h3:=h2.el 3 (ks.length*10+3) rfl v3;have h4:=h3.el 4 (ks.length*10+4) rfl v4;have h5:=h4.el 5 (ks.length*10+5) rfl v5;have h6:=h5.el 6 (ks.length*10+6) rfl v6;have h7:=h6.el 7 (ks.length*10+7) rfl v7;have h8:=h7.el 8 (ks.length*10+8) rfl v8;have h9:=h8.el 9 (ks.length*10+9) rfl v9;exact h9
end
set_option maxRecDepth 100000 in
set_option maxHeartbeats 16000000 in
theorem zp8 (B:Nat) (s:ByteArray) (gp:Nat) (w0:World) (gq above j:Nat) (q:QT) (us:List Value) (bs:List Nat) (w:World) (h:Fr s gp w0 gq above j q us bs w) (hs:s.size≤4096) (hB:B≤gp) (hT:PT B w) (ha:above≤5) (hks:(kids q).length≤4096) (hQ:zn8 B s (above+1)) :
 Calls Tryz.prog 74 #[.pointer (some ⟨gq,0,none⟩),.pointer (some ⟨w0.heap.size,0,none⟩),.pointer (some ⟨w0.heap.size+1,0,none⟩)] w (ydq s gp w0 gq above j (ygq q (zaz zan zbm (6 - (above+1)) (rem s j)))):=by
 obtain ⟨k,o,f,t,u,lo,hi,b,op,ks⟩:=q;replace hks:ks.length≤4096:=hks;obtain ⟨cl,ch,ck,al,ah,ak,hus⟩:=h.shape;subst hus;obtain ⟨i0,hi1,hi2,hi3,hi4⟩:=info_parts zvi;have HI:=hX (And.intro hi1 (And.intro hi2 (And.intro hi3 hi4)));have HF:=hX h;have HT:=hX hT;have hw1:IntKind.i64.wrap ((above:Int)+1)=(above:Int)+1:=IntWalk.i64_in _ (by omega)
 obtain ⟨x,hx⟩:∃x,zaz zan zbm (6 - (above+1)) (rem s j)=x:=⟨_,rfl⟩
 have HQ:Hid (∀V,Pa s gp j V→PT B V→Calls Tryz.prog 51 #[.pointer (some ⟨gp,0,none⟩),.int .i64 ((above:Int)+1)] V (Out s gp j V x (QV V.heap.size))):=hX (fun V h1 h2=>by have:=hQ gp j V h1 hB h2;rw[hx] at this;exact this);rw[hx];clear h hT hx hi1 hi2 hi3 hi4 hQ;go_enter Tryz.func74,Tryz.ntmps74;refine wp_region_held_drew (S:=fun V=>V.cell? ⟨w0.heap.size,0,none⟩=some (.pointer (some ⟨gp,0,none⟩))∧V.cell? ⟨w0.heap.size+1,0,none⟩=some (.int .i64 above)) (by kernel_rfl) ⟨(HF.out.drewN 1).bp.cell 0,(HF.out.drewN 1).ba.cell 0⟩ (fun hS0=>?_);have HF0:Fr s gp w0 gq above j (.mk k o f t u lo hi b op ks) [.int .i64 k,.int .i64 o,.string f,.string t,.string u,.slice al lo.length cl,.slice ah hi.length ch,.int .i64 b,.int .i64 op,.slice ak ks.length ck] bs w.drew:=HF.out.drewN 1;have HT0:PT B w.drew:=HT.out.next (below_drewN (Below.refl _ _) 1);generalize w.drew=V0 at hS0 HF0 HT0 ⊢;clear HF HT;refine' tk 0 (by simp only[tkD,tkE,tkG];rfl) (by kernel_rfl) (by exact fun _ _ _ h=>h) (by rfl) hS0 (by intro V hSw;obtain ⟨cp,ca⟩:=hSw;go_simp;try with_reducible rfl) ?_;try simp only[Act.put,tkA,tkB,tkC]
 refine' tk 2 (by simp only[tkD,tkE,tkG];rfl) (by kernel_rfl) (by exact fun _ _ _ h=>h) (by rfl) hS0 (by intro V hSw;obtain ⟨cp,ca⟩:=hSw;go_simp;try with_reducible rfl) ?_;try simp only[Act.put,tkA,tkB,tkC]
 refine' tk 3 (by simp only[tkD,tkE,tkG];rfl) (by kernel_rfl) (by exact fun _ _ _ h=>h) (by rfl) hS0 (by intro V hSw;obtain ⟨cp,ca⟩:=hSw;go_simp;try with_reducible rfl) ?_;try simp only[Act.put,tkA,tkB,tkC]
 refine' tk 4 (by simp only[tkD,tkE,tkG];rfl) (by kernel_rfl) (by exact fun _ _ _ h=>h) (by rfl) hS0 (by intro V hSw;obtain ⟨cp,ca⟩:=hSw;go_simp;try with_reducible rfl) ?_;try simp only[Act.put,tkA,tkB,tkC]
 refine wpAnyH_ready (rs:=[1,5,7]) (by kernel_rfl) (by simp) ?_;refine' AllReadyH.cons (by simp only[tkD,tkE,tkG];rfl) (fun K hK=>?_) ?_;have c9:V0.cell? ⟨gq,9,none⟩=some (.slice ak ks.length ck):=HF0.bq.cell 9;go_simp;refine hK.out _ _ hS0 (fun hT=>?_);clear hK hT c9;try simp only[Act.put,tkA,tkB,tkC]
 refine' tk 6 (by simp only[tkD,tkE,tkG];rfl) (by kernel_rfl) (by exact fun _ _ _ h=>h) (by rfl) hS0 (by intro V hSw;obtain ⟨cp,ca⟩:=hSw;go_simp;try with_reducible rfl) ?_;try simp only[Act.put,tkA,tkB,tkC]
 refine wpAnyH_ready (rs:=[5,7]) (by kernel_rfl) (by simp) ?_;refine' AllReadyH.cons (by simp only[tkD,tkE,tkG];rfl) (fun K hK=>?_) ?_;have HC:=HQ.out V0 HF0.pa HT0;go_simp;refine HC.mono ?_;clear HC;intro e V1 ho
 rcases x with ⟨pp,cc⟩ | ⟨q',r⟩
 ·obtain ⟨rfl,hg⟩:=ho;exact ⟨rfl,rfl,zaa HF0.grown hg⟩
 obtain ⟨vq,rfl,⟨us',b1,rfl,hq,hn1⟩,hg,j2,hj2,hpa,hr2⟩:=ho;obtain ⟨kq,oq,fq,tq,uq,loq,hiq,bq,opq,ksq⟩:=q';have hd:∀g∈b1,g∉bs:=fun g hm hm2=>by have:=(hq.mem g hm).1;have:=HF0.lt g hm2;omega
 replace hq:OQ V1 (gq+1) (.mk kq oq fq tq uq loq hiq bq opq ksq) us' b1:=hq.le HF0.bq.lt;have hshape:=OQ.shape hq;obtain ⟨clq,chq,ckq,alq,ahq,akq,husq⟩:=hshape;subst husq;replace HF0:=HF0.same hg hpa
 have hS1:(fun V=>V.cell? ⟨w0.heap.size,0,none⟩=some (.pointer (some ⟨gp,0,none⟩))∧V.cell? ⟨w0.heap.size+1,0,none⟩=some (.int .i64 above)) V1:=⟨HF0.bp.cell 0,HF0.ba.cell 0⟩
 clear hg hpa HT0;go_simp;refine hK.out _ _ hS1 (fun hT=>?_);clear hK hT;try simp only[Act.put,tkA,tkB,tkC]
 refine wpAnyH_ready (rs:=[7]) (by kernel_rfl) (by simp) ?_;refine' AllReadyH.cons (by simp only[tkD,tkE,tkG];rfl) (fun K hK=>?_) ?_;go_simp;have hbz:Below V1.heap.size V1 (V1.alloc (.cells #[.int .i64 0,.int .i64 0,.string ⟨#[]⟩,.string ⟨#[]⟩,.string ⟨#[]⟩,.slice none 0 0,.slice none 0 0,.int .i64 0,.int .i64 0,.slice none 0 0] 28)):=(Below.refl _ _).alloc (Nat.le_refl _) _;have hz:Blk (V1.alloc (.cells #[.int .i64 0,.int .i64 0,.string ⟨#[]⟩,.string ⟨#[]⟩,.string ⟨#[]⟩,.slice none 0 0,.slice none 0 0,.int .i64 0,.int .i64 0,.slice none 0 0] 28)) V1.heap.size 28 zk9.toArray:=Blk.new _ _ _;replace HF0:=HF0.same (only_of_below hbz (some gp)) (HF0.pa.keep hbz);replace hq:=hq.below hbz (Nat.le_refl _)
 obtain ⟨z,hzz⟩:∃z,V1.heap.size=z:=⟨_,rfl⟩
 generalize V1.alloc (.cells #[.int .i64 0,.int .i64 0,.string ⟨#[]⟩,.string ⟨#[]⟩,.string ⟨#[]⟩,.slice none 0 0,.slice none 0 0,.int .i64 0,.int .i64 0,.slice none 0 0] 28)=V2 at *;rw[hzz] at hz ⊢
 have hS2:(fun V=>V.cell? ⟨w0.heap.size,0,none⟩=some (.pointer (some ⟨gp,0,none⟩))∧V.cell? ⟨w0.heap.size+1,0,none⟩=some (.int .i64 above)) V2:=⟨HF0.bp.cell 0,HF0.ba.cell 0⟩
 clear hbz hzz;refine hK.out _ _ hS2 (fun hT=>?_);clear hK hT;try simp only[Act.put,tkA,tkB,tkC]
 rotate_left
 exact AllReadyH.nil;refine' AllReadyH.cons (by simp only[tkD,tkE,tkG];rfl) (fun K hK=>?_) ?_;go_simp;have hbz:Below V0.heap.size V0 (V0.alloc (.cells #[.int .i64 0,.int .i64 0,.string ⟨#[]⟩,.string ⟨#[]⟩,.string ⟨#[]⟩,.slice none 0 0,.slice none 0 0,.int .i64 0,.int .i64 0,.slice none 0 0] 28)):=(Below.refl _ _).alloc (Nat.le_refl _) _;have hz:Blk (V0.alloc (.cells #[.int .i64 0,.int .i64 0,.string ⟨#[]⟩,.string ⟨#[]⟩,.string ⟨#[]⟩,.slice none 0 0,.slice none 0 0,.int .i64 0,.int .i64 0,.slice none 0 0] 28)) V0.heap.size 28 zk9.toArray:=Blk.new _ _ _;replace HF0:=HF0.same (only_of_below hbz (some gp)) (HF0.pa.keep hbz);replace HT0:=HT0.next (hbz.mono HT0.1)
 obtain ⟨z,hzz⟩:∃z,V0.heap.size=z:=⟨_,rfl⟩
 generalize V0.alloc (.cells #[.int .i64 0,.int .i64 0,.string ⟨#[]⟩,.string ⟨#[]⟩,.string ⟨#[]⟩,.slice none 0 0,.slice none 0 0,.int .i64 0,.int .i64 0,.slice none 0 0] 28)=V1 at *;rw[hzz] at hz ⊢
 have hS1:(fun V=>V.cell? ⟨w0.heap.size,0,none⟩=some (.pointer (some ⟨gp,0,none⟩))∧V.cell? ⟨w0.heap.size+1,0,none⟩=some (.int .i64 above)) V1:=⟨HF0.bp.cell 0,HF0.ba.cell 0⟩
 clear hbz hzz;refine hK.out _ _ hS1 (fun hT=>?_);clear hK hT;try simp only[Act.put,tkA,tkB,tkC]
 refine wpAnyH_ready (rs:=[5]) (by kernel_rfl) (by simp) ?_;refine' AllReadyH.cons (by simp only[tkD,tkE,tkG];rfl) (fun K hK=>?_) ?_;have HC:=HQ.out V1 HF0.pa HT0;go_simp;refine HC.mono ?_;clear HC;intro e V2 ho
 rcases x with ⟨pp,cc⟩ | ⟨q',r⟩
 ·obtain ⟨rfl,hg⟩:=ho;exact ⟨rfl,rfl,zaa HF0.grown hg⟩
 obtain ⟨vq,rfl,⟨us',b1,rfl,hq,hn1⟩,hg,j2,hj2,hpa,hr2⟩:=ho;obtain ⟨kq,oq,fq,tq,uq,loq,hiq,bq,opq,ksq⟩:=q';have hd:∀g∈b1,g∉bs:=fun g hm hm2=>by have:=(hq.mem g hm).1;have:=HF0.lt g hm2;omega
 replace hq:OQ V2 (gq+1) (.mk kq oq fq tq uq loq hiq bq opq ksq) us' b1:=hq.le HF0.bq.lt;have hshape:=OQ.shape hq;obtain ⟨clq,chq,ckq,alq,ahq,akq,husq⟩:=hshape;subst husq;replace hz:=hz.grown hg (fun e=>by injection e with e;have:=HF0.pa.blk.ne_ hz (by decide);exact this e.symm);replace HF0:=HF0.same hg hpa
 have hS2:(fun V=>V.cell? ⟨w0.heap.size,0,none⟩=some (.pointer (some ⟨gp,0,none⟩))∧V.cell? ⟨w0.heap.size+1,0,none⟩=some (.int .i64 above)) V2:=⟨HF0.bp.cell 0,HF0.ba.cell 0⟩
 clear hg hpa HT0;go_simp;refine hK.out _ _ hS2 (fun hT=>?_);clear hK hT;try simp only[Act.put,tkA,tkB,tkC]
 rotate_left
 exact AllReadyH.nil;exact AllReadyH.nil;refine' AllReadyH.cons (by simp only[tkD,tkE,tkG];rfl) (fun K hK=>?_) ?_;have HC:=HQ.out V0 HF0.pa HT0;go_simp;refine HC.mono ?_;clear HC;intro e V1 ho
 rcases x with ⟨pp,cc⟩ | ⟨q',r⟩
 ·obtain ⟨rfl,hg⟩:=ho;exact ⟨rfl,rfl,zaa HF0.grown hg⟩
 obtain ⟨vq,rfl,⟨us',b1,rfl,hq,hn1⟩,hg,j2,hj2,hpa,hr2⟩:=ho;obtain ⟨kq,oq,fq,tq,uq,loq,hiq,bq,opq,ksq⟩:=q';have hd:∀g∈b1,g∉bs:=fun g hm hm2=>by have:=(hq.mem g hm).1;have:=HF0.lt g hm2;omega
 replace hq:OQ V1 (gq+1) (.mk kq oq fq tq uq loq hiq bq opq ksq) us' b1:=hq.le HF0.bq.lt;have hshape:=OQ.shape hq;obtain ⟨clq,chq,ckq,alq,ahq,akq,husq⟩:=hshape;subst husq;replace HF0:=HF0.same hg hpa
 have hS1:(fun V=>V.cell? ⟨w0.heap.size,0,none⟩=some (.pointer (some ⟨gp,0,none⟩))∧V.cell? ⟨w0.heap.size+1,0,none⟩=some (.int .i64 above)) V1:=⟨HF0.bp.cell 0,HF0.ba.cell 0⟩
 clear hg hpa HT0;go_simp;refine hK.out _ _ hS1 (fun hT=>?_);clear hK hT;try simp only[Act.put,tkA,tkB,tkC]
 refine wpAnyH_ready (rs:=[1,7]) (by kernel_rfl) (by simp) ?_;refine' AllReadyH.cons (by simp only[tkD,tkE,tkG];rfl) (fun K hK=>?_) ?_;have c9:V1.cell? ⟨gq,9,none⟩=some (.slice ak ks.length ck):=HF0.bq.cell 9;go_simp;refine hK.out _ _ hS1 (fun hT=>?_);clear hK hT c9;try simp only[Act.put,tkA,tkB,tkC]
 refine' tk 6 (by simp only[tkD,tkE,tkG];rfl) (by kernel_rfl) (by exact fun _ _ _ h=>h) (by rfl) hS1 (by intro V hSw;obtain ⟨cp,ca⟩:=hSw;go_simp;try with_reducible rfl) ?_;try simp only[Act.put,tkA,tkB,tkC]
 refine wpAnyH_ready (rs:=[7]) (by kernel_rfl) (by simp) ?_;refine' AllReadyH.cons (by simp only[tkD,tkE,tkG];rfl) (fun K hK=>?_) ?_;go_simp;have hbz:Below V1.heap.size V1 (V1.alloc (.cells #[.int .i64 0,.int .i64 0,.string ⟨#[]⟩,.string ⟨#[]⟩,.string ⟨#[]⟩,.slice none 0 0,.slice none 0 0,.int .i64 0,.int .i64 0,.slice none 0 0] 28)):=(Below.refl _ _).alloc (Nat.le_refl _) _;have hz:Blk (V1.alloc (.cells #[.int .i64 0,.int .i64 0,.string ⟨#[]⟩,.string ⟨#[]⟩,.string ⟨#[]⟩,.slice none 0 0,.slice none 0 0,.int .i64 0,.int .i64 0,.slice none 0 0] 28)) V1.heap.size 28 zk9.toArray:=Blk.new _ _ _;replace HF0:=HF0.same (only_of_below hbz (some gp)) (HF0.pa.keep hbz);replace hq:=hq.below hbz (Nat.le_refl _)
 obtain ⟨z,hzz⟩:∃z,V1.heap.size=z:=⟨_,rfl⟩
 generalize V1.alloc (.cells #[.int .i64 0,.int .i64 0,.string ⟨#[]⟩,.string ⟨#[]⟩,.string ⟨#[]⟩,.slice none 0 0,.slice none 0 0,.int .i64 0,.int .i64 0,.slice none 0 0] 28)=V2 at *;rw[hzz] at hz ⊢
 have hS2:(fun V=>V.cell? ⟨w0.heap.size,0,none⟩=some (.pointer (some ⟨gp,0,none⟩))∧V.cell? ⟨w0.heap.size+1,0,none⟩=some (.int .i64 above)) V2:=⟨HF0.bp.cell 0,HF0.ba.cell 0⟩
 clear hbz hzz;refine hK.out _ _ hS2 (fun hT=>?_);clear hK hT;try simp only[Act.put,tkA,tkB,tkC]
 rotate_left
 exact AllReadyH.nil;refine' AllReadyH.cons (by simp only[tkD,tkE,tkG];rfl) (fun K hK=>?_) ?_;go_simp;have hbz:Below V1.heap.size V1 (V1.alloc (.cells #[.int .i64 0,.int .i64 0,.string ⟨#[]⟩,.string ⟨#[]⟩,.string ⟨#[]⟩,.slice none 0 0,.slice none 0 0,.int .i64 0,.int .i64 0,.slice none 0 0] 28)):=(Below.refl _ _).alloc (Nat.le_refl _) _;have hz:Blk (V1.alloc (.cells #[.int .i64 0,.int .i64 0,.string ⟨#[]⟩,.string ⟨#[]⟩,.string ⟨#[]⟩,.slice none 0 0,.slice none 0 0,.int .i64 0,.int .i64 0,.slice none 0 0] 28)) V1.heap.size 28 zk9.toArray:=Blk.new _ _ _;replace HF0:=HF0.same (only_of_below hbz (some gp)) (HF0.pa.keep hbz);replace hq:=hq.below hbz (Nat.le_refl _)
 obtain ⟨z,hzz⟩:∃z,V1.heap.size=z:=⟨_,rfl⟩
 generalize V1.alloc (.cells #[.int .i64 0,.int .i64 0,.string ⟨#[]⟩,.string ⟨#[]⟩,.string ⟨#[]⟩,.slice none 0 0,.slice none 0 0,.int .i64 0,.int .i64 0,.slice none 0 0] 28)=V2 at *;rw[hzz] at hz ⊢
 have hS2:(fun V=>V.cell? ⟨w0.heap.size,0,none⟩=some (.pointer (some ⟨gp,0,none⟩))∧V.cell? ⟨w0.heap.size+1,0,none⟩=some (.int .i64 above)) V2:=⟨HF0.bp.cell 0,HF0.ba.cell 0⟩
 clear hbz hzz;refine hK.out _ _ hS2 (fun hT=>?_);clear hK hT;try simp only[Act.put,tkA,tkB,tkC]
 refine wpAnyH_ready (rs:=[1]) (by kernel_rfl) (by simp) ?_;refine' AllReadyH.cons (by simp only[tkD,tkE,tkG];rfl) (fun K hK=>?_) ?_;have c9:V2.cell? ⟨gq,9,none⟩=some (.slice ak ks.length ck):=HF0.bq.cell 9;go_simp;refine hK.out _ _ hS2 (fun hT=>?_);clear hK hT c9;try simp only[Act.put,tkA,tkB,tkC]
 refine' tk 6 (by simp only[tkD,tkE,tkG];rfl) (by kernel_rfl) (by exact fun _ _ _ h=>h) (by rfl) hS2 (by intro V hSw;obtain ⟨cp,ca⟩:=hSw;go_simp;try with_reducible rfl) ?_;try simp only[Act.put,tkA,tkB,tkC]
 rotate_left
 exact AllReadyH.nil;exact AllReadyH.nil;refine' AllReadyH.cons (by simp only[tkD,tkE,tkG];rfl) (fun K hK=>?_) ?_;go_simp;have hbz:Below V0.heap.size V0 (V0.alloc (.cells #[.int .i64 0,.int .i64 0,.string ⟨#[]⟩,.string ⟨#[]⟩,.string ⟨#[]⟩,.slice none 0 0,.slice none 0 0,.int .i64 0,.int .i64 0,.slice none 0 0] 28)):=(Below.refl _ _).alloc (Nat.le_refl _) _;have hz:Blk (V0.alloc (.cells #[.int .i64 0,.int .i64 0,.string ⟨#[]⟩,.string ⟨#[]⟩,.string ⟨#[]⟩,.slice none 0 0,.slice none 0 0,.int .i64 0,.int .i64 0,.slice none 0 0] 28)) V0.heap.size 28 zk9.toArray:=Blk.new _ _ _;replace HF0:=HF0.same (only_of_below hbz (some gp)) (HF0.pa.keep hbz);replace HT0:=HT0.next (hbz.mono HT0.1)
 obtain ⟨z,hzz⟩:∃z,V0.heap.size=z:=⟨_,rfl⟩
 generalize V0.alloc (.cells #[.int .i64 0,.int .i64 0,.string ⟨#[]⟩,.string ⟨#[]⟩,.string ⟨#[]⟩,.slice none 0 0,.slice none 0 0,.int .i64 0,.int .i64 0,.slice none 0 0] 28)=V1 at *;rw[hzz] at hz ⊢
 have hS1:(fun V=>V.cell? ⟨w0.heap.size,0,none⟩=some (.pointer (some ⟨gp,0,none⟩))∧V.cell? ⟨w0.heap.size+1,0,none⟩=some (.int .i64 above)) V1:=⟨HF0.bp.cell 0,HF0.ba.cell 0⟩
 clear hbz hzz;refine hK.out _ _ hS1 (fun hT=>?_);clear hK hT;try simp only[Act.put,tkA,tkB,tkC]
 refine wpAnyH_ready (rs:=[1,5]) (by kernel_rfl) (by simp) ?_;refine' AllReadyH.cons (by simp only[tkD,tkE,tkG];rfl) (fun K hK=>?_) ?_;have c9:V1.cell? ⟨gq,9,none⟩=some (.slice ak ks.length ck):=HF0.bq.cell 9;go_simp;refine hK.out _ _ hS1 (fun hT=>?_);clear hK hT c9;try simp only[Act.put,tkA,tkB,tkC]
 refine' tk 6 (by simp only[tkD,tkE,tkG];rfl) (by kernel_rfl) (by exact fun _ _ _ h=>h) (by rfl) hS1 (by intro V hSw;obtain ⟨cp,ca⟩:=hSw;go_simp;try with_reducible rfl) ?_;try simp only[Act.put,tkA,tkB,tkC]
 refine wpAnyH_ready (rs:=[5]) (by kernel_rfl) (by simp) ?_;refine' AllReadyH.cons (by simp only[tkD,tkE,tkG];rfl) (fun K hK=>?_) ?_;have HC:=HQ.out V1 HF0.pa HT0;go_simp;refine HC.mono ?_;clear HC;intro e V2 ho
 rcases x with ⟨pp,cc⟩ | ⟨q',r⟩
 ·obtain ⟨rfl,hg⟩:=ho;exact ⟨rfl,rfl,zaa HF0.grown hg⟩
 obtain ⟨vq,rfl,⟨us',b1,rfl,hq,hn1⟩,hg,j2,hj2,hpa,hr2⟩:=ho;obtain ⟨kq,oq,fq,tq,uq,loq,hiq,bq,opq,ksq⟩:=q';have hd:∀g∈b1,g∉bs:=fun g hm hm2=>by have:=(hq.mem g hm).1;have:=HF0.lt g hm2;omega
 replace hq:OQ V2 (gq+1) (.mk kq oq fq tq uq loq hiq bq opq ksq) us' b1:=hq.le HF0.bq.lt;have hshape:=OQ.shape hq;obtain ⟨clq,chq,ckq,alq,ahq,akq,husq⟩:=hshape;subst husq;replace hz:=hz.grown hg (fun e=>by injection e with e;have:=HF0.pa.blk.ne_ hz (by decide);exact this e.symm);replace HF0:=HF0.same hg hpa
 have hS2:(fun V=>V.cell? ⟨w0.heap.size,0,none⟩=some (.pointer (some ⟨gp,0,none⟩))∧V.cell? ⟨w0.heap.size+1,0,none⟩=some (.int .i64 above)) V2:=⟨HF0.bp.cell 0,HF0.ba.cell 0⟩
 clear hg hpa HT0;go_simp;refine hK.out _ _ hS2 (fun hT=>?_);clear hK hT;try simp only[Act.put,tkA,tkB,tkC]
 rotate_left
 exact AllReadyH.nil;refine' AllReadyH.cons (by simp only[tkD,tkE,tkG];rfl) (fun K hK=>?_) ?_;have HC:=HQ.out V1 HF0.pa HT0;go_simp;refine HC.mono ?_;clear HC;intro e V2 ho
 rcases x with ⟨pp,cc⟩ | ⟨q',r⟩
 ·obtain ⟨rfl,hg⟩:=ho;exact ⟨rfl,rfl,zaa HF0.grown hg⟩
 obtain ⟨vq,rfl,⟨us',b1,rfl,hq,hn1⟩,hg,j2,hj2,hpa,hr2⟩:=ho;obtain ⟨kq,oq,fq,tq,uq,loq,hiq,bq,opq,ksq⟩:=q';have hd:∀g∈b1,g∉bs:=fun g hm hm2=>by have:=(hq.mem g hm).1;have:=HF0.lt g hm2;omega
 replace hq:OQ V2 (gq+1) (.mk kq oq fq tq uq loq hiq bq opq ksq) us' b1:=hq.le HF0.bq.lt;have hshape:=OQ.shape hq;obtain ⟨clq,chq,ckq,alq,ahq,akq,husq⟩:=hshape;subst husq;replace hz:=hz.grown hg (fun e=>by injection e with e;have:=HF0.pa.blk.ne_ hz (by decide);exact this e.symm);replace HF0:=HF0.same hg hpa
 have hS2:(fun V=>V.cell? ⟨w0.heap.size,0,none⟩=some (.pointer (some ⟨gp,0,none⟩))∧V.cell? ⟨w0.heap.size+1,0,none⟩=some (.int .i64 above)) V2:=⟨HF0.bp.cell 0,HF0.ba.cell 0⟩
 clear hg hpa HT0;go_simp;refine hK.out _ _ hS2 (fun hT=>?_);clear hK hT;try simp only[Act.put,tkA,tkB,tkC]
 refine wpAnyH_ready (rs:=[1]) (by kernel_rfl) (by simp) ?_;refine' AllReadyH.cons (by simp only[tkD,tkE,tkG];rfl) (fun K hK=>?_) ?_;have c9:V2.cell? ⟨gq,9,none⟩=some (.slice ak ks.length ck):=HF0.bq.cell 9;go_simp;refine hK.out _ _ hS2 (fun hT=>?_);clear hK hT c9;try simp only[Act.put,tkA,tkB,tkC]
 refine' tk 6 (by simp only[tkD,tkE,tkG];rfl) (by kernel_rfl) (by exact fun _ _ _ h=>h) (by rfl) hS2 (by intro V hSw;obtain ⟨cp,ca⟩:=hSw;go_simp;try with_reducible rfl) ?_;try simp only[Act.put,tkA,tkB,tkC]
 rotate_left
 exact AllReadyH.nil;exact AllReadyH.nil;exact AllReadyH.nil
 all_goals
  obtain ⟨xs,bk,h1,h2,h3,h4,hbs⟩:=HF0.parts;obtain ⟨hi1,hi2,hi3,hi4⟩:=HI.out;have hsz:=HF0.bq.lt;refine wpAnyH_ready (rs:=[8]) (by kernel_rfl) (by simp) ?_;refine' AllReadyH.cons (by simp only[tkD,tkE,tkG];rfl) (fun K hK=>?_) AllReadyH.nil;refine ze8 _ rfl (.tmp 4) (.tmp 10) 26 rfl (gq+1) 28 i0 (.agg zax) 10 152 Tryz.underlying26 hi1 hi2 hi3 hi4 rfl (by decide) (.slice ak ks.length ck) ks.length xs rfl h3 _ (some ⟨z,0,none⟩) 1 1 zk9 rfl (zvj hz rfl) (by decide) (by unfold maxLen;omega) (by omega) (by omega) ?_;intro v' V9 ha9 hg9 hat9;obtain ⟨g3,cap3,rfl,hcap,hnd,hKF⟩:=zyw HF0 h1 h2 h3 h4 hbs hq hn1 hd ha9 hg9 hat9;clear ha9 hg9 hat9 hi1 hi2 hi3 hi4 hz h1 h2 h3 h4 hbs hq hn1 hd HF0 hsz
  have hS9:(fun V=>V.cell? ⟨w0.heap.size,0,none⟩=some (.pointer (some ⟨gp,0,none⟩))∧V.cell? ⟨w0.heap.size+1,0,none⟩=some (.int .i64 above)) V9:=⟨hKF.bp.cell 0,hKF.ba.cell 0⟩
  refine hK.out _ _ hS9 (fun hT=>?_);clear hK hT;try simp only[Act.put,tkA,tkB,tkC]
  have hx1:(0:Int)≤((ks.length:Nat):Int):=by omega
  have hx2:((ks.length:Nat):Int)<((ks.length:Nat):Int)+1:=by omega
  have HKF:=hX hKF;clear hKF;refine' tk 11 (by simp only[tkD,tkE,tkG];rfl) (by kernel_rfl) (by exact fun _ _ _ h=>h) (by rfl) hS9 (by intro V hSw;obtain ⟨cp,ca⟩:=hSw;go_simp;try with_reducible rfl) ?_;try simp only[Act.put,tkA,tkB,tkC]
  refine' tk 9 (by simp only[tkD,tkE,tkG];rfl) (by kernel_rfl) (by exact fun _ _ _ h=>h) (by rfl) hS9 (by intro V hSw;obtain ⟨cp,ca⟩:=hSw;go_simp;try with_reducible rfl) ?_;try simp only[Act.put,tkA,tkB,tkC]
  refine wpAnyH_ready (rs:=[10,12]) (by kernel_rfl) (by simp) ?_;refine' AllReadyH.cons (by simp only[tkD,tkE,tkG];rfl) (fun K hK=>?_) ?_
  ·skip;obtain ⟨q0,z0⟩:=HKF.out.cell 0 (ks.length*10) rfl (.int .i64 0) rfl;obtain ⟨q1,z1⟩:=HKF.out.cell 1 (ks.length*10+1) rfl (.int .i64 0) rfl;obtain ⟨q2,z2⟩:=HKF.out.cell 2 (ks.length*10+2) rfl (.string ⟨#[]⟩) rfl;obtain ⟨q3,z3⟩:=HKF.out.cell 3 (ks.length*10+3) rfl (.string ⟨#[]⟩) rfl;obtain ⟨q4,z4⟩:=HKF.out.cell 4 (ks.length*10+4) rfl (.string ⟨#[]⟩) rfl;obtain ⟨q5,z5⟩:=HKF.out.cell 5 (ks.length*10+5) rfl (.slice none 0 0) rfl;obtain ⟨q6,z6⟩:=HKF.out.cell 6 (ks.length*10+6) rfl (.slice none 0 0) rfl;obtain ⟨q7,z7⟩:=HKF.out.cell 7 (ks.length*10+7) rfl (.int .i64 0) rfl;obtain ⟨q8,z8⟩:=HKF.out.cell 8 (ks.length*10+8) rfl (.int .i64 0) rfl;obtain ⟨q9,z9⟩:=HKF.out.cell 9 (ks.length*10+9) rfl (.slice none 0 0) rfl;have HK2:=hX (HKF.out.ten (.int .i64 kq) (.int .i64 oq) (.string fq) (.string tq) (.string uq) (.slice alq loq.length clq) (.slice ahq hiq.length chq) (.int .i64 bq) (.int .i64 opq) (.slice akq ksq.length ckq));go_simp;clear q0 z0 q1 z1 q2 z2 q3 z3 q4 z4 q5 z5 q6 z6 q7 z7 q8 z8 q9 z9
   generalize ((((((((((V9.setCell ⟨g3,ks.length*10,none⟩ (.int .i64 kq)).setCell ⟨g3,ks.length*10+1,none⟩ (.int .i64 oq)).setCell ⟨g3,ks.length*10+2,none⟩ (.string fq)).setCell ⟨g3,ks.length*10+3,none⟩ (.string tq)).setCell ⟨g3,ks.length*10+4,none⟩ (.string uq)).setCell ⟨g3,ks.length*10+5,none⟩ (.slice alq loq.length clq)).setCell ⟨g3,ks.length*10+6,none⟩ (.slice ahq hiq.length chq)).setCell ⟨g3,ks.length*10+7,none⟩ (.int .i64 bq)).setCell ⟨g3,ks.length*10+8,none⟩ (.int .i64 opq)).setCell ⟨g3,ks.length*10+9,none⟩ (.slice akq ksq.length ckq))=V10 at *
   have hS10:(fun V=>V.cell? ⟨w0.heap.size,0,none⟩=some (.pointer (some ⟨gp,0,none⟩))∧V.cell? ⟨w0.heap.size+1,0,none⟩=some (.int .i64 above)) V10:=⟨HK2.out.bp.cell 0,HK2.out.ba.cell 0⟩
   refine hK.out _ _ hS10 (fun hT=>?_);clear hK hT;try simp only[Act.put,tkA,tkB,tkC]
   replace HKF:=HK2;clear HK2;refine wpAnyH_ready (rs:=[12]) (by kernel_rfl) (by simp) ?_;refine' AllReadyH.cons (by simp only[tkD,tkE,tkG];rfl) (fun K hK=>?_) AllReadyH.nil;have q9:V10.cell? ⟨gq,9,none⟩=some (.slice ak ks.length ck):=HKF.out.bq.cell 9;have z9:V10.frozen? ⟨gq,9,none⟩=false:=HKF.out.bq.frozen 9;have HK2:=hX (HKF.out.box 9 (.slice (some ⟨g3,0,none⟩) (ks.length+1) cap3));go_simp;clear q9 z9;generalize V10.setCell ⟨gq,9,none⟩ (.slice (some ⟨g3,0,none⟩) (ks.length+1) cap3)=V11 at *
   have hS11:(fun V=>V.cell? ⟨w0.heap.size,0,none⟩=some (.pointer (some ⟨gp,0,none⟩))∧V.cell? ⟨w0.heap.size+1,0,none⟩=some (.int .i64 above)) V11:=⟨HK2.out.bp.cell 0,HK2.out.ba.cell 0⟩
   refine hK.out _ _ hS11 (fun hT=>?_);clear hK hT;try simp only[Act.put,tkA,tkB,tkC]
   refine wpAnyH_done (by kernel_rfl) ?_ _;go_end0;exact ⟨rfl,j2,_,_,hj2,hr2,HK2.out.fin rfl hnd⟩
  refine' AllReadyH.cons (by simp only[tkD,tkE,tkG];rfl) (fun K hK=>?_) ?_
  ·skip;have q9:V9.cell? ⟨gq,9,none⟩=some (.slice ak ks.length ck):=HKF.out.bq.cell 9;have z9:V9.frozen? ⟨gq,9,none⟩=false:=HKF.out.bq.frozen 9;have HK2:=hX (HKF.out.box 9 (.slice (some ⟨g3,0,none⟩) (ks.length+1) cap3));go_simp;clear q9 z9;generalize V9.setCell ⟨gq,9,none⟩ (.slice (some ⟨g3,0,none⟩) (ks.length+1) cap3)=V10 at *
   have hS10:(fun V=>V.cell? ⟨w0.heap.size,0,none⟩=some (.pointer (some ⟨gp,0,none⟩))∧V.cell? ⟨w0.heap.size+1,0,none⟩=some (.int .i64 above)) V10:=⟨HK2.out.bp.cell 0,HK2.out.ba.cell 0⟩
   refine hK.out _ _ hS10 (fun hT=>?_);clear hK hT;try simp only[Act.put,tkA,tkB,tkC]
   replace HKF:=HK2;clear HK2;refine wpAnyH_ready (rs:=[10]) (by kernel_rfl) (by simp) ?_;refine' AllReadyH.cons (by simp only[tkD,tkE,tkG];rfl) (fun K hK=>?_) AllReadyH.nil;obtain ⟨q0,z0⟩:=HKF.out.cell 0 (ks.length*10) rfl (.int .i64 0) rfl;obtain ⟨q1,z1⟩:=HKF.out.cell 1 (ks.length*10+1) rfl (.int .i64 0) rfl;obtain ⟨q2,z2⟩:=HKF.out.cell 2 (ks.length*10+2) rfl (.string ⟨#[]⟩) rfl;obtain ⟨q3,z3⟩:=HKF.out.cell 3 (ks.length*10+3) rfl (.string ⟨#[]⟩) rfl;obtain ⟨q4,z4⟩:=HKF.out.cell 4 (ks.length*10+4) rfl (.string ⟨#[]⟩) rfl;obtain ⟨q5,z5⟩:=HKF.out.cell 5 (ks.length*10+5) rfl (.slice none 0 0) rfl;obtain ⟨q6,z6⟩:=HKF.out.cell 6 (ks.length*10+6) rfl (.slice none 0 0) rfl;obtain ⟨q7,z7⟩:=HKF.out.cell 7 (ks.length*10+7) rfl (.int .i64 0) rfl;obtain ⟨q8,z8⟩:=HKF.out.cell 8 (ks.length*10+8) rfl (.int .i64 0) rfl;obtain ⟨q9,z9⟩:=HKF.out.cell 9 (ks.length*10+9) rfl (.slice none 0 0) rfl;have HK2:=hX (HKF.out.ten (.int .i64 kq) (.int .i64 oq) (.string fq) (.string tq) (.string uq) (.slice alq loq.length clq) (.slice ahq hiq.length chq) (.int .i64 bq) (.int .i64 opq) (.slice akq ksq.length ckq));go_simp;clear q0 z0 q1 z1 q2 z2 q3 z3 q4 z4 q5 z5 q6 z6 q7 z7 q8 z8 q9 z9
   generalize ((((((((((V10.setCell ⟨g3,ks.length*10,none⟩ (.int .i64 kq)).setCell ⟨g3,ks.length*10+1,none⟩ (.int .i64 oq)).setCell ⟨g3,ks.length*10+2,none⟩ (.string fq)).setCell ⟨g3,ks.length*10+3,none⟩ (.string tq)).setCell ⟨g3,ks.length*10+4,none⟩ (.string uq)).setCell ⟨g3,ks.length*10+5,none⟩ (.slice alq loq.length clq)).setCell ⟨g3,ks.length*10+6,none⟩ (.slice ahq hiq.length chq)).setCell ⟨g3,ks.length*10+7,none⟩ (.int .i64 bq)).setCell ⟨g3,ks.length*10+8,none⟩ (.int .i64 opq)).setCell ⟨g3,ks.length*10+9,none⟩ (.slice akq ksq.length ckq))=V11 at *
   have hS11:(fun V=>V.cell? ⟨w0.heap.size,0,none⟩=some (.pointer (some ⟨gp,0,none⟩))∧V.cell? ⟨w0.heap.size+1,0,none⟩=some (.int .i64 above)) V11:=⟨HK2.out.bp.cell 0,HK2.out.ba.cell 0⟩
   refine hK.out _ _ hS11 (fun hT=>?_);clear hK hT;try simp only[Act.put,tkA,tkB,tkC]
   refine wpAnyH_done (by kernel_rfl) ?_ _;go_end0;exact ⟨rfl,j2,_,_,hj2,hr2,HK2.out.fin rfl hnd⟩
  exact AllReadyH.nil
end Go.Proofs.YtplkbdncgkgppaaGreatDoor.Qry
