/- Lemmas that the last text leans on. -/
import Derived.Test.YtigfcihakghddaaGreatDoorPack9
import Derived.Test.YtigfcihakghddaaGreatDoorSchToks
import Derived.Test.YtigfcihakghddaaGreatDoorTake
import Derived.Deep.LoopGhost
import Derived.Deep.RegionHeld3
import Derived.Deep.QuietTactic
import Derived.LoopTactic
import Derived.Test.YtigfcihakghddaaGreatDoorPack8
import Derived.Test.YtigfcihakghddaaGreatDoorShelf
import Derived.Sort.OwnSorted
import Derived.Sort.OwnSortedInts
import Derived.Test.YtigfcihakghddaaGreatDoorPack3
import Derived.Lib.SlicesCompact
import Derived.Test.YtigfcihakghddaaGreatDoorPack4
set_option linter.all false
section
namespace Go.Proofs.YtigfcihakghddaaGreatDoor.BufT
open Go Go.RowKit Words Tree Owned MapV BufP Sch SchP AnaP Kit Ana
theorem infoL:(Tryz.prog.info? 2).map (fun i=>(i.zero,i.size,i.bytes))=some (some (.int .i64 0),1,8):=by kernel_rfl
theorem textAd_step (d:Int) (ts:List TokD) {i:Nat} (h:i<ts.length):textAd d (ts.take (i+1))=textAd d (ts.take i)++[⟨ts[i].text.data.toList,d,ts[i].pos⟩]:=by
 unfold textAd;rw[List.take_succ_eq_append_getElem h,List.map_append];rfl
set_option maxRecDepth 100000 in
set_option maxHeartbeats 4000000 in
theorem text_any (w:World) (B fb k:Nat) (sv cv:Value) (x:FD) (F:Nat→Prop) (l:List FT) (d:Int) (cs:List CT) (h:FieldAt w B fb k sv x F) (hL:x.adds.length≤137438953472) (hLL:x.lens.length≤1048576) (hd:(Lit.int .i64 d).wf=true) (hB:B≤w.heap.size)
 (hu:T.At bare w (fun g=>g<w.heap.size) (fieldsT l) sv) (hl:l.length*72≤140737488351232) (hf:∀f∈l,FOk f) (hx:T.At bare w (fun g=>g<w.heap.size) (cellsT cs) cv) (hcs:cs.length≤1048576) (he:∀c∈cs,COk c) (hT:FoldNext.Tabs w)
 (hn:(toksF l k cs).length≤1099511627) (ht:∀t∈toksF l k cs,t.text.size≤maxLen) :
 Calls Tryz.prog 72 #[.pointer (some ⟨fb,0,none⟩),.int .i64 d,cv] w (FieldRet w B fb k sv { x with adds:=x.adds++textAd d (toksF l k cs),lens:=x.lens++[((toksF l k cs).length:Int)] } F):=by
 have HTK:=hX (fun (V:World) (hV:Below w.heap.size w V)=>toksW_any sv cv l k cs V (At.below hu hV (fun g hg=>Nat.lt_of_lt_of_le hg hV.size)) hl hf (At.below hx hV (fun g hg=>Nat.lt_of_lt_of_le hg hV.size)) hcs he (hT.next hV));have HF0:=hX h;have HT:=hX ht;have hfb:fb<w.heap.size:=by obtain ⟨bm,n,D,bt,Di,rv,vl,vt,vn,vp,bt1,bn,bp,h1,h2,h3⟩:=h;exact h1.self.lt
 have hc6:w.cell? ⟨fb,6,none⟩=some sv∧w.cell? ⟨fb,7,none⟩=some (.int .i64 k):=by obtain ⟨bm,n,D,bt,Di,rv,vl,vt,vn,vp,bt1,bn,bp,h1,h2,h3⟩:=h;exact ⟨h1.self.cell 6,h1.self.cell 7⟩
 obtain ⟨hc6,hc7⟩:=hc6;clear h hu hl hf hx hcs he hT ht;generalize toksF l k cs=ts at *;go_enter Tryz.func72,Tryz.ntmps72;go_upto_region 0 with fail;refine wp_region_held_drew (S:=fun V=>Below w.heap.size w V) (by kernel_rfl) (Below.refl _ _).drew (fun hS0=>?_);refine' tk 0 (by simp only[tkD,tkE,tkG];rfl) (by kernel_rfl) (by exact fun _ _ _ h=>h) (by rfl) hS0 (by intro V hSw;clear hSw;go_simp;try with_reducible rfl) ?_;try simp only[Act.put,tkA,tkB,tkC]
 refine' tk 1 (by simp only[tkD,tkE,tkG];rfl) (by kernel_rfl) (by exact fun _ _ _ h=>h) (by rfl) hS0 (by intro V hSw;clear hSw;go_simp;try with_reducible rfl) ?_;try simp only[Act.put,tkA,tkB,tkC]
 refine' tk 2 (by simp only[tkD,tkE,tkG];rfl) (by kernel_rfl) (by exact fun _ _ _ h=>h) (by rfl) hS0 (by intro V hSw;clear hSw;go_simp;try with_reducible rfl) ?_;try simp only[Act.put,tkA,tkB,tkC]
 refine' tk 3 (by simp only[tkD,tkE,tkG];rfl) (by kernel_rfl) (by exact fun _ _ _ h=>h) (by rfl) hS0 (by intro V hSw;have c6:=(hSw.cell hfb).trans hc6;clear hSw;go_simp;try with_reducible rfl) ?_;try simp only[Act.put,tkA,tkB,tkC]
 refine' tk 4 (by simp only[tkD,tkE,tkG];rfl) (by kernel_rfl) (by exact fun _ _ _ h=>h) (by rfl) hS0 (by intro V hSw;clear hSw;go_simp;try with_reducible rfl) ?_;try simp only[Act.put,tkA,tkB,tkC]
 refine' tk 5 (by simp only[tkD,tkE,tkG];rfl) (by kernel_rfl) (by exact fun _ _ _ h=>h) (by rfl) hS0 (by intro V hSw;clear hSw;go_simp;try with_reducible rfl) ?_;try simp only[Act.put,tkA,tkB,tkC]
 refine' tk 6 (by simp only[tkD,tkE,tkG];rfl) (by kernel_rfl) (by exact fun _ _ _ h=>h) (by rfl) hS0 (by intro V hSw;clear hSw;go_simp;try with_reducible rfl) ?_;try simp only[Act.put,tkA,tkB,tkC]
 refine' tk 7 (by simp only[tkD,tkE,tkG];rfl) (by kernel_rfl) (by exact fun _ _ _ h=>h) (by rfl) hS0 (by intro V hSw;have c7:=(hSw.cell hfb).trans hc7;clear hSw;go_simp;try with_reducible rfl) ?_;try simp only[Act.put,tkA,tkB,tkC]
 refine' tk 8 (by simp only[tkD,tkE,tkG];rfl) (by kernel_rfl) (by exact fun _ _ _ h=>h) (by rfl) hS0 (by intro V hSw;clear hSw;go_simp;try with_reducible rfl) ?_;try simp only[Act.put,tkA,tkB,tkC]
 refine wpAnyH_ready (rs:=[9]) (by kernel_rfl) (by simp) ?_;refine' AllReadyH.cons (by simp only[tkD,tkE,tkG];rfl) (fun K hK=>?_) AllReadyH.nil;go_simp;refine (HTK.out _ hS0).mono ?_;rintro e V1 ⟨ao,co,rfl,hrow,q⟩;have B1:=hX (Below.trans hS0 (q.mono (hS0).size));have HROW:=hX hrow;clear hrow;clear q;go_simp;refine hK.out _ _ B1.out (fun hS1=>?_);try simp only[Act.put,tkA,tkB,tkC]
 refine' tk 10 (by simp only[tkD,tkE,tkG];rfl) (by kernel_rfl) (by exact fun _ _ _ h=>h) (by rfl) hS1 (by intro V hSw;clear hSw;go_simp;try with_reducible rfl) ?_;try simp only[Act.put,tkA,tkB,tkC]
 refine wpAnyH_done (by kernel_rfl) ?_ _;have hz1:w.heap.size≤V1.heap.size:=B1.out.size
 have HFA:Hid (FieldAt V1 B fb k sv { x with adds:=x.adds++textAd d (ts.take 0) } F):=hX (by
  have:=HF0.out.keep (w':=V1) (fun g hg=>B1.out.block g (HF0.out.lt hg).2);rw[List.take_zero]
  simpa [textAd] using this)
 have HBA:Hid (But F w V1):=hX (But.of_below B1.out);have HSA:Hid (∀g,F g→F g∨V1.heap.size≤g):=hX (fun g h=>.inl h);have HRB:=hX (fun g (e:(Value.slice ao ts.length co).ownBlock=some g)=>(show w.heap.size≤g∧g<V1.heap.size from HROW.out.lt g e));have HFW:=hX (fun g (h:F g)=>(HF0.out.lt h).2);clear hc6 hc7 hS0 hS1 HTK;go_upto_region 2 with fail;go_loopg [8,21] ts.length (fun m _ v wr=>∃(i:Nat) (Fi:Nat→Prop),v = .int .i64 i∧i≤ts.length∧m=ts.length - i∧Hid (FieldAt wr B fb k sv { x with adds:=x.adds++textAd d (ts.take i) } Fi)∧Hid (But F w wr)∧Hid (∀g,Fi g→F g∨V1.heap.size≤g)∧Hid (wr.ownsRow w.heap.size 179 4 (.slice ao ts.length co) ts.length (tokCells ts))∧Hid (V1.heap.size≤wr.heap.size))
 case atStart=>exact ⟨0,F,rfl,Nat.zero_le _,rfl,HFA,HBA,HSA,HROW,hX (Nat.le_refl _)⟩
 case round=>
  clear HFA HBA HSA HROW;obtain ⟨i,Fi,rfl,hi,rfl,HFI,HBI,HSI,HRI,HZI⟩:=hrel;by_cases hlt:i<ts.length
  ·obtain ⟨rd,hrq,hrb,c0,c1,c2,c3⟩:=Ana.reads_tok (Reads.of_own HRI.out) rfl hlt;have HTX:=hX (HT.out _ (List.getElem_mem hlt));have HST:=hX (textAd_step d ts hlt);have hrw:(rd.add (i*4)).block<wr.heap.size:=by rw[block_of_add];exact hrb
   have h4:(0:Int)≤(i:Int):=by omega
   have h5:(i:Int)<(ts.length:Int):=by omega
   have HLT:Hid (i<ts.length):=hX hlt;subst hrq;generalize ts[i]=tk0 at *;obtain ⟨tx,ps,fr,tl⟩:=tk0;dsimp only at *;go_upto_region 4 with fail;have BT:=hX (Blk.new wr 179 #[.string tx,.int .i64 ps,.int .i64 fr,.int .i64 tl]);have HBQ:=hX ((Below.refl _ wr).alloc (Nat.le_refl _) (.cells #[.string tx,.int .i64 ps,.int .i64 fr,.int .i64 tl] 179));clear c0 c1 c2 c3 hrw;generalize wr.alloc (.cells #[.string tx,.int .i64 ps,.int .i64 fr,.int .i64 tl] 179)=W7 at *;obtain ⟨t0,t1,t2,t3⟩:=tok4 BT.out;have HF7:=hX (HFI.out.keep (w':=W7) (fun g hg=>HBQ.out.block g (HFI.out.lt hg).2));have HB7:Hid (But F w W7):=hX (HBI.out.trans (But.of_below HBQ.out));have HR7:=hX (own_below HRI.out HBQ.out);have HZ7:Hid (V1.heap.size≤W7.heap.size):=hX (Nat.le_trans HZI.out HBQ.out.size);have hB7:B≤W7.heap.size:=by have:=HZ7.out;omega
   have HAD:=hX (addF_any W7 B fb k sv { x with adds:=x.adds++textAd d (ts.take i) } Fi tx d ps HF7.out (by show (x.adds++textAd d (ts.take i)).length≤_;rw[List.length_append];simp only[textAd,List.length_map,List.length_take];omega) HTX.out hd hB7);go_wp2_with fail;refine HAD.out.mono ?_;rintro e W8 ⟨rfl,hb8,F8,h8,hf8⟩;have HF8:=hX h8;have HB8:=hX hb8;have HS8:=hX hf8;clear h8 hb8 hf8 t0 t1 t2 t3;go_wp2_with fail;go_roundg (ts.length - (i+1))
   case measure=>have:=HLT.out;omega
   case rel=>
    refine ⟨i+1,F8,by go_num,by have:=HLT.out;omega,rfl,hX ?_,hX (HB7.out.more HB8.out (fun g hg=>(HSI.out g hg).imp id (fun h=>Nat.le_trans hz1 h))),hX (fun g hg=>(HS8.out g hg).elim (HSI.out g) (fun h=>.inr (Nat.le_trans HZ7.out h))),hX (own_stay HR7.out fun g e=>HB8.out.block g (HR7.out.lt g e).2 fun hF=>?_),hX (Nat.le_trans HZ7.out HB8.out.size)⟩
    ·rw[HST.out,←List.append_assoc];exact HF8.out
    ·obtain ⟨r1,r2⟩:=HRB.out g e;rcases HSI.out g hF with h | h
     ·have:=HFW.out g h;omega
     ·omega
  ·obtain rfl:i=ts.length:=by omega
   have HFE:Hid (FieldAt wr B fb k sv { x with adds:=x.adds++textAd d ts } Fi):=hX (by have:=HFI.out;rwa [List.take_length] at this);clear HFI HRI hlt;obtain ⟨bm,n,D,bt,Di,rv,vl,vt,vn,vp,bt1,bn,bp,h1,h2,h3⟩:=HFE.out;have c2:wr.cell? ⟨fb,2,none⟩=some vl:=h1.self.cell 2;have hBw:B≤wr.heap.size:=by have:=HZI.out;omega
   have hbf:fb<wr.heap.size:=h1.self.lt;have HI1:=hX h1;have HN2:=hX h2;have HF3:=hX h3;clear h1 h2 h3 HFE;obtain ⟨i0,hi1,hz0,hz1',hz2⟩:=info_parts infoL;have hown:(wr.alloc (.cells #[.int .i64 (ts.length:Int)] 2)).ownsRow B 2 1 vl x.lens.length (intCells x.lens):=HI1.out.lens.alloc _;have hcA:(wr.alloc (.cells #[.int .i64 (ts.length:Int)] 2)).cell? ⟨fb,2,none⟩=some vl:=(((Below.refl _ wr).alloc (Nat.le_refl _) _).cell hbf).trans c2
   have hrd:Reads (wr.alloc (.cells #[.int .i64 (ts.length:Int)] 2)) (wr.heap.size+1) 1 (some ⟨wr.heap.size,0,none⟩) 1 [.int .i64 (ts.length:Int)]:=⟨rfl,fun _=>⟨_,rfl,Nat.lt_succ_self _,World.news_of_block (Blk.new wr _ _)⟩⟩
   have hoc:∀u∈[Value.int .i64 (ts.length:Int)],u.oneCell'=true:=by intro u hu;simp only[List.mem_cons,List.not_mem_nil,or_false] at hu;rcases hu with rfl;rfl
   go_wp2_with (at_builtin;refine Words.wpList_append_any _ rfl (.tmp 38) (.tmp 41) 50 rfl B 2 i0 (.int .i64 0) 1 8 Tryz.underlying50 hi1 hz0 hz1' hz2 rfl (by decide) _ _ _ rfl hown (wr.heap.size+1) (some ⟨wr.heap.size,0,none⟩) 1 1 [.int .i64 (ts.length:Int)] rfl hrd hoc ?e3 ?e4 ?e5 ?_);case e3=>unfold maxLen;omega
   case e4=>omega
   case e5=>exact Nat.le_trans hBw (by simp)
   intro v' W2 ho hg hat;obtain ⟨a',c',rfl⟩:=own_sl ho;replace hg:(wr.alloc (.cells #[.int .i64 (ts.length:Int)] 2)).grownBy W2 vl.ownBlock:=hg;have hgw:wr.grownBy W2 vl.ownBlock:=(World.grownBy_alloc wr _ vl.ownBlock).trans hg;have hfr:some fb≠vl.ownBlock:=fun e=>(List.nodup_cons.1 HI1.out.nd).1 (List.mem_append_left _ (mem_own.2 e.symm));have hb2:=HI1.out.self.grown hgw hfr;have p2:W2.cell? ⟨fb,2,none⟩=some vl:=hb2.cell 2;have z2:W2.frozen? ⟨fb,2,none⟩=false:=hb2.frozen 2;have HUP:=hX (HI1.out.lensUp hgw ho (hat.imp id fun e=>⟨_,e,by omega⟩));have HGW:=hX hgw;have HAT:Hid ((Value.slice a' (x.lens.length+1) c').ownBlock=vl.ownBlock∨∃g,(Value.slice a' (x.lens.length+1) c').ownBlock=some g∧wr.heap.size≤g):=hX (hat.imp id fun e=>⟨_,e,by omega⟩);clear ho hg hat hgw hfr hb2 c2 hcA hown hrd hoc;go_wp2_with fail;go_end0;have hbu:But Fi wr (W2.setCell ⟨fb,2,none⟩ (.slice a' (x.lens.length+1) c')):=(But.grown (N:=Fi) HGW.out fun r e=>(HF3.out r).2 (.inl (List.mem_cons_of_mem _ (List.mem_append_left _ (mem_own.2 e))))).set (.inl ((HF3.out fb).2 (.inl (List.mem_cons_self ..)))) _;refine ⟨rfl,HBI.out.more hbu (fun g hg=>(HSI.out g hg).imp id (fun h=>Nat.le_trans hz1 h)),FootF fb bm { x with adds:=x.adds++textAd d ts,lens:=x.lens++[(ts.length:Int)] } bt rv (.slice a' (x.lens.length+1) c') (bt1++(bn++bp)),⟨bm,n,D,bt,Di,rv,_,vt,vn,vp,bt1,bn,bp,HUP.out,HN2.out,fun g=>Iff.rfl⟩,fun g hg=>?_⟩
   have hFi:Fi g∨wr.heap.size≤g:=by
    rcases hg with hg | hg
    ·rcases List.mem_cons.1 hg with rfl | hg
     ·exact .inl ((HF3.out g).2 (.inl (List.mem_cons_self ..)))
     ·rcases List.mem_append.1 hg with hg | hg
      ·rcases HAT.out with e | ⟨g',e,h⟩
       ·exact .inl ((HF3.out g).2 (.inl (List.mem_cons_of_mem _ (List.mem_append_left _ (mem_own.2 (e ▸ mem_own.1 hg))))))
       ·have:=mem_own.1 hg;rw[e] at this;obtain rfl:=Option.some.inj this;exact .inr h
      ·exact .inl ((HF3.out g).2 (.inl (List.mem_cons_of_mem _ (List.mem_append_right _ hg))))
    ·exact .inl ((HF3.out g).2 (.inr hg))
   rcases hFi with h | h
   ·exact (HSI.out g h).imp id (fun h=>Nat.le_trans hz1 h)
   ·exact .inr (Nat.le_trans hz1 (Nat.le_trans HZI.out h))
end Go.Proofs.YtigfcihakghddaaGreatDoor.BufT
end
section
namespace Go.Proofs.YtigfcihakghddaaGreatDoor.BufT
open Go Go.RowKit Words Tree MapV BufP
theorem sortI_any (W:World) (B n c:Nat) (a:Option Addr) (zs:List Int) (h:W.ownsRow B 2 1 (.slice a n c) n (intCells zs)) (hn:zs.length=n) (hs:n≤1099511627776) :
 Calls Tryz.prog 108 #[.slice a n c] W fun e w'=>e = .returned (.tuple #[])∧w'.ownsRow B 2 1 (.slice a n c) n (intCells (zs.mergeSort fun x y=>decide (x≤y)))∧W.grownBy w' (Value.slice a n c).ownBlock:=by
 subst hn
 rcases h.2 with ⟨e,h0⟩ | ⟨g,cap,cur,e,hB,hb,h1,h2,h3,h4⟩
 ·injection e with e1 e2 e3;have hz:zs=[]:=List.length_eq_zero_iff.1 h0;subst hz e1;refine (Tryz.slices_Sort_int_none_f108 none c W).mono ?_;rintro e w' ⟨rfl,rfl⟩;exact ⟨rfl,by simpa [intCells] using h,⟨rfl,rfl,rfl,Nat.le_refl _,fun _ _ _=>rfl⟩⟩
 ·injection e with e1 e2 e3;subst e1 e3;have hH:=holds_of_blockI (ss:=zs) hb (by simpa [intCells] using h4);refine (Tryz.slices_Sort_int_f108 g 0 c zs W hH (Array.getElem?_eq_some_iff.1 hb).1 (by omega)).mono ?_;rintro e w' ⟨rfl,n,os,rfl⟩;exact ⟨rfl,ownsRow_sortedI (by simp) hB hb h1 h2 h3,grownBy_sortedI _⟩
theorem sortS_any (W:World) (B n c:Nat) (a:Option Addr) (zs:List (List UInt8)) (h:W.ownsRow B 9 1 (.slice a n c) n (strCells zs)) (hn:zs.length=n) (hs:n≤1099511627776) :
 Calls Tryz.prog 106 #[.slice a n c] W fun e w'=>e = .returned (.tuple #[])∧w'.ownsRow B 9 1 (.slice a n c) n (strCells (zs.mergeSort Go.leB))∧W.grownBy w' (Value.slice a n c).ownBlock:=by
 subst hn
 rcases h.2 with ⟨e,h0⟩ | ⟨g,cap,cur,e,hB,hb,h1,h2,h3,h4⟩
 ·injection e with e1 e2 e3;have hz:zs=[]:=List.length_eq_zero_iff.1 h0;subst hz e1;refine (Tryz.slices_Sort_string_none none c W).mono ?_;rintro e w' ⟨rfl,rfl⟩;exact ⟨rfl,by simpa [strCells] using h,⟨rfl,rfl,rfl,Nat.le_refl _,fun _ _ _=>rfl⟩⟩
 ·injection e with e1 e2 e3;subst e1 e3;have hH:=holds_of_block (ss:=zs) hb (by simpa [strCells] using h4);refine (Tryz.slices_Sort_string g 0 c zs W hH (Array.getElem?_eq_some_iff.1 hb).1 (by omega)).mono ?_;rintro e w' ⟨rfl,n,os,rfl⟩;exact ⟨rfl,ownsRow_sorted (by simp) hB hb h1 h2 h3,grownBy_sorted _⟩
theorem compact_len (zs:List (List UInt8)):(Lib.compact zs).length≤zs.length:=by
 unfold Lib.compact Lib.compactUpTo;rw[List.length_map];exact Nat.le_trans (List.length_filter_le _ _) (by simp)
theorem compactS_any (W:World) (B n c:Nat) (a:Option Addr) (zs:List (List UInt8)) (h:W.ownsRow B 9 1 (.slice a n c) n (strCells zs)) (hn:zs.length=n) (hs:n≤1099511627776) :
 Calls Tryz.prog 107 #[.slice a n c] W fun e w'=>e = .returned (.slice a (Lib.compact zs).length c)∧(Lib.compact zs).length≤c∧ClipRow w' B 9 (.slice a (Lib.compact zs).length c) (strCells (Lib.compact zs))∧W.grownBy w' (Value.slice a n c).ownBlock:=by
 subst hn
 rcases h.2 with ⟨e,h0⟩ | ⟨g,cap,cur,e,hB,hb,h1,h2,h3,h4⟩
 ·injection e with e1 e2 e3;have hz:zs=[]:=List.length_eq_zero_iff.1 h0;subst hz e1 e3;refine (Tryz.slices_Compact_string_empty none 0 W).mono ?_;rintro e w' ⟨rfl,rfl⟩;exact ⟨rfl,Nat.le_refl _,.inl ⟨rfl,rfl⟩,⟨rfl,rfl,rfl,Nat.le_refl _,fun _ _ _=>rfl⟩⟩
 ·injection e with e1 e2 e3;subst e1 e3;have hH:=holds_of_block (ss:=zs) hb (by simpa [strCells] using h4);refine (Tryz.slices_Compact_string g 0 c zs W hH (by omega) h1).mono ?_;rintro e w' ⟨rfl,q,rfl⟩;have hcl:=compact_len zs;have hg0:∀x:World,Go.Sort.grow x #[]=x:=fun x=>by simp[Go.Sort.grow]
  have ho:=ownsRow_sorted (n:=q) (os:=#[]) (ts:=Lib.compact zs++List.replicate (zs.length - (Lib.compact zs).length) []) (ss:=zs) (by simp;omega) hB hb h1 h2 h3;have hgr:=grownBy_sorted (w:=W) (g:=g) (n:=q) (os:=#[]) (Lib.compact zs++List.replicate (zs.length - (Lib.compact zs).length) []).toArray;rw[hg0] at ho hgr;refine ⟨rfl,Nat.le_trans hcl h1,?_,hgr⟩
  rcases ho.2 with ⟨e,_⟩ | ⟨g',cap',cur',e,hB',hb',h1',h2',h3',h4'⟩
  ·cases e
  ·injection e with e1 e2 e3;injection e1 with e1;injection e1 with e1;subst e1 e3;refine .inr ⟨g,c,cur',by simp[strCells],hB',hb',by simp[strCells];omega,by omega,h2',?_⟩;have h5:(strCells (Lib.compact zs)).length=(Lib.compact zs).length:=by simp[strCells]
   rw[h5];have h6:cur'.toList.take (Lib.compact zs).length=(cur'.toList.take (zs.length*1)).take (Lib.compact zs).length:=by rw[List.take_take,Nat.min_eq_left (by omega)]
   rw[h6,h4',List.map_append,List.take_append_of_le_length (by simp),List.take_of_length_le (by simp)];rfl
end Go.Proofs.YtigfcihakghddaaGreatDoor.BufT
end
section
namespace BufP
theorem leB_trans:∀a b c:List UInt8,Go.leB a b=true→Go.leB b c=true→Go.leB a c=true:=fun a b c h1 h2=>by simp only[Go.leB,decide_eq_true_eq] at *;exact List.le_trans h1 h2
theorem leB_total:∀a b:List UInt8,(Go.leB a b || Go.leB b a)=true:=fun a b=>by simp only[Go.leB,Bool.or_eq_true,decide_eq_true_eq];exact List.le_total a b
theorem leZ_trans:∀a b c:Int,decide (a≤b)=true→decide (b≤c)=true→decide (a≤c)=true:=fun a b c h1 h2=>by simp only[decide_eq_true_eq] at *;omega
theorem leZ_total:∀a b:Int,(decide (a≤b) || decide (b≤a))=true:=fun a b=>by simp only[Bool.or_eq_true,decide_eq_true_eq];omega
theorem nodup_terms (L:List Ad):(termsF L).Nodup:=(List.mergeSort_perm _ _).nodup_iff.2 (nodup_uniq _)
theorem nodup_docs (L:List Ad) (s:List UInt8):(docsF L s).Nodup:=(List.mergeSort_perm _ _).nodup_iff.2 (nodup_uniq _)
theorem terms_rise (L:List Ad):(termsF L).Pairwise fun a b=>a<b:=by
 have h1:(termsF L).Pairwise fun a b=>Go.leB a b=true:=List.pairwise_mergeSort leB_trans leB_total _;refine (h1.and (nodup_terms L)).imp fun {a b} ⟨h,hne⟩=>?_;simp only[Go.leB,decide_eq_true_eq] at h;exact Std.lt_of_le_of_ne h hne
theorem docs_rise (L:List Ad) (s:List UInt8):(docsF L s).Pairwise fun a b=>a<b:=by
 have h1:(docsF L s).Pairwise fun a b=>decide (a≤b)=true:=List.pairwise_mergeSort leZ_trans leZ_total _;refine (h1.and (nodup_docs L s)).imp fun {a b} ⟨h,hne⟩=>?_;simp only[decide_eq_true_eq] at h;omega
theorem rise_ext:∀{l m:List (List UInt8)},l.Pairwise (fun a b=>a<b)→m.Pairwise (fun a b=>a<b)→(∀x,x∈l↔x∈m)→l=m:=fun {l m} h1 h2 h=>by
 have n1:l.Nodup:=h1.imp fun {a b} h e=>by subst e;exact absurd h (List.lt_irrefl _)
 have n2:m.Nodup:=h2.imp fun {a b} h e=>by subst e;exact absurd h (List.lt_irrefl _)
 exact List.Perm.eq_of_pairwise (le:=fun a b=>a<b) (fun a b _ _ h1 h2=>absurd (List.lt_trans h1 h2) (List.lt_irrefl _)) h1 h2 ((List.perm_ext_iff_of_nodup n1 n2).2 h)
theorem riseZ_ext:∀{l m:List Int},l.Pairwise (fun a b=>a<b)→m.Pairwise (fun a b=>a<b)→(∀x,x∈l↔x∈m)→l=m:=fun {l m} h1 h2 h=>by
 have n1:l.Nodup:=h1.imp fun {a b} h e=>by omega
 have n2:m.Nodup:=h2.imp fun {a b} h e=>by omega
 exact List.Perm.eq_of_pairwise (le:=fun a b=>a<b) (fun a b _ _ h1 h2=>by omega) h1 h2 ((List.perm_ext_iff_of_nodup n1 n2).2 h)
def cnt (L:List Ad) (d:Int) (s:List UInt8):Nat:=(posF L s d).length
end BufP
end
section
namespace BufP
open Go Go.Lib
section
variable {α:Type} [Inhabited α] [DecidableEq α]
theorem mem_upTo {d:Array α} {x:α}:∀{m:Nat},x∈compactUpTo d m↔∃j,j<m∧(d[j]!)=x
 | 0=>by simp[compactUpTo]
 | m+1=>by
  rw[compactUpTo_succ,List.mem_append,mem_upTo (m:=m)];constructor
  ·rintro (⟨j,hj,e⟩ | h)
   ·exact ⟨j,by omega,e⟩
   ·split at h
    ·exact ⟨m,by omega,(List.mem_singleton.1 h).symm⟩
    ·cases h
  ·rintro ⟨j,hj,e⟩;rcases Nat.lt_or_ge j m with h | h
   ·exact .inl ⟨j,h,e⟩
   ·obtain rfl:j=m:=by omega
    by_cases hk:keeps d j=true
    ·exact .inr (by rw[if_pos hk,e];exact List.mem_singleton.2 rfl)
    ·refine .inl ⟨j - 1,?_,?_⟩
     ·have:j≠0:=fun e0=>hk (by simp[keeps,e0]);omega
     ·rw[←e];have h2:¬(j=0∨d[j]!≠d[j - 1]!):=by simpa [keeps] using hk
      simp only[not_or,Decidable.not_not] at h2;exact h2.2.symm
theorem mem_compact {zs:List α} {x:α}:x∈compact zs↔x∈zs:=by
 unfold compact;rw[mem_upTo];constructor
 ·rintro ⟨j,hj,e⟩;have:(zs.toArray[j]!)=zs[j]:=by simp[hj]
  rw[←e,this];exact List.getElem_mem hj
 ·intro h;obtain ⟨j,hj,e⟩:=List.mem_iff_getElem.1 h;exact ⟨j,hj,by simp[hj,e]⟩
end
theorem rise_upTo {d:Array (List UInt8)}:∀{m:Nat},m≤d.size→(∀i j,i<j→j<d.size→d[i]!≤d[j]!)→(compactUpTo d m).Pairwise fun a b=>a<b
 | 0,_,_=>by simp[compactUpTo]
 | m+1,hm,hs=>by
  rw[compactUpTo_succ,List.pairwise_append];refine ⟨rise_upTo (by omega) hs,by split <;> simp,fun a ha b hb=>?_⟩;split at hb
  ·rename_i hk
   rw[List.mem_singleton.1 hb];obtain ⟨j,hj,rfl⟩:=mem_upTo.1 ha;have hk2:m=0∨d[m]!≠d[m - 1]!:=by simpa [keeps] using hk
   have hne:=hk2.resolve_left (by omega);have h1:d[m - 1]!≤d[m]!:=hs (m - 1) m (by omega) (by omega);have h2:d[m - 1]!<d[m]!:=Std.lt_of_le_of_ne h1 (fun e=>hne e.symm);rcases Nat.lt_or_ge j (m - 1) with h | h
   ·exact Std.lt_of_le_of_lt (hs j (m - 1) h (by omega)) h2
   ·obtain rfl:j=m - 1:=by omega
    exact h2
  ·cases hb
theorem rise_compact {l:List (List UInt8)}:(compact (l.mergeSort Go.leB)).Pairwise fun a b=>a<b:=by
 have h1:(l.mergeSort Go.leB).Pairwise fun a b=>Go.leB a b=true:=List.pairwise_mergeSort leB_trans leB_total _;unfold compact;refine rise_upTo (Nat.le_refl _) fun i j hij hj=>?_;have hj:j<(l.mergeSort Go.leB).length:=by simpa using hj
 have hi:i<(l.mergeSort Go.leB).length:=by omega
 have:=List.pairwise_iff_getElem.1 h1 i j hi hj hij;simp only[Go.leB,decide_eq_true_eq] at this;have e:∀k (hk:k<(l.mergeSort Go.leB).length),((l.mergeSort Go.leB).toArray[k]!)=(l.mergeSort Go.leB)[k]:=fun k hk=>by rw[getElem!_pos _ k (by simpa using hk)];simp
 rw[e i hi,e j hj];exact this
theorem mem_sortC {l:List (List UInt8)} {s:List UInt8}:s∈compact (l.mergeSort Go.leB)↔s∈l:=by rw[mem_compact,(List.mergeSort_perm _ _).mem_iff]
end BufP
end
section
namespace BufP
open Go Go.Proofs.YtigfcihakghddaaGreatDoor.Tree SchP
structure ID where
 terms:List (List UInt8)
 posts:List (List (Int × List Int))
 lens:List Int
 texts:List (List (List UInt8))
 nums:List (List Int)
 pts:List (Int × List Int)
def doneF (x:FD):ID:=⟨termsF x.adds,(termsF x.adds).map (postsF x.adds),x.lens,x.texts,x.nums,x.pts⟩
def strV (s:List UInt8):Value:=.string ⟨s.toArray⟩
def strsT (l:List (List UInt8)):T:=rowT 1 (fun s=>[.lit (strV s)]) l
def intsT (l:List Int):T:=rowT 1 (fun z=>[.lit (.int .i64 z)]) l
def pairT (p:Int × List Int):List T:=[.lit (.int .i64 p.1),intsT p.2]
def invT (x:ID):List T:=[strsT x.terms,rowT 1 (fun ps=>[rowT 2 pairT ps]) x.posts,intsT x.lens,rowT 1 (fun l=>[strsT l]) x.texts,rowT 1 (fun l=>[intsT l]) x.nums,rowT 2 pairT x.pts]
theorem invT_len (x:ID):(invT x).length=6:=rfl
theorem pairT_len (p:Int × List Int):(pairT p).length=2:=rfl
theorem mem_kwsF {cs:List CT} {s:List UInt8}:s∈kwsF cs↔∃c∈cs,c.text.data.toList=s:=by
 unfold kwsF;rw[mem_sortC,List.mem_map]
end BufP
end
