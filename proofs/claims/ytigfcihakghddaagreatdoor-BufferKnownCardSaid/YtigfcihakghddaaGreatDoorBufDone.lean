/- Lemmas that the last text leans on. -/
import Derived.Test.YtigfcihakghddaaGreatDoorPack37
import Derived.Test.YtigfcihakghddaaGreatDoorPack11
import Derived.Test.YtigfcihakghddaaGreatDoorBufAdd
import Derived.Test.YtigfcihakghddaaGreatDoorTake
import Derived.Test.YtigfcihakghddaaGreatDoorPack38
import Derived.Deep.LoopGhost
import Derived.Deep.RegionHeld3
import Derived.Deep.QuietTactic
import Derived.LoopTactic
set_option linter.all false
namespace Go.Proofs.YtigfcihakghddaaGreatDoor.BufT
open Go Go.RowKit Go.Maps Go.WideMaps Words Tree Owned MapV BufP Kit
theorem infoPs:(Tryz.prog.info? 59).map (fun i=>(i.zero,i.size,i.bytes))=some (some (.agg #[.int .i64 0,.slice none 0 0]),2,32):=by kernel_rfl
theorem infoPr:(Tryz.prog.info? 56).map (fun i=>(i.zero,i.size,i.bytes))=some (some (.slice none 0 0),1,24):=by kernel_rfl
theorem infoSt:(Tryz.prog.info? 9).map (fun i=>(i.zero,i.size,i.bytes))=some (some (.string ⟨#[]⟩),1,16):=by kernel_rfl
theorem own_slm {w:World} {B n m:Nat} {e:TypeId} {v:Value} {xs:List Value} (h:w.ownsRow B e m v n xs):∃a c,v = .slice a n c:=by
 rcases h.2 with ⟨rfl,h0⟩ | ⟨g,cap,cur,rfl,_⟩
 ·exact ⟨none,0,by rw[h0]⟩
 ·exact ⟨_,_,rfl⟩
theorem uniq_len {α:Type} [DecidableEq α]:∀l:List α,(uniq l).length≤l.length
 | []=>Nat.le_refl _
 | a::l=>by rw[uniq,List.length_cons,List.length_cons];have:=uniq_len l;have:=List.length_filter_le (fun x=>decide (x≠a)) (uniq l);omega
theorem terms_len (L:List Ad):(termsF L).length≤L.length:=by
 unfold termsF;rw[List.length_mergeSort];have:=uniq_len (L.map (·.term));simpa using this
theorem docs_len (L:List Ad) (s:List UInt8):(docsF L s).length≤L.length:=by
 unfold docsF;rw[List.length_mergeSort];have h1:=uniq_len ((L.filter fun a=>decide (a.term=s)).map (·.doc));have h2:=List.length_filter_le (fun a:Ad=>decide (a.term=s)) L;rw[List.length_map] at h1;omega
section
variable {P:Program} {kS kI e:TypeId} {B:Nat} {w:World} {bm:Nat} {L:List Ad} {n:Nat} {D:DataW Value} {bt:List UInt8→Nat} {Di:List UInt8→DataW Value} {rv:List UInt8→Int→Value}
theorem TermsAt.keyLen (h:TermsAt P kS kI e B w bm (hasT L) L n D bt Di rv) (K:Keyed P kS) (hk:P.underlying kS=some .string) {s:List UInt8} (hs:hasT L s):s.length≤maxLen:=
 strKeys_le h.out hk s (((keysS_of h.out K hk).2 s).2 (((MapV.held h.out).has_iff _).2 ⟨_,h.outAt s hs⟩))
theorem TermsAt.keyWf (h:TermsAt P kS kI e B w bm (hasT L) L n D bt Di rv) (K:Keyed P kI) (hk:P.underlying kI=some (.int .i64)) {s:List UInt8} {d:Int} (hd:hasD L s d):(Lit.int .i64 d).wf=true:=by
 have hi:=h.inn s hd.hasT;obtain ⟨es,hD,hko⟩:=World.ownsMap.keysOf hi;have h1:=((MapV.held hi).has_iff (.int .i64 d)).2 ⟨_,h.innAt s d hd⟩;rw[hD,has_eq,List.any_eq_true] at h1;obtain ⟨p,hp,hsame⟩:=h1;obtain ⟨v,hv⟩:=hko p hp;obtain ⟨x,_,hx,hw⟩:=Maps.keyOf_i64 hk hv;rw[hx] at hsame;have:x=d:=by simpa [Lit.sameKey] using hsame
 rw[←this];exact hw
end
def PostsJ (W2:World) (B:Nat) (L:List Ad) (rv:List UInt8→Int→Value) (s:List UInt8) (a:Option Addr) (c j:Nat) (wr:World):Prop:=
 Below W2.heap.size W2 wr∧∃vs,wr.ownsRow W2.heap.size 59 2 (.slice a j c) j (flat (fun p=>[.int .i64 p.1]) ((postsF L s).take j) vs)∧SubL W2 B 3 (fun p=>intCells p.2) ((postsF L s).take j) vs (((docsF L s).take j).flatMap fun d=>(rv s d).ownBlock.toList)
theorem PostsJ.start (W2:World) (B:Nat) (L:List Ad) (rv:List UInt8→Int→Value) (s:List UInt8):PostsJ W2 B L rv s none 0 0 W2:=⟨Below.refl _ _,[],by simpa [flat] using World.ownsRow_nil _ _ _ _,by simpa using SubL.nil⟩
theorem postsF_len (L:List Ad) (s:List UInt8):(postsF L s).length=(docsF L s).length:=by simp[postsF]
theorem PostsJ.step {W2 wr:World} {B:Nat} {L:List Ad} {rv:List UInt8→Int→Value} {s:List UInt8} {a:Option Addr} {c j:Nat} {u:Value} (h:PostsJ W2 B L rv s a c j wr) (hj:j<(docsF L s).length) (hu:ClipRow W2 B 3 u (intCells (posF L s (docsF L s)[j]))) (hub:u.ownBlock=(rv s (docsF L s)[j]).ownBlock) :
 ∃xs,wr.ownsRow W2.heap.size 59 2 (.slice a j c) j xs∧∀(a':Option Addr) (c':Nat) (w3:World),Below W2.heap.size W2 w3→w3.ownsRow W2.heap.size 59 2 (.slice a' (j+1) c') (j+1) (xs++[.int .i64 (docsF L s)[j],u])→PostsJ W2 B L rv s a' c' (j+1) w3:=by
 obtain ⟨hb,vs,h1,h2⟩:=h;refine ⟨_,h1,fun a' c' w3 hb3 ho=>⟨hb3,vs++[u],?_,?_⟩⟩
 ·have hp:j<(postsF L s).length:=by rw[postsF_len];exact hj
  have e:(postsF L s)[j]=((docsF L s)[j],posF L s (docsF L s)[j]):=by simp[postsF]
  rw[List.take_succ_eq_append_getElem hp,e,flat_append h2.len];simpa [flat] using ho
 ·have hp:j<(postsF L s).length:=by rw[postsF_len];exact hj
  have e:(postsF L s)[j]=((docsF L s)[j],posF L s (docsF L s)[j]):=by simp[postsF]
  rw[List.take_succ_eq_append_getElem hp,List.take_succ_eq_append_getElem hj,e,List.flatMap_append,List.flatMap_singleton,←hub];refine h2.append ?_;have:=SubL.cons (sub:=fun p:Int × List Int=>intCells p.2) (x:=((docsF L s)[j],posF L s (docsF L s)[j])) hu .nil;rwa [List.append_nil] at this
theorem PostsJ.all {W2 wr:World} {B:Nat} {L:List Ad} {rv:List UInt8→Int→Value} {s:List UInt8} {a:Option Addr} {c:Nat} (h:PostsJ W2 B L rv s a c (docsF L s).length wr) (hB:B≤W2.heap.size):(docsF L s).length≤c∧PostC wr B (postsF L s) (.slice a (docsF L s).length (docsF L s).length) (blkT L rv s):=by
 obtain ⟨hb,vs,h1,h2⟩:=h;have e1:(postsF L s).take (docsF L s).length=postsF L s:=by rw[←postsF_len];exact List.take_length
 rw[e1] at h1 h2;rw[List.take_length] at h2;have hc:=ClipM.of_own h1;obtain ⟨a',c',e,hle⟩:=hc.form;injection e with _ _ e3;subst e3;refine ⟨hle,vs,?_,h2.bel hb⟩;rw[postsF_len];exact hc.clip.2.from_ hB
def DoneRet (w:World) (B fb:Nat) (x:FD) (F:Nat→Prop) (e:Ending) (w':World):Prop:=
 ∃v0 v1 v2 v3 v4 v5 bI bS bZ,e = .returned (.agg #[v0,v1,v2,v3,v4,v5])∧DoneAt w' B (doneF x) v0 v1 v2 v3 v4 v5 bI bS bZ∧(∀g∈bI++(bS++bZ),F g∨w.heap.size≤g)∧But (fun g=>g=fb) w w'
set_option maxRecDepth 100000 in
set_option maxHeartbeats 8000000 in
theorem done_any (w:World) (B fb k:Nat) (sv:Value) (x:FD) (F:Nat→Prop) (h:FieldAt w B fb k sv x F) (hL:x.adds.length≤137438953472) (hB:B≤w.heap.size) :
 Calls Tryz.prog 43 #[.pointer (some ⟨fb,0,none⟩)] w (DoneRet w B fb x F):=by
 obtain ⟨bm,n,D,bt,Di,rv,vl,vt,vn,vp,bt1,bn,bp,h1,h2,h3⟩:=h;have hn:n≤1099511627776:=by omega
 have hfl:fb<w.heap.size:=h1.self.lt;have hB0:Below w.heap.size w (w.alloc (.cells #[.slice none 0 0,.slice none 0 0,.slice none 0 0,.slice none 0 0,.slice none 0 0,.slice none 0 0] 53)):=(Below.refl _ _).alloc (Nat.le_refl _) _
 have hHI:=h1.keep (w':=w.alloc (.cells #[.slice none 0 0,.slice none 0 0,.slice none 0 0,.slice none 0 0,.slice none 0 0,.slice none 0 0] 53)) (fun g hg=>hB0.block g (by
  rcases hg with hg | hg
  ·exact (h1.ltL hg).2
  ·exact h1.terms.bound hg))
 have HB0:=hX hB0;have HI0:=hX hHI;have HF3:=hX h3;have HRB:=hX (Blk.new w 53 #[.slice none 0 0,.slice none 0 0,.slice none 0 0,.slice none 0 0,.slice none 0 0,.slice none 0 0]);have HST:=hX (sortedT _ lawS hHI.terms hn);have HKT:=hX (keysT (w.alloc (.cells #[.slice none 0 0,.slice none 0 0,.slice none 0 0,.slice none 0 0,.slice none 0 0,.slice none 0 0] 53)) bm);have HTL:=hX (terms_len x.adds);clear h1 h2 h3 hB0 hHI;go_enter Tryz.func43,Tryz.ntmps43;go_upto_region 1 with fail;generalize w.alloc (.cells #[.slice none 0 0,.slice none 0 0,.slice none 0 0,.slice none 0 0,.slice none 0 0,.slice none 0 0] 53)=W0 at *;have c8:=HI0.out.self.cell 8;go_wp2_with fail;refine HKT.out.mono ?_;clear HKT;rintro e Wk ⟨rfl,rfl⟩;go_wp2_with fail;refine HST.out.mono ?_;clear HST;rintro e W1 ⟨ak,ck,rfl,hkr,hb1⟩;generalize htl:(termsF x.adds).length=nT at *;have hnT:nT≤137438953472:=by have:=HTL.out;omega
 have HKR:=hX hkr;have HB1:=hX hb1
 have HI1:=hX (HI0.out.keep (w':=W1) (fun g hg=>hb1.block g (by
  rcases hg with hg | hg
  ·exact (HI0.out.ltL hg).2
  ·exact HI0.out.terms.bound hg)))
 have HK1:=hX (DoneK.start (L:=x.adds) (rv:=rv) (show Blk W1 fb _ _ from HI1.out.self) (B:=B));have HTN:=hX htl;clear hkr hb1 c8 htl;go_upto_region 2 with fail;go_loopg [4,5,6,8,17] nT (fun m _ _ _ _ v wr=>∃(i:Nat) (vT vP:Value),v = .int .i64 i∧i≤nT∧m=nT - i∧Hid (DoneK W1 B fb k sv x.adds bm rv vl vt vn vp i i vT vP wr))
 case atStart=>exact ⟨0,_,_,rfl,Nat.zero_le _,rfl,HK1⟩
 case round=>
  clear HK1;obtain ⟨i,vT,vP,rfl,hi,rfl,HK⟩:=hrel;by_cases hlt:i<nT
  ·have hlt':i<(termsF x.adds).length:=by rw[HTN.out];exact hlt
   have hfW:fb<W0.heap.size:=Nat.lt_of_lt_of_le hfl HB0.out.size;obtain ⟨gk,rfl,hgk1,hgk2,hgk3⟩:=own_cell HKR.out hlt;have c0:wr.cell? ⟨gk,i,none⟩=some (Go.Proofs.encStr (termsF x.adds)[i]):=(HK.out.but.cell (p:=⟨gk,i,none⟩) hgk2 (fun e=>by have e:gk=fb:=e;omega)).trans (hgk3 i _ (by unfold strCells;rw[List.getElem?_map,List.getElem?_eq_getElem hlt'];rfl));have hsT:hasT x.adds (termsF x.adds)[i]:=mem_termsF.1 (List.getElem_mem hlt');have hTW:TermsAt Tryz.prog 9 3 3 B wr bm (hasT x.adds) x.adds n D bt Di rv:=HI1.out.terms.keep (fun g hg=>HK.out.but.block g (HI1.out.terms.bound hg) (fun e=>HI1.out.off g (by rw[e];exact List.mem_cons_self ..) hg))
   have hkS:keyOf Tryz.prog 9 (.string ⟨(termsF x.adds)[i].toArray⟩)=some (.string (termsF x.adds)[i]):=(by have:=keyOf_string_mk (P:=Tryz.prog) Tryz.underlying9 (s:=⟨(termsF x.adds)[i].toArray⟩) (by simpa [ByteArray.size] using hTW.keyLen lawS Tryz.underlying9 hsT);simpa using this)
   have l26:(Instr.lookup 93 (.map (some bm)) (.string ⟨(termsF x.adds)[i].toArray⟩) false).run Tryz.prog wr = .ok (.map (some (bt (termsF x.adds)[i]))) wr:=by rw[hTW.out.look_up lawS Tryz.underlying93 (zeroM wr) hkS,hTW.outAt _ hsT];rfl
   have HS1:Hid (∀(V w3:World) (vT':Value),Below wr.heap.size wr V→V.grownBy w3 vT.ownBlock→w3.ownsRow W1.heap.size 9 1 vT' (i+1) (strCells ((termsF x.adds).take i)++[Go.Proofs.encStr (termsF x.adds)[i]])→DoneK W1 B fb k sv x.adds bm rv vl vt vn vp (i+1) i vT' vP (w3.setCell ⟨fb,0,none⟩ vT')):=hX (fun V w3 vT' hb hg ho=>(HK.out.below hb).stepT hlt' hg ho);have HS2:Hid (∀(V:World) (vT' vq:Value),DoneK W1 B fb k sv x.adds bm rv vl vt vn vp (i+1) i vT' vP V→PostC V B (postsF x.adds (termsF x.adds)[i]) vq (blkT x.adds rv (termsF x.adds)[i])→∃vs,V.ownsRow W1.heap.size 56 1 vP i vs∧∀(vP':Value) (w3:World),V.grownBy w3 vP.ownBlock→w3.ownsRow W1.heap.size 56 1 vP' (i+1) (vs++[vq])→DoneK W1 B fb k sv x.adds bm rv vl vt vn vp (i+1) (i+1) vT' vP' (w3.setCell ⟨fb,1,none⟩ vP')):=hX (fun V vT' vq hD hq=>hD.stepP hlt' hq);have HSD:=hX (sortedD wr lawI hTW hn hsT);have HKD:=hX (keysD wr (bt (termsF x.adds)[i]));have HTW:=hX hTW;have HsT:=hX hsT;have c8:=HK.out.self.cell 8;have HDL:=hX (docs_len x.adds (termsF x.adds)[i]);have h4:(0:Int)≤(i:Int):=by omega
   have h5:(i:Int)<(nT:Int):=by omega
   have HLT:Hid (i<nT):=hX hlt;clear hTW hsT hkS hgk1 hgk2 hgk3 hfW;generalize (termsF x.adds)[i]=s at *;dsimp only[Go.Proofs.encStr] at c0;clear hlt';go_upto_region 6 with fail;clear c0 c8 l26;go_wp2_with fail;refine HKD.out.mono ?_;clear HKD;rintro e Wk ⟨rfl,rfl⟩;go_wp2_with fail;refine HSD.out.mono ?_;clear HSD;rintro e W2 ⟨adk,cdk,rfl,hdr,hb2⟩;generalize hdl:(docsF x.adds s).length=nD at *;have hnD:nD≤137438953472:=by have:=HDL.out;omega
   have HDR:=hX hdr;have HB2:=hX hb2;have HDN:=hX hdl;have HT2:=hX (HTW.out.keep (w':=W2) (fun g hg=>hb2.block g (HTW.out.bound hg)));have HJ0:=hX (PostsJ.start W2 B x.adds rv s);clear hdr hb2 hdl
   obtain ⟨wo,rfl⟩:∃wo:World,wo=wr:=⟨_,rfl⟩
   go_upto_region 7 with fail;go_loopg [6,8,31] nD (fun m v6 _ v wr=>∃(j:Nat) (ap:Option Addr) (cp:Nat),v6 = .slice ap j cp∧v = .int .i64 j∧j≤nD∧m=nD - j∧Hid (PostsJ W2 B x.adds rv s ap cp j wr))
   case atStart=>exact ⟨0,none,0,rfl,rfl,Nat.zero_le _,rfl,HJ0⟩
   case round=>
    clear HJ0;obtain ⟨j,ap,cp,rfl,rfl,hj,rfl,HJ⟩:=hrel;by_cases hjlt:j<nD
    ·have hjl:j<(docsF x.adds s).length:=by rw[HDN.out];exact hjlt
     obtain ⟨gd,rfl,hgd1,hgd2,hgd3⟩:=own_cell HDR.out hjlt;have c0:wr.cell? ⟨gd,j,none⟩=some (.int .i64 (docsF x.adds s)[j]):=(HJ.out.1.cell (p:=⟨gd,j,none⟩) hgd2).trans (hgd3 j _ (by unfold intCells;rw[List.getElem?_map,List.getElem?_eq_getElem hjl];rfl));have hdD:hasD x.adds s (docsF x.adds s)[j]:=mem_docsF.1 (List.getElem_mem hjl);have hrow:=HT2.out.row s _ hdD;obtain ⟨ao,co,e39⟩:=own_slice hrow;generalize hpl:(posF x.adds s (docsF x.adds s)[j]).length=np at *
     have hcr:ClipRow W2 B 3 (.slice ao np co) (intCells (posF x.adds s (docsF x.adds s)[j])):=by
      have hl:(intCells (posF x.adds s (docsF x.adds s)[j])).length=np:=by rw[←hpl];simp[intCells]
      refine ClipRow.of_own ?_;rw[hl,←e39];exact hrow
     obtain ⟨-,hle9,hcr2⟩:=hcr.clip;have hkI:keyOf Tryz.prog 3 (.int .i64 (docsF x.adds s)[j])=some (.int .i64 (docsF x.adds s)[j]):=keyOf_int_mk Tryz.underlying3 (HT2.out.keyWf lawI Tryz.underlying3 hdD);have hm2:MapV wr Tryz.prog 3 (bt s) n (Di s):=(HT2.out.inn s HsT.out).keep (HJ.out.1.block _ (HT2.out.inn s HsT.out).lt);have l39:(Instr.lookup 143 (.map (some (bt s))) (.int .i64 (docsF x.adds s)[j]) false).run Tryz.prog wr = .ok (.slice ao np co) wr:=by rw[hm2.look_up lawI Tryz.underlying143 (zeroS wr) hkI,HT2.out.innAt s _ hdD,e39];rfl
     have hsl:np≤co:=hle9;have hub:(Value.slice ao np np).ownBlock=(rv s (docsF x.adds s)[j]).ownBlock:=by rw[e39];exact own_cut ao np np np co
     have HSJ:=hX (HJ.out.step hjl hcr2 hub);have HWF:=hX hkI;have HLJ:Hid (j<nD):=hX hjlt;have j4:(0:Int)≤(j:Int):=by omega
     have j5:(j:Int)<(nD:Int):=by omega
     have HC39:=hX (fun V=>clip_int ao np co V hle9);clear hdD hrow e39 hpl hcr hcr2 hkI hm2 hub hgd1 hgd2 hgd3 hle9;generalize (docsF x.adds s)[j]=d at *;clear hjl;go_upto_region 9 with fail;clear c0;go_wp2_with fail;refine (HC39.out _).mono ?_;rintro e Wc ⟨rfl,rfl⟩;rename World=>wr
     obtain ⟨xs,hownJ,hstepJ⟩:=HSJ.out;have HSTP:=hX hstepJ;obtain ⟨p0,hp1,hp2,hp3,hp4⟩:=info_parts infoPs;have hownA:=hownJ.alloc (.cells #[.int .i64 d,.slice ao np np] 59)
     have hrd:Reads (wr.alloc (.cells #[.int .i64 d,.slice ao np np] 59)) (wr.heap.size+1) 2 (some ⟨wr.heap.size,0,none⟩) 1 [.int .i64 d,.slice ao np np]:=⟨rfl,fun _=>⟨_,rfl,Nat.lt_succ_self _,World.news_of_block (Blk.new wr _ _)⟩⟩
     have hoc:∀u∈[Value.int .i64 d,Value.slice ao np np],u.oneCell'=true:=by intro u hu;simp only[List.mem_cons,List.not_mem_nil,or_false] at hu;rcases hu with rfl | rfl <;> rfl
     have hz2:W2.heap.size≤wr.heap.size:=HJ.out.1.size;clear hownJ hstepJ;go_wp2_with (at_builtin;refine Words.wpList_append_any _ rfl (.tmp 35) (.tmp 42) 56 rfl W2.heap.size 59 p0 _ 2 32 Tryz.underlying56 hp1 hp2 hp3 hp4 rfl (by decide) _ _ _ rfl hownA (wr.heap.size+1) (some ⟨wr.heap.size,0,none⟩) 1 1 [.int .i64 d,.slice ao np np] rfl hrd hoc ?e3 ?e4 ?e5 ?_);case e3=>unfold maxLen;omega
     case e4=>omega
     case e5=>exact Nat.le_trans hz2 (by simp)
     intro v' W6 ho hg hat;obtain ⟨a',c',rfl⟩:=own_slm ho;have HJ2:=hX (HSTP.out a' c' W6 ((HJ.out.1.alloc hz2 _).grown hg (by simp;omega) (fun r e=>(hownA.lt r e).1)) ho);clear ho hg hat hrd hoc hownA hz2;go_wp2_with fail;go_roundg (nD - (j+1))
     case measure=>have:=HLJ.out;omega
     case rel=>exact ⟨j+1,a',c',rfl,by go_num,by have:=HLJ.out;omega,rfl,HJ2⟩
    ·obtain rfl:j=nD:=by omega
     clear hjlt
     have HA:=hX (show j≤cp∧PostC wr B (postsF x.adds s) (.slice ap j j) (blkT x.adds rv s) by
      have h:=HJ.out;rw[←HDN.out] at h ⊢
      exact h.all (Nat.le_trans hB (by have:=HB0.out.size;have:=HB1.out.size;have:=HK.out.but.size;have:=HB2.out.size;omega)))
     have HBO:Hid (Below wo.heap.size wo wr):=hX (HB2.out.trans (HJ.out.1.mono HB2.out.size));have HK2:=hX (HK.out.below HBO.out);have c0:=HK2.out.self.cell 0;have hbw:fb<wr.heap.size:=HK2.out.self.lt;have hW1:W1.heap.size≤wr.heap.size:=HK2.out.but.size;obtain ⟨t0,hj1,hj2,hj3,hj4⟩:=info_parts infoSt;have hown:=HK2.out.terms.alloc (.cells #[.string ⟨s.toArray⟩] 9);have hcA:(wr.alloc (.cells #[.string ⟨s.toArray⟩] 9)).cell? ⟨fb,0,none⟩=some vT:=(((Below.refl _ wr).alloc (Nat.le_refl _) _).cell hbw).trans c0
     have hrd:Reads (wr.alloc (.cells #[.string ⟨s.toArray⟩] 9)) (wr.heap.size+1) 1 (some ⟨wr.heap.size,0,none⟩) 1 [(Value.string ⟨s.toArray⟩)]:=⟨rfl,fun _=>⟨_,rfl,Nat.lt_succ_self _,World.news_of_block (Blk.new wr _ _)⟩⟩
     have hoc:∀u∈[(Value.string ⟨s.toArray⟩)],u.oneCell'=true:=by intro u hu;simp only[List.mem_cons,List.not_mem_nil,or_false] at hu;rcases hu with rfl;rfl
     have hi7:i≤137438953472:=by have:=HLT.out;omega
     clear HJ;go_upto_region 11 with fail;go_wp2_with (at_builtin;refine Words.wpList_append_any _ rfl (.tmp 50) (.tmp 52) 48 rfl W1.heap.size 9 t0 (.string ⟨#[]⟩) 1 16 Tryz.underlying48 hj1 hj2 hj3 hj4 rfl (by decide) _ _ _ rfl hown (wr.heap.size+1) (some ⟨wr.heap.size,0,none⟩) 1 1 [(Value.string ⟨s.toArray⟩)] rfl hrd hoc ?e3 ?e4 ?e5 ?_);case e3=>unfold maxLen;omega
     case e4=>omega
     case e5=>exact Nat.le_trans hW1 (by simp)
     intro vT' W5 ho hg hat;obtain ⟨aT',cT',rfl⟩:=own_slm ho;have hgT:wr.grownBy W5 vT.ownBlock:=(World.grownBy_alloc wr _ vT.ownBlock).trans hg;have HK3:=hX (HS1.out wr W5 _ HBO.out hgT ho);have hnT1:some fb≠vT.ownBlock:=fun e=>own_blk_ne HK2.out.terms HK2.out.self (by decide) e.symm;have hb5:=HK2.out.self.grown hgT hnT1;have p0:W5.cell? ⟨fb,0,none⟩=some vT:=hb5.cell 0;have z0:W5.frozen? ⟨fb,0,none⟩=false:=hb5.frozen 0;have HPC:=hX (HA.out.2.keepT (ok:=okP) ((KeepT.of_row hgT HK2.out.terms (by simp[okP])).trans (KeepT.of_set hb5 (by simp[okP]) 0 (.slice aT' (i+1) cT'))) (.inl rfl) (.inr rfl));have hjc:j≤cp:=HA.out.1;clear ho hg hat hgT hnT1 hb5 c0 hcA hown hrd hoc;go_upto_region 12 with fail;clear p0 z0;have HW9:Hid (W1.heap.size≤(W5.setCell ⟨fb,0,none⟩ (.slice aT' (i+1) cT')).heap.size):=hX HK3.out.but.size;generalize W5.setCell ⟨fb,0,none⟩ (.slice aT' (i+1) cT')=V9 at *;obtain ⟨vs,hrowP,hstepP⟩:=HS2.out V9 _ _ HK3.out HPC.out;have c1:V9.cell? ⟨fb,1,none⟩=some vP:=HK3.out.self.cell 1;have hfl9:fb<V9.heap.size:=HK3.out.self.lt;have hfN:¬vP.ownBlock=some fb:=fun e=>own_blk_ne hrowP HK3.out.self (by decide) e;have HSTP:=hX hstepP;have HRP:=hX hrowP;clear hstepP hrowP;refine HeldU.wp_region_until #[true,true,true,true,true,true,true,true,true,true,false,false,false,false] (fun V=>But (fun g=>vP.ownBlock=some g) V9 V) (by kernel_rfl) (But.of_below ((Below.refl _ _).drew)) (fun hS0=>?_)
     refine' HeldU.tkU 0 (by simp only[tkD,tkE,tkG];rfl) (by kernel_rfl) (by exact fun _ _ _ h=>h) (by rfl) hS0 (by intro V hSw;clear hSw;go_simp;try with_reducible rfl) ?_;try simp only[Act.put,tkA,tkB,tkC]
     refine' HeldU.tkU 1 (by simp only[tkD,tkE,tkG];rfl) (by kernel_rfl) (by exact fun _ _ _ h=>h) (by rfl) hS0 (by intro V hSw;clear hSw;go_simp;try with_reducible rfl) ?_;try simp only[Act.put,tkA,tkB,tkC]
     refine' HeldU.tkU 2 (by simp only[tkD,tkE,tkG];rfl) (by kernel_rfl) (by exact fun _ _ _ h=>h) (by rfl) hS0 (by intro V hSw;clear hSw;go_simp;try with_reducible rfl) ?_;try simp only[Act.put,tkA,tkB,tkC]
     refine' HeldU.tkU 3 (by simp only[tkD,tkE,tkG];rfl) (by kernel_rfl) (by exact fun _ _ _ h=>h) (by rfl) hS0 (by intro V hSw;clear hSw;go_simp;try with_reducible rfl) ?_;try simp only[Act.put,tkA,tkB,tkC]
     refine' HeldU.tkU 4 (by simp only[tkD,tkE,tkG];rfl) (by kernel_rfl) (by exact fun _ _ _ h=>h) (by rfl) hS0 (by intro V hSw;clear hSw;go_simp;try with_reducible rfl) ?_;try simp only[Act.put,tkA,tkB,tkC]
     refine' HeldU.tkU 5 (by simp only[tkD,tkE,tkG];rfl) (by kernel_rfl) (by exact fun _ _ _ h=>h) (by rfl) hS0 (by intro V hSw;have c5:=(hSw.cell hfl9 hfN).trans c1;clear hSw;go_simp;try with_reducible rfl) ?_;try simp only[Act.put,tkA,tkB,tkC]
     refine' HeldU.tkU 6 (by simp only[tkD,tkE,tkG];rfl) (by kernel_rfl) (by exact fun _ _ _ h=>h) (by rfl) hS0 (by intro V hSw;clear hSw;go_simp;try with_reducible rfl) ?_;try simp only[Act.put,tkA,tkB,tkC]
     refine' HeldU.wpAnyU_one (i:=7) (by kernel_rfl) (by kernel_rfl) (by simp only[tkD,tkE,tkG];rfl) (fun K hK=>?_);go_simp;refine (clip_post ap j cp _ hjc).mono ?_;rintro e V1 ⟨rfl,rfl⟩;have B1:=hX (But.trans hS0 (But.refl _ _));go_simp;refine hK.out _ _ B1.out (fun hS1=>?_);clear hK K;try simp only[Act.put,tkA,tkB,tkC]
     refine' HeldU.wpAnyU_one (i:=8) (by kernel_rfl) (by kernel_rfl) (by simp only[tkD,tkE,tkG];rfl) (fun K hK=>?_);go_simp;refine hK.out _ _ ((hS1).alloc _) (fun hS2=>?_);clear hK K;try simp only[Act.put,tkA,tkB,tkC]
     refine' HeldU.wpAnyU_one (i:=9) (by kernel_rfl) (by kernel_rfl) (by simp only[tkD,tkE,tkG];rfl) (fun K hK=>?_);obtain ⟨j0,hq1,hq2,hq3,hq4⟩:=info_parts infoPr;have hA1:Below V9.heap.size V9 (V9.alloc (.cells #[.slice ap j j] 56)).drew:=((Below.refl _ _).alloc (Nat.le_refl _) _).drew;have hownA:=own_below HRP.out hA1;have HA1:=hX hA1;refine step_append_any _ rfl (.tmp 62) (.tmp 65) 49 rfl W1.heap.size 56 j0 (.slice none 0 0) 1 24 Tryz.underlying49 hq1 hq2 hq3 hq4 rfl (by decide) _ _ _ rfl hownA (V9.heap.size+1) (some ⟨V9.heap.size,0,none⟩) 1 1 [.slice ap j j] rfl ?f1 ?f2 ?f3 ?f4 ?f5 ?_;case f1=>exact ⟨rfl,fun _=>⟨_,rfl,Nat.lt_succ_self _,World.news_of_block (Blk.new V9 _ _).drew⟩⟩
     case f2=>intro u hu;simp only[List.mem_cons,List.not_mem_nil,or_false] at hu;rcases hu with rfl;rfl
     case f3=>unfold maxLen;omega
     case f4=>omega
     case f5=>exact Nat.le_trans HW9.out hA1.size
     intro v' W8 ho hg hat;obtain ⟨aP',cP',rfl⟩:=own_slm ho;replace hg:(V9.alloc (.cells #[.slice ap j j] 56)).drew.grownBy W8 vP.ownBlock:=hg;have hgw:V9.grownBy W8 vP.ownBlock:=(only_of_below hA1 vP.ownBlock).trans hg;have HK9:=hX (HSTP.out _ W8 hgw ho);have hb2:=HK3.out.self.grown hgw (fun e=>hfN e.symm);have p1:W8.cell? ⟨fb,1,none⟩=some vP:=hb2.cell 1;have z1:W8.frozen? ⟨fb,1,none⟩=false:=hb2.frozen 1;refine hK.out _ _ ((hS2).trans (But.grown hg fun r e=>e)) (fun hS13=>?_);clear hK K ho hg hat hA1 hownA hgw hb2;try simp only[Act.put,tkA,tkB,tkC]
     refine HeldU.wpAnyU_off (by kernel_rfl) ?_;refine' tk 10 (by simp only[tkD,tkE,tkG];rfl) (by kernel_rfl) (by exact fun _ _ _ h=>h) (by rfl) trivial (by intro V hSw;clear hSw;go_simp;try with_reducible rfl) ?_;try simp only[Act.put,tkA,tkB,tkC]
     refine' tk 11 (by simp only[tkD,tkE,tkG];rfl) (by kernel_rfl) (by exact fun _ _ _ h=>h) (by rfl) trivial (by intro V hSw;clear hSw;go_simp;try with_reducible rfl) ?_;try simp only[Act.put,tkA,tkB,tkC]
     refine' tk 12 (by simp only[tkD,tkE,tkG];rfl) (by kernel_rfl) (by exact fun _ _ _ h=>h) (by rfl) trivial (by intro V hSw;clear hSw;go_simp;try with_reducible rfl) ?_;try simp only[Act.put,tkA,tkB,tkC]
     refine wpAnyH_ready (rs:=[13]) (by kernel_rfl) (by simp) ?_;refine' AllReadyH.cons (by simp only[tkD,tkE,tkG];rfl) (fun K hK=>?_) AllReadyH.nil;go_simp;refine hK.out _ _ trivial (fun _=>?_);clear hK K;try simp only[Act.put,tkA,tkB,tkC]
     refine wpAnyH_done (by kernel_rfl) ?_ _;go_wp2_with fail;go_roundg (nT - (i+1))
     case measure=>have:=HLT.out;omega
     case rel=>exact ⟨i+1,_,_,by go_num,by have:=HLT.out;omega,rfl,HK9⟩
  ·obtain rfl:i=nT:=by omega
   clear hlt;generalize hgr:w.heap.size=gr at *;have HGR:=hX hgr;have HB0':Hid (Below w.heap.size w W0):=hX (by rw[hgr];exact HB0.out);clear hgr;obtain ⟨ao,co,rfl⟩:=own_slm HK.out.terms;obtain ⟨aP,cP,rfl⟩:∃a c,vP = .slice a i c:=by obtain ⟨vs,hp,_⟩:=HK.out.posts;exact own_slm hp
   obtain ⟨al,cl,rfl⟩:=own_slm HI1.out.lens;obtain ⟨at_,ct,rfl⟩:∃a c,vt = .slice a x.texts.length c:=by obtain ⟨vs,b,hp,_⟩:=HI1.out.texts;exact own_slm hp
   obtain ⟨an,cn,rfl⟩:∃a c,vn = .slice a x.nums.length c:=by obtain ⟨vs,b,hp,_⟩:=HI1.out.nums;exact own_slm hp
   obtain ⟨ap,cp,rfl⟩:∃a c,vp = .slice a x.pts.length c:=by obtain ⟨vs,b,hp,_⟩:=HI1.out.pts;exact own_slm hp
   have HB1':B≤W1.heap.size:=by have:=HB0.out.size;have:=HB1.out.size;have:=HGR.out;omega
   have HDO:=hX (fun (w9:World) (hk:KeepT okD wr w9)=>(show i≤co∧i≤cP∧x.lens.length≤cl∧x.texts.length≤ct∧x.nums.length≤cn∧x.pts.length≤cp∧∃bI bS bZ,DoneAt w9 B (doneF x) (.slice ao i i) (.slice aP i i) (.slice al x.lens.length x.lens.length) (.slice at_ x.texts.length x.texts.length) (.slice an x.nums.length x.nums.length) (.slice ap x.pts.length x.pts.length) bI bS bZ∧(∀g,g∈bI++(bS++bZ)→FootF fb bm x bt rv (.slice al x.lens.length cl) (bt1++(bn++bp)) g∨W1.heap.size≤g) by
    have h:=HK.out;have e:=HTN.out;subst e
    exact DoneK.done HI1.out h hk HB1'))
   obtain ⟨k0,k1,k2,k3,k4,k5,_⟩:=HDO.out wr (KeepT.refl _ _);have HB5:=hX HK.out.self;generalize x.lens.length=n2 at *;generalize x.texts.length=n3 at *;generalize x.nums.length=n4 at *;generalize x.pts.length=n5 at *;have c0:=HB5.out.cell 0;have c1:=HB5.out.cell 1;have c2:=HB5.out.cell 2;have c3:=HB5.out.cell 3;have c4:=HB5.out.cell 4;have c5:=HB5.out.cell 5;have z0:=HB5.out.frozen 0;have z1:=HB5.out.frozen 1;have z2:=HB5.out.frozen 2;have z3:=HB5.out.frozen 3;have z4:=HB5.out.frozen 4;have z5:=HB5.out.frozen 5;have hfl9:fb<wr.heap.size:=HB5.out.lt;go_upto_region 15 with fail;refine wp_region_held_drew (S:=fun _=>True) (by kernel_rfl) trivial (fun _=>?_);refine' tk 0 (by simp only[tkD,tkE,tkG];rfl) (by kernel_rfl) (by exact fun _ _ _ h=>h) (by rfl) trivial (by intro V hSw;clear hSw;go_simp;try with_reducible rfl) ?_;try simp only[Act.put,tkA,tkB,tkC]
   refine' tk 1 (by simp only[tkD,tkE,tkG];rfl) (by kernel_rfl) (by exact fun _ _ _ h=>h) (by rfl) trivial (by intro V hSw;clear hSw;go_simp;try with_reducible rfl) ?_;try simp only[Act.put,tkA,tkB,tkC]
   refine' tk 2 (by simp only[tkD,tkE,tkG];rfl) (by kernel_rfl) (by exact fun _ _ _ h=>h) (by rfl) trivial (by intro V hSw;clear hSw;go_simp;try with_reducible rfl) ?_;try simp only[Act.put,tkA,tkB,tkC]
   refine' tk 3 (by simp only[tkD,tkE,tkG];rfl) (by kernel_rfl) (by exact fun _ _ _ h=>h) (by rfl) trivial (by intro V hSw;clear hSw;go_simp;try with_reducible rfl) ?_;try simp only[Act.put,tkA,tkB,tkC]
   refine' tk 4 (by simp only[tkD,tkE,tkG];rfl) (by kernel_rfl) (by exact fun _ _ _ h=>h) (by rfl) trivial (by intro V hSw;clear hSw;go_simp;try with_reducible rfl) ?_;try simp only[Act.put,tkA,tkB,tkC]
   refine' tk 5 (by simp only[tkD,tkE,tkG];rfl) (by kernel_rfl) (by exact fun _ _ _ h=>h) (by rfl) trivial (by intro V hSw;clear hSw;go_simp;try with_reducible rfl) ?_;try simp only[Act.put,tkA,tkB,tkC]
   refine' tk 6 (by simp only[tkD,tkE,tkG];rfl) (by kernel_rfl) (by exact fun _ _ _ h=>h) (by rfl) trivial (by intro V hSw;clear hSw;go_simp;try with_reducible rfl) ?_;try simp only[Act.put,tkA,tkB,tkC]
   refine' tk 7 (by simp only[tkD,tkE,tkG];rfl) (by kernel_rfl) (by exact fun _ _ _ h=>h) (by rfl) trivial (by intro V hSw;clear hSw;go_simp;try with_reducible rfl) ?_;try simp only[Act.put,tkA,tkB,tkC]
   refine' tk 8 (by simp only[tkD,tkE,tkG];rfl) (by kernel_rfl) (by exact fun _ _ _ h=>h) (by rfl) trivial (by intro V hSw;clear hSw;go_simp;try with_reducible rfl) ?_;try simp only[Act.put,tkA,tkB,tkC]
   refine' tk 11 (by simp only[tkD,tkE,tkG];rfl) (by kernel_rfl) (by exact fun _ _ _ h=>h) (by rfl) trivial (by intro V hSw;clear hSw;go_simp;try with_reducible rfl) ?_;try simp only[Act.put,tkA,tkB,tkC]
   refine' tk 12 (by simp only[tkD,tkE,tkG];rfl) (by kernel_rfl) (by exact fun _ _ _ h=>h) (by rfl) trivial (by intro V hSw;clear hSw;go_simp;try with_reducible rfl) ?_;try simp only[Act.put,tkA,tkB,tkC]
   refine' tk 13 (by simp only[tkD,tkE,tkG];rfl) (by kernel_rfl) (by exact fun _ _ _ h=>h) (by rfl) trivial (by intro V hSw;clear hSw;go_simp;try with_reducible rfl) ?_;try simp only[Act.put,tkA,tkB,tkC]
   refine' tk 16 (by simp only[tkD,tkE,tkG];rfl) (by kernel_rfl) (by exact fun _ _ _ h=>h) (by rfl) trivial (by intro V hSw;clear hSw;go_simp;try with_reducible rfl) ?_;try simp only[Act.put,tkA,tkB,tkC]
   refine' tk 17 (by simp only[tkD,tkE,tkG];rfl) (by kernel_rfl) (by exact fun _ _ _ h=>h) (by rfl) trivial (by intro V hSw;clear hSw;go_simp;try with_reducible rfl) ?_;try simp only[Act.put,tkA,tkB,tkC]
   refine' tk 18 (by simp only[tkD,tkE,tkG];rfl) (by kernel_rfl) (by exact fun _ _ _ h=>h) (by rfl) trivial (by intro V hSw;clear hSw;go_simp;try with_reducible rfl) ?_;try simp only[Act.put,tkA,tkB,tkC]
   refine' tk 21 (by simp only[tkD,tkE,tkG];rfl) (by kernel_rfl) (by exact fun _ _ _ h=>h) (by rfl) trivial (by intro V hSw;clear hSw;go_simp;try with_reducible rfl) ?_;try simp only[Act.put,tkA,tkB,tkC]
   refine' tk 22 (by simp only[tkD,tkE,tkG];rfl) (by kernel_rfl) (by exact fun _ _ _ h=>h) (by rfl) trivial (by intro V hSw;clear hSw;go_simp;try with_reducible rfl) ?_;try simp only[Act.put,tkA,tkB,tkC]
   refine' tk 23 (by simp only[tkD,tkE,tkG];rfl) (by kernel_rfl) (by exact fun _ _ _ h=>h) (by rfl) trivial (by intro V hSw;clear hSw;go_simp;try with_reducible rfl) ?_;try simp only[Act.put,tkA,tkB,tkC]
   refine' tk 26 (by simp only[tkD,tkE,tkG];rfl) (by kernel_rfl) (by exact fun _ _ _ h=>h) (by rfl) trivial (by intro V hSw;clear hSw;go_simp;try with_reducible rfl) ?_;try simp only[Act.put,tkA,tkB,tkC]
   refine' tk 27 (by simp only[tkD,tkE,tkG];rfl) (by kernel_rfl) (by exact fun _ _ _ h=>h) (by rfl) trivial (by intro V hSw;clear hSw;go_simp;try with_reducible rfl) ?_;try simp only[Act.put,tkA,tkB,tkC]
   refine' tk 28 (by simp only[tkD,tkE,tkG];rfl) (by kernel_rfl) (by exact fun _ _ _ h=>h) (by rfl) trivial (by intro V hSw;clear hSw;go_simp;try with_reducible rfl) ?_;try simp only[Act.put,tkA,tkB,tkC]
   refine' tk 31 (by simp only[tkD,tkE,tkG];rfl) (by kernel_rfl) (by exact fun _ _ _ h=>h) (by rfl) trivial (by intro V hSw;clear hSw;go_simp;try with_reducible rfl) ?_;try simp only[Act.put,tkA,tkB,tkC]
   refine' tk 32 (by simp only[tkD,tkE,tkG];rfl) (by kernel_rfl) (by exact fun _ _ _ h=>h) (by rfl) trivial (by intro V hSw;clear hSw;go_simp;try with_reducible rfl) ?_;try simp only[Act.put,tkA,tkB,tkC]
   refine' tk 33 (by simp only[tkD,tkE,tkG];rfl) (by kernel_rfl) (by exact fun _ _ _ h=>h) (by rfl) trivial (by intro V hSw;clear hSw;go_simp;try with_reducible rfl) ?_;try simp only[Act.put,tkA,tkB,tkC]
   refine HeldU.wpAnyU_on #[true,true,true,true,true,true,true,true,true,true,true,true,true,true,true,true,true,true,true,true,true,true,true,true,true,true,true,true,true,true,true,true,true,true,true,true,false,false,false,false,false,false,false,false,false,false,false,false,false,false,false,false,false,false] (fun V=>But (fun _=>False) wr V) (But.of_below ((Below.refl _ _).drew)) (fun hSz0=>?_);refine' HeldU.tkU 9 (by simp only[tkD,tkE,tkG];rfl) (by kernel_rfl) (by exact fun _ _ _ h=>h) (by rfl) hSz0 (by intro V hSw;have c0v:=(hSw.cell hfl9 (fun h=>h)).trans c0;clear hSw;go_simp;try with_reducible rfl) ?_;try simp only[Act.put,tkA,tkB,tkC]
   refine' HeldU.tkU 14 (by simp only[tkD,tkE,tkG];rfl) (by kernel_rfl) (by exact fun _ _ _ h=>h) (by rfl) hSz0 (by intro V hSw;have c1v:=(hSw.cell hfl9 (fun h=>h)).trans c1;clear hSw;go_simp;try with_reducible rfl) ?_;try simp only[Act.put,tkA,tkB,tkC]
   refine' HeldU.tkU 19 (by simp only[tkD,tkE,tkG];rfl) (by kernel_rfl) (by exact fun _ _ _ h=>h) (by rfl) hSz0 (by intro V hSw;have c2v:=(hSw.cell hfl9 (fun h=>h)).trans c2;clear hSw;go_simp;try with_reducible rfl) ?_;try simp only[Act.put,tkA,tkB,tkC]
   refine' HeldU.tkU 24 (by simp only[tkD,tkE,tkG];rfl) (by kernel_rfl) (by exact fun _ _ _ h=>h) (by rfl) hSz0 (by intro V hSw;have c3v:=(hSw.cell hfl9 (fun h=>h)).trans c3;clear hSw;go_simp;try with_reducible rfl) ?_;try simp only[Act.put,tkA,tkB,tkC]
   refine' HeldU.tkU 29 (by simp only[tkD,tkE,tkG];rfl) (by kernel_rfl) (by exact fun _ _ _ h=>h) (by rfl) hSz0 (by intro V hSw;have c4v:=(hSw.cell hfl9 (fun h=>h)).trans c4;clear hSw;go_simp;try with_reducible rfl) ?_;try simp only[Act.put,tkA,tkB,tkC]
   refine' HeldU.tkU 34 (by simp only[tkD,tkE,tkG];rfl) (by kernel_rfl) (by exact fun _ _ _ h=>h) (by rfl) hSz0 (by intro V hSw;have c5v:=(hSw.cell hfl9 (fun h=>h)).trans c5;clear hSw;go_simp;try with_reducible rfl) ?_;try simp only[Act.put,tkA,tkB,tkC]
   refine' HeldU.wpAnyU_one (i:=10) (by kernel_rfl) (by kernel_rfl) (by simp only[tkD,tkE,tkG];rfl) (fun K hK=>?_);go_simp;refine (clip_str ao i co _ k0).mono ?_;rintro e Vz1 ⟨rfl,rfl⟩;have Bz1:=hX (But.trans hSz0 (But.refl _ _));go_simp;refine hK.out _ _ Bz1.out (fun hSz1=>?_);clear hK K;try simp only[Act.put,tkA,tkB,tkC]
   refine' HeldU.wpAnyU_one (i:=15) (by kernel_rfl) (by kernel_rfl) (by simp only[tkD,tkE,tkG];rfl) (fun K hK=>?_);go_simp;refine (clip_posts aP i cP _ k1).mono ?_;rintro e Vz2 ⟨rfl,rfl⟩;have Bz2:=hX (But.trans hSz1 (But.refl _ _));go_simp;refine hK.out _ _ Bz2.out (fun hSz2=>?_);clear hK K;try simp only[Act.put,tkA,tkB,tkC]
   refine' HeldU.wpAnyU_one (i:=20) (by kernel_rfl) (by kernel_rfl) (by simp only[tkD,tkE,tkG];rfl) (fun K hK=>?_);go_simp;refine (clip_i64 al n2 cl _ k2).mono ?_;rintro e Vz3 ⟨rfl,rfl⟩;have Bz3:=hX (But.trans hSz2 (But.refl _ _));go_simp;refine hK.out _ _ Bz3.out (fun hSz3=>?_);clear hK K;try simp only[Act.put,tkA,tkB,tkC]
   refine' HeldU.wpAnyU_one (i:=25) (by kernel_rfl) (by kernel_rfl) (by simp only[tkD,tkE,tkG];rfl) (fun K hK=>?_);go_simp;refine (clip_strs at_ n3 ct _ k3).mono ?_;rintro e Vz4 ⟨rfl,rfl⟩;have Bz4:=hX (But.trans hSz3 (But.refl _ _));go_simp;refine hK.out _ _ Bz4.out (fun hSz4=>?_);clear hK K;try simp only[Act.put,tkA,tkB,tkC]
   refine' HeldU.wpAnyU_one (i:=30) (by kernel_rfl) (by kernel_rfl) (by simp only[tkD,tkE,tkG];rfl) (fun K hK=>?_);go_simp;refine (clip_rows an n4 cn _ k4).mono ?_;rintro e Vz5 ⟨rfl,rfl⟩;have Bz5:=hX (But.trans hSz4 (But.refl _ _));go_simp;refine hK.out _ _ Bz5.out (fun hSz5=>?_);clear hK K;try simp only[Act.put,tkA,tkB,tkC]
   refine' HeldU.wpAnyU_one (i:=35) (by kernel_rfl) (by kernel_rfl) (by simp only[tkD,tkE,tkG];rfl) (fun K hK=>?_);go_simp;refine (clip_pts ap n5 cp _ k5).mono ?_;rintro e Vz6 ⟨rfl,rfl⟩;have Bz6:=hX (But.trans hSz5 (But.refl _ _));go_simp;refine hK.out _ _ Bz6.out (fun hSz6=>?_);clear hK K;try simp only[Act.put,tkA,tkB,tkC]
   refine HeldU.wpAnyU_off (by kernel_rfl) ?_;refine' tk 36 (by simp only[tkD,tkE,tkG];rfl) (by kernel_rfl) (by exact fun _ _ _ h=>h) (by rfl) trivial (by intro V hSw;clear hSw;go_simp;try with_reducible rfl) ?_;try simp only[Act.put,tkA,tkB,tkC]
   refine' tk 37 (by simp only[tkD,tkE,tkG];rfl) (by kernel_rfl) (by exact fun _ _ _ h=>h) (by rfl) trivial (by intro V hSw;clear hSw;go_simp;try with_reducible rfl) ?_;try simp only[Act.put,tkA,tkB,tkC]
   refine wpAnyH_ready (rs:=[38]) (by kernel_rfl) (by simp) ?_;refine' AllReadyH.cons (by simp only[tkD,tkE,tkG];rfl) (fun K hK=>?_) AllReadyH.nil;go_simp;refine hK.out _ _ trivial (fun _=>?_);clear hK K;try simp only[Act.put,tkA,tkB,tkC]
   refine' tk 39 (by simp only[tkD,tkE,tkG];rfl) (by kernel_rfl) (by exact fun _ _ _ h=>h) (by rfl) trivial (by intro V hSw;clear hSw;go_simp;try with_reducible rfl) ?_;try simp only[Act.put,tkA,tkB,tkC]
   refine' tk 40 (by simp only[tkD,tkE,tkG];rfl) (by kernel_rfl) (by exact fun _ _ _ h=>h) (by rfl) trivial (by intro V hSw;clear hSw;go_simp;try with_reducible rfl) ?_;try simp only[Act.put,tkA,tkB,tkC]
   refine wpAnyH_ready (rs:=[41]) (by kernel_rfl) (by simp) ?_;refine' AllReadyH.cons (by simp only[tkD,tkE,tkG];rfl) (fun K hK=>?_) AllReadyH.nil;go_simp;refine hK.out _ _ trivial (fun _=>?_);clear hK K;try simp only[Act.put,tkA,tkB,tkC]
   refine' tk 42 (by simp only[tkD,tkE,tkG];rfl) (by kernel_rfl) (by exact fun _ _ _ h=>h) (by rfl) trivial (by intro V hSw;clear hSw;go_simp;try with_reducible rfl) ?_;try simp only[Act.put,tkA,tkB,tkC]
   refine' tk 43 (by simp only[tkD,tkE,tkG];rfl) (by kernel_rfl) (by exact fun _ _ _ h=>h) (by rfl) trivial (by intro V hSw;clear hSw;go_simp;try with_reducible rfl) ?_;try simp only[Act.put,tkA,tkB,tkC]
   refine wpAnyH_ready (rs:=[44]) (by kernel_rfl) (by simp) ?_;refine' AllReadyH.cons (by simp only[tkD,tkE,tkG];rfl) (fun K hK=>?_) AllReadyH.nil;go_simp;refine hK.out _ _ trivial (fun _=>?_);clear hK K;try simp only[Act.put,tkA,tkB,tkC]
   refine' tk 45 (by simp only[tkD,tkE,tkG];rfl) (by kernel_rfl) (by exact fun _ _ _ h=>h) (by rfl) trivial (by intro V hSw;clear hSw;go_simp;try with_reducible rfl) ?_;try simp only[Act.put,tkA,tkB,tkC]
   refine' tk 46 (by simp only[tkD,tkE,tkG];rfl) (by kernel_rfl) (by exact fun _ _ _ h=>h) (by rfl) trivial (by intro V hSw;clear hSw;go_simp;try with_reducible rfl) ?_;try simp only[Act.put,tkA,tkB,tkC]
   refine wpAnyH_ready (rs:=[47]) (by kernel_rfl) (by simp) ?_;refine' AllReadyH.cons (by simp only[tkD,tkE,tkG];rfl) (fun K hK=>?_) AllReadyH.nil;go_simp;refine hK.out _ _ trivial (fun _=>?_);clear hK K;try simp only[Act.put,tkA,tkB,tkC]
   refine' tk 48 (by simp only[tkD,tkE,tkG];rfl) (by kernel_rfl) (by exact fun _ _ _ h=>h) (by rfl) trivial (by intro V hSw;clear hSw;go_simp;try with_reducible rfl) ?_;try simp only[Act.put,tkA,tkB,tkC]
   refine' tk 49 (by simp only[tkD,tkE,tkG];rfl) (by kernel_rfl) (by exact fun _ _ _ h=>h) (by rfl) trivial (by intro V hSw;clear hSw;go_simp;try with_reducible rfl) ?_;try simp only[Act.put,tkA,tkB,tkC]
   refine wpAnyH_ready (rs:=[50]) (by kernel_rfl) (by simp) ?_;refine' AllReadyH.cons (by simp only[tkD,tkE,tkG];rfl) (fun K hK=>?_) AllReadyH.nil;go_simp;refine hK.out _ _ trivial (fun _=>?_);clear hK K;try simp only[Act.put,tkA,tkB,tkC]
   refine' tk 51 (by simp only[tkD,tkE,tkG];rfl) (by kernel_rfl) (by exact fun _ _ _ h=>h) (by rfl) trivial (by intro V hSw;clear hSw;go_simp;try with_reducible rfl) ?_;try simp only[Act.put,tkA,tkB,tkC]
   refine' tk 52 (by simp only[tkD,tkE,tkG];rfl) (by kernel_rfl) (by exact fun _ _ _ h=>h) (by rfl) trivial (by intro V hSw;clear hSw;go_simp;try with_reducible rfl) ?_;try simp only[Act.put,tkA,tkB,tkC]
   refine wpAnyH_ready (rs:=[53]) (by kernel_rfl) (by simp) ?_;refine' AllReadyH.cons (by simp only[tkD,tkE,tkG];rfl) (fun K hK=>?_) AllReadyH.nil;go_simp;refine hK.out _ _ trivial (fun _=>?_);clear hK K;try simp only[Act.put,tkA,tkB,tkC]
   refine wpAnyH_done (by kernel_rfl) ?_ _;have HB9:Hid (Blk (((((((wr.setCell ⟨fb,0,none⟩ (.slice ao i i)).setCell ⟨fb,1,none⟩ (.slice aP i i)).setCell ⟨fb,2,none⟩ (.slice al n2 n2)).setCell ⟨fb,3,none⟩ (.slice at_ n3 n3)).setCell ⟨fb,4,none⟩ (.slice an n4 n4)).setCell ⟨fb,5,none⟩ (.slice ap n5 n5)).drew) fb 95 #[.slice ao i i,.slice aP i i,.slice al n2 n2,.slice at_ n3 n3,.slice an n4 n4,.slice ap n5 n5,sv,.int .i64 k,.map (some bm)]):=hX (by simpa using ((((((HB5.out.set_ 0 (.slice ao i i)).set_ 1 (.slice aP i i)).set_ 2 (.slice al n2 n2)).set_ 3 (.slice at_ n3 n3)).set_ 4 (.slice an n4 n4)).set_ 5 (.slice ap n5 n5)).drew);have HBT:Hid (But (fun g=>g=fb) wr (((((((wr.setCell ⟨fb,0,none⟩ (.slice ao i i)).setCell ⟨fb,1,none⟩ (.slice aP i i)).setCell ⟨fb,2,none⟩ (.slice al n2 n2)).setCell ⟨fb,3,none⟩ (.slice at_ n3 n3)).setCell ⟨fb,4,none⟩ (.slice an n4 n4)).setCell ⟨fb,5,none⟩ (.slice ap n5 n5)).drew)):=hX (((((((((But.refl (fun g=>g=fb) wr).set (p:=⟨fb,0,none⟩) (.inl rfl) _).set (p:=⟨fb,1,none⟩) (.inl rfl) _).set (p:=⟨fb,2,none⟩) (.inl rfl) _).set (p:=⟨fb,3,none⟩) (.inl rfl) _).set (p:=⟨fb,4,none⟩) (.inl rfl) _).set (p:=⟨fb,5,none⟩) (.inl rfl) _)).trans (But.of_below (N:=fun g=>g=fb) (Below.refl _ _).drew));clear c0 c1 c2 c3 c4 c5 z0 z1 z2 z3 z4 z5
   generalize ((((((wr.setCell ⟨fb,0,none⟩ (.slice ao i i)).setCell ⟨fb,1,none⟩ (.slice aP i i)).setCell ⟨fb,2,none⟩ (.slice al n2 n2)).setCell ⟨fb,3,none⟩ (.slice at_ n3 n3)).setCell ⟨fb,4,none⟩ (.slice an n4 n4)).setCell ⟨fb,5,none⟩ (.slice ap n5 n5)).drew=W9 at *;have HW9:Hid (But (fun g=>g=fb) w W9):=hX ((((But.of_below (N:=fun g=>g=fb) HB0'.out).trans (But.of_below (N:=fun g=>g=fb) HB1.out)).trans HK.out.but).trans HBT.out)
   have HK9:Hid (KeepT okD wr W9):=hX (KeepT.of_but HBT.out fun g e cur t hh hok=>by
    subst e;have:=HB5.out;unfold Blk at this;rw[this] at hh;injection hh with hh;injection hh with _ hh;subst hh
    simp[okD] at hok)
   have HR9:Hid (Blk W9 gr 53 #[.slice none 0 0,.slice none 0 0,.slice none 0 0,.slice none 0 0,.slice none 0 0,.slice none 0 0]):=hX ((((But.of_below (N:=fun g=>g=fb) HB1.out).trans HK.out.but).trans HBT.out).blk HRB.out (fun e=>by omega));have c0:=HB9.out.cell 0;have c1:=HB9.out.cell 1;have c2:=HB9.out.cell 2;have c3:=HB9.out.cell 3;have c4:=HB9.out.cell 4;have c5:=HB9.out.cell 5;have d0:=HR9.out.cell 0;have d1:=HR9.out.cell 1;have d2:=HR9.out.cell 2;have d3:=HR9.out.cell 3;have d4:=HR9.out.cell 4;have d5:=HR9.out.cell 5;have z0:=HR9.out.frozen 0;have z1:=HR9.out.frozen 1;have z2:=HR9.out.frozen 2;have z3:=HR9.out.frozen 3;have z4:=HR9.out.frozen 4;have z5:=HR9.out.frozen 5;have hgrn:fb≠gr:=by omega
   go_wp2_with fail;have hBF:Blk ((((((W9.setCell ⟨gr,0,none⟩ (.slice ao i i)).setCell ⟨gr,1,none⟩ (.slice aP i i)).setCell ⟨gr,2,none⟩ (.slice al n2 n2)).setCell ⟨gr,3,none⟩ (.slice at_ n3 n3)).setCell ⟨gr,4,none⟩ (.slice an n4 n4)).setCell ⟨gr,5,none⟩ (.slice ap n5 n5)) gr 53 #[.slice ao i i,.slice aP i i,.slice al n2 n2,.slice at_ n3 n3,.slice an n4 n4,.slice ap n5 n5]:=by simpa using (((((HR9.out.set_ 0 (.slice ao i i)).set_ 1 (.slice aP i i)).set_ 2 (.slice al n2 n2)).set_ 3 (.slice at_ n3 n3)).set_ 4 (.slice an n4 n4)).set_ 5 (.slice ap n5 n5)
   have hKF:But (fun g=>g=gr) W9 ((((((W9.setCell ⟨gr,0,none⟩ (.slice ao i i)).setCell ⟨gr,1,none⟩ (.slice aP i i)).setCell ⟨gr,2,none⟩ (.slice al n2 n2)).setCell ⟨gr,3,none⟩ (.slice at_ n3 n3)).setCell ⟨gr,4,none⟩ (.slice an n4 n4)).setCell ⟨gr,5,none⟩ (.slice ap n5 n5)):=((((((But.refl (fun g=>g=gr) W9).set (p:=⟨gr,0,none⟩) (.inl rfl) _).set (p:=⟨gr,1,none⟩) (.inl rfl) _).set (p:=⟨gr,2,none⟩) (.inl rfl) _).set (p:=⟨gr,3,none⟩) (.inl rfl) _).set (p:=⟨gr,4,none⟩) (.inl rfl) _).set (p:=⟨gr,5,none⟩) (.inl rfl) _;have e0:=hBF.cell 0;have e1:=hBF.cell 1;have e2:=hBF.cell 2;have e3:=hBF.cell 3;have e4:=hBF.cell 4;have e5:=hBF.cell 5;have hkf:KeepT okD W9 ((((((W9.setCell ⟨gr,0,none⟩ (.slice ao i i)).setCell ⟨gr,1,none⟩ (.slice aP i i)).setCell ⟨gr,2,none⟩ (.slice al n2 n2)).setCell ⟨gr,3,none⟩ (.slice at_ n3 n3)).setCell ⟨gr,4,none⟩ (.slice an n4 n4)).setCell ⟨gr,5,none⟩ (.slice ap n5 n5)):=KeepT.of_but hKF fun g e cur t hh hok=>by subst e;have:=HR9.out;unfold Blk at this;rw[this] at hh;injection hh with hh;injection hh with _ hh;subst hh;simp[okD] at hok
   obtain ⟨_,_,_,_,_,_,bI,bS,bZ,hdone,hbl⟩:=HDO.out _ (HK9.out.trans hkf);have hbf:But (fun g=>g=fb) w ((((((W9.setCell ⟨gr,0,none⟩ (.slice ao i i)).setCell ⟨gr,1,none⟩ (.slice aP i i)).setCell ⟨gr,2,none⟩ (.slice al n2 n2)).setCell ⟨gr,3,none⟩ (.slice at_ n3 n3)).setCell ⟨gr,4,none⟩ (.slice an n4 n4)).setCell ⟨gr,5,none⟩ (.slice ap n5 n5)):=HW9.out.more hKF (fun g e=>.inr (by have:=HGR.out;omega));refine bodyPost_ret (v:=.agg #[.slice ao i i,.slice aP i i,.slice al n2 n2,.slice at_ n3 n3,.slice an n4 n4,.slice ap n5 n5]) (by simp[results,Tryz.results43,go_sem,e0,e1,e2,e3,e4,e5];try rfl) rfl ⟨_,_,_,_,_,_,bI,bS,bZ,rfl,hdone,fun g hg=>?_,hbf⟩;rcases hbl g hg with h | h
   ·exact .inl ((HF3.out g).2 h)
   ·exact .inr (by have:=HB0.out.size;have:=HB1.out.size;have:=HGR.out;omega)
end Go.Proofs.YtigfcihakghddaaGreatDoor.BufT
