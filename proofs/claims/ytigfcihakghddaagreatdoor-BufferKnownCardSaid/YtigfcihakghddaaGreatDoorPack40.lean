/- Lemmas that the last text leans on. -/
import Derived.Test.YtigfcihakghddaaGreatDoorPack38
import Derived.Test.YtigfcihakghddaaGreatDoorBufDone
import Derived.Test.YtigfcihakghddaaGreatDoorPack8
import Derived.Test.YtigfcihakghddaaGreatDoorPack26
import Derived.Test.YtigfcihakghddaaGreatDoorTake
import Derived.Deep.LoopGhost
import Derived.Deep.QuietTactic
import Derived.LoopTactic
import Derived.BigQuiet
set_option linter.all false
section
namespace Go.Proofs.YtigfcihakghddaaGreatDoor.BufT
open Go Go.RowKit Words Tree Owned MapV BufP Sch SchP AnaP Kit
inductive SubF (w:World) (B:Nat):List ID→List Value→List Nat→List Nat→List Nat→Prop
 | nil:SubF w B [] [] [] [] []
 | cons {x:ID} {xs:List ID} {v0 v1 v2 v3 v4 v5:Value} {vs:List Value} {bI bS bZ cI cS cZ:List Nat} (h:DoneAt w B x v0 v1 v2 v3 v4 v5 bI bS bZ) (t:SubF w B xs vs cI cS cZ):SubF w B (x::xs) (v0::v1::v2::v3::v4::v5::vs) (bI++cI) (bS++cS) (bZ++cZ)
section
variable {w w':World} {B:Nat} {xs:List ID} {vs:List Value} {bI bS bZ:List Nat}
theorem SubF.keepT (h:SubF w B xs vs bI bS bZ) (hk:KeepT okD w w'):SubF w' B xs vs bI bS bZ:=by
 induction h with
 | nil=>exact .nil
 | cons h t ih=>exact .cons (h.keepT hk) ih
theorem SubF.snoc {x:ID} {v0 v1 v2 v3 v4 v5:Value} {cI cS cZ:List Nat} (h:SubF w B xs vs bI bS bZ) (hx:DoneAt w B x v0 v1 v2 v3 v4 v5 cI cS cZ):SubF w B (xs++[x]) (vs++[v0,v1,v2,v3,v4,v5]) (bI++cI) (bS++cS) (bZ++cZ):=by
 induction h with
 | nil=>have:=SubF.cons hx .nil;simpa using this
 | cons h t ih=>simp only[List.cons_append,List.append_assoc];exact .cons h ih
end
theorem PostC.from_ {w:World} {B B':Nat} {ps:List (Int × List Int)} {v:Value} {bs:List Nat} (h:PostC w B ps v bs) (hB:B'≤B):PostC w B' ps v bs:=by
 obtain ⟨vs,h1,h2⟩:=h;exact ⟨vs,h1.from_ hB,h2.from_ hB⟩
theorem DoneAt.from_ {w:World} {B B':Nat} {x:ID} {v0 v1 v2 v3 v4 v5:Value} {bI bS bZ:List Nat} (h:DoneAt w B x v0 v1 v2 v3 v4 v5 bI bS bZ) (hB:B'≤B):DoneAt w B' x v0 v1 v2 v3 v4 v5 bI bS bZ:=by
 obtain ⟨vs,h1,h2⟩:=h.posts;obtain ⟨vs3,vs4,vs5,b3,b4,b5,g1,g2,g3,g4,g5,g6,g7,g8⟩:=h.rest;exact ⟨h.terms.from_ hB,⟨vs,h1.from_ hB,h2.imp fun x v b hp=>hp.from_ hB⟩,h.lens.from_ hB,⟨vs3,vs4,vs5,b3,b4,b5,g1.from_ hB,g2.from_ hB,g3.from_ hB,g4.from_ hB,g5.from_ hB,g6.from_ hB,g7,g8⟩,h.nI,h.nS,h.nZ⟩
theorem DoneAt.lt {w:World} {B:Nat} {x:ID} {v0 v1 v2 v3 v4 v5:Value} {bI bS bZ:List Nat} (h:DoneAt w B x v0 v1 v2 v3 v4 v5 bI bS bZ):∀g∈bI++(bS++bZ),B≤g∧g<w.heap.size:=by
 obtain ⟨vs,h1,h2⟩:=h.posts;obtain ⟨vs3,vs4,vs5,b3,b4,b5,g1,g2,g3,g4,g5,g6,rfl,rfl⟩:=h.rest
 have hz:∀{ps:List (List (Int × List Int))} {us:List Value} {bs:List Nat},SubG (PostC w B) ps us bs→∀g∈bs,B≤g∧g<w.heap.size:=fun hs=>by
  induction hs with
  | nil=>intro g hg;cases hg
  | cons hp t ih=>
   intro g hg;rcases List.mem_append.1 hg with hg | hg
   ·obtain ⟨_,_,q⟩:=hp;exact q.mem g hg
   ·exact ih g hg
 intro g hg;simp only[List.mem_append] at hg;rcases hg with (hg | hg | hg) | (hg | hg) | hg
 ·exact h.lens.lt (mem_own.1 hg)
 ·exact g4.mem g hg
 ·exact g6.mem g hg
 ·exact h.terms.lt (mem_own.1 hg)
 ·exact g2.mem g hg
 ·exact hz h2 g hg
def DoneRetS (w:World) (B fb:Nat) (x:FD) (F:Nat→Prop) (e:Ending) (w':World):Prop:=
 ∃a0 n0 c0 a1 n1 c1 a2 n2 c2 a3 n3 c3 a4 n4 c4 a5 n5 c5 bI bS bZ,e = .returned (.agg #[.slice a0 n0 c0,.slice a1 n1 c1,.slice a2 n2 c2,.slice a3 n3 c3,.slice a4 n4 c4,.slice a5 n5 c5])∧DoneAt w' B (doneF x) (.slice a0 n0 c0) (.slice a1 n1 c1) (.slice a2 n2 c2) (.slice a3 n3 c3) (.slice a4 n4 c4) (.slice a5 n5 c5) bI bS bZ∧(∀g∈bI++(bS++bZ),F g∨w.heap.size≤g)∧But (fun g=>g=fb) w w'
theorem done_anyS (w:World) (B fb k:Nat) (sv:Value) (x:FD) (F:Nat→Prop) (h:FieldAt w B fb k sv x F) (hL:x.adds.length≤137438953472) (hB:B≤w.heap.size) :
 Calls Tryz.prog 43 #[.pointer (some ⟨fb,0,none⟩)] w (DoneRetS w B fb x F):=
 (done_any w B fb k sv x F h hL hB).mono fun e w' ⟨v0,v1,v2,v3,v4,v5,bI,bS,bZ,he,hd,hbl,hb⟩=>by obtain ⟨vs,h1,h2⟩:=hd.posts;obtain ⟨vs3,vs4,vs5,b3,b4,b5,g1,g2,g3,g4,g5,g6,_⟩:=hd.rest;obtain ⟨a0,c0,rfl,_⟩:=hd.terms.form;obtain ⟨a1,c1,rfl,_⟩:=h1.form;obtain ⟨a2,c2,rfl,_⟩:=hd.lens.form;obtain ⟨a3,c3,rfl,_⟩:=g1.form;obtain ⟨a4,c4,rfl,_⟩:=g3.form;obtain ⟨a5,c5,rfl,_⟩:=g5.form;exact ⟨_,_,_,_,_,_,_,_,_,_,_,_,_,_,_,_,_,_,bI,bS,bZ,he,hd,hbl,hb⟩
def MemAt (w:World) (B gm:Nat) (its:List IT) (xs:List FD):Prop:=
 ∃vq vd vf vs us bN bI bS bZ,Blk w gm 47 #[vq,vd,vf]∧ClipM w B 68 1 vq its.length (its.map fun it=>.int .u64 it.seq)∧ClipM w B 67 1 vd its.length vs∧SubG (DocC w B) (its.map (·.doc)) vs bN∧bN.Nodup∧(ownsL vs).Nodup∧
  ClipM w B 53 6 vf xs.length us∧SubF w B (xs.map doneF) us bI bS bZ∧bI.Nodup∧bS.Nodup∧bZ.Nodup
def BuildRet (its:List IT) (r:Except Int (List FD)) (w:World) (e:Ending) (w':World):Prop:=Below w.heap.size w w'∧match r with
 | .error n=>e = .returned (.tuple #[.pointer none,.int .i64 n])
 | .ok xs=>∃gm,e = .returned (.tuple #[.pointer (some ⟨gm,0,none⟩),.int .i64 0])∧MemAt w' w.heap.size gm its xs
def ptrsL (fb:Nat→Nat) (n:Nat):List Value:=(List.range n).map fun k=>.pointer (some ⟨fb k,0,none⟩)
def okF (t:TypeId):Prop:=t≠47∧t≠95∧t≠53
theorem okD_okF:∀t,okD t→okF t:=by
 intro t h;unfold okD at h;rcases h with rfl | rfl | rfl | rfl | rfl | rfl | rfl | rfl <;> exact ⟨by decide,by decide,by decide⟩
structure FinK (w Wf:World) (gm gf Bf:Nat) (sv:Value) (n:Nat) (fb:Nat→Nat) (xs:List FD) (its:List IT) (vq vd:Value) (Fs:Nat→Nat→Prop) (k:Nat) (vf:Value) (wr:World):Prop where
 bel:Below w.heap.size w wr
 grow:Wf.heap.size≤wr.heap.size
 self:Blk wr gm 47 #[vq,vd,vf]
 row:wr.ownsRow w.heap.size 92 1 (.slice (some ⟨gf,0,none⟩) n n) n (ptrsL fb n)
 seqs:wr.ownsRow w.heap.size 68 1 vq its.length (its.map fun it=>.int .u64 it.seq)
 docs:∃vs bN,wr.ownsRow w.heap.size 67 1 vd its.length vs∧SubG (DocC wr w.heap.size) (its.map (·.doc)) vs bN∧bN.Nodup∧(ownsL vs).Nodup
 flds:∀j x,k≤j→xs[j]?=some x→FieldAt wr Bf (fb j) j sv x (Fs j)
 apart:∀i j g,i<n→j<n→Fs i g→Fs j g→i=j
 lt:∀g,UF n Fs g→Bf≤g∧g<Wf.heap.size
 done:∃us bI bS bZ,wr.ownsRow Wf.heap.size 53 6 vf k us∧SubF wr w.heap.size ((xs.take k).map doneF) us bI bS bZ∧bI.Nodup∧bS.Nodup∧bZ.Nodup∧∀g∈bI++(bS++bZ),UF k Fs g∨(Wf.heap.size≤g∧g<wr.heap.size)
 len:xs.length=n
 offm:¬UF n Fs gm
 low:w.heap.size≤Bf∧w.heap.size≤Wf.heap.size∧w.heap.size≤gm
section
variable {w Wf wr w5 w6:World} {gm gf Bf:Nat} {sv:Value} {n:Nat} {fb:Nat→Nat} {xs:List FD} {its:List IT} {vq vd:Value} {Fs:Nat→Nat→Prop} {k:Nat} {vf:Value}
theorem fields_self {w:World} {B fb k:Nat} {sv:Value} {x:FD} {F:Nat→Prop} (h:FieldAt w B fb k sv x F):(∃cs,Blk w fb 95 cs)∧F fb:=by
 obtain ⟨bm,n,D,bt,Di,rv,vl,vt,vn,vp,bt1,bn,bp,h1,h2,h3⟩:=h;exact ⟨⟨_,h1.self⟩,(h3 fb).2 (.inl (List.mem_cons_self ..))⟩
theorem nodup_two {a b:List Nat} {P Q:Nat→Prop} (ha:a.Nodup) (hb:b.Nodup) (h1:∀g∈a,P g) (h2:∀g∈b,Q g) (h:∀g,P g→Q g→False):(a++b).Nodup:=by
 rw[List.nodup_append];exact ⟨ha,hb,fun g hg g' hg' e=>by subst e;exact h g (h1 g hg) (h2 g hg')⟩
theorem FinK.step (h:FinK w Wf gm gf Bf sv n fb xs its vq vd Fs k vf wr) (hk:k<n) {x:FD} (hx:xs[k]?=some x) {v0 v1 v2 v3 v4 v5:Value} {bI bS bZ:List Nat} (hb:But (fun g=>g=fb k) wr w5) (hd:DoneAt w5 Bf (doneF x) v0 v1 v2 v3 v4 v5 bI bS bZ) (hbl:∀g∈bI++(bS++bZ),Fs k g∨wr.heap.size≤g) (hbl5:∀g∈bI++(bS++bZ),g<w5.heap.size) :
 ∃us,w5.ownsRow Wf.heap.size 53 6 vf k us∧∀(vf':Value) (w6:World),w5.grownBy w6 vf.ownBlock→w6.ownsRow Wf.heap.size 53 6 vf' (k+1) (us++[v0,v1,v2,v3,v4,v5])→FinK w Wf gm gf Bf sv n fb xs its vq vd Fs (k+1) vf' (w6.setCell ⟨gm,2,none⟩ vf'):=by
 obtain ⟨us,cI,cS,cZ,h1,h2,h3,h4,h5,h6⟩:=h.done;obtain ⟨⟨cs,hfs⟩,hff⟩:=fields_self (h.flds k x (Nat.le_refl _) hx)
 have hUk:UF n Fs (fb k):=⟨k,hk,hff⟩
 have hfl:=h.lt _ hUk;have hlow:=h.low;have hgw:=h.grow;have kt5:KeepT okF wr w5:=KeepT.of_but hb fun g e cur t hh hok=>by subst e;unfold Blk at hfs;rw[hfs] at hh;injection hh with hh;injection hh with _ hh;exact hok.2.1 hh.symm
 have hne:∀{B m k':Nat} {e:TypeId} {v:Value} {ys:List Value},wr.ownsRow B e m v k' ys→e≠95→w5.ownsRow B e m v k' ys:=fun ho hne=>own_stay ho fun g e=>hb.block g (ho.lt g e).2 fun e2=>own_blk_ne ho hfs hne (e2 ▸ e);have self5:Blk w5 gm 47 #[vq,vd,vf]:=hb.blk h.self fun e=>Blk.ne_ h.self hfs (by decide) e;refine ⟨us,hne h1 (by decide),fun vf' w6 hg ho=>?_⟩;have hv5:=hne h1 (by decide);have self6:Blk w6 gm 47 #[vq,vd,vf]:=self5.grown hg fun e=>own_blk_ne hv5 self5 (by decide) e.symm;have kt6:KeepT okF w5 w6:=KeepT.of_row hg hv5 (by simp[okF]);have kt7:KeepT okF w6 (w6.setCell ⟨gm,2,none⟩ vf'):=KeepT.of_set self6 (by simp[okF]) 2 vf';have kt:=(kt5.trans kt6).trans kt7
 have hother:∀{B m k':Nat} {e:TypeId} {v:Value} {ys:List Value},wr.ownsRow B e m v k' ys→okF e→(w6.setCell ⟨gm,2,none⟩ vf').ownsRow B e m v k' ys:=fun ho hok=>⟨ho.1,ho.2.imp id fun ⟨g,cap,cur,hv,hB,hbb,hr⟩=>⟨g,cap,cur,hv,hB,(kt g _ _ hbb hok).trans hbb,hr⟩⟩
 have hz:wr.heap.size≤(w6.setCell ⟨gm,2,none⟩ vf').heap.size:=by have:=hb.size;have:=hg.size;simp[World.setCell];omega
 have hz5:w5.heap.size≤(w6.setCell ⟨gm,2,none⟩ vf').heap.size:=by have:=hg.size;simp[World.setCell];omega
 have hbut:But (fun g=>g=fb k∨vf.ownBlock=some g∨g=gm) wr (w6.setCell ⟨gm,2,none⟩ vf'):=((hb.mono fun g e=>.inl e).trans (But.grown hg fun r e=>.inr (.inl e))).set (p:=⟨gm,2,none⟩) (.inl (.inr (.inr rfl))) _;obtain ⟨vs,bN,d1,d2,d3,d4⟩:=h.docs
 have hUl:∀g,UF k Fs g→g<Wf.heap.size∧¬Fs k g:=fun g ⟨j,hj,hg⟩=>⟨(h.lt g ⟨j,by omega,hg⟩).2,fun hg'=>by have:=h.apart j k g (by omega) hk hg hg';omega⟩
 have hap:∀g,(UF k Fs g∨(Wf.heap.size≤g∧g<wr.heap.size))→(Fs k g∨wr.heap.size≤g)→False:=fun g q1 q2=>by
  rcases q1 with q1 | q1
  ·rcases q2 with q2 | q2
   ·exact (hUl g q1).2 q2
   ·have:=(hUl g q1).1;omega
  ·rcases q2 with q2 | q2
   ·have:=(h.lt g ⟨k,hk,q2⟩).2;omega
   ·omega
 have hhx:(xs.take (k+1)).map doneF=(xs.take k).map doneF++[doneF x]:=by
  have hkx:k<xs.length:=by rw[h.len];exact hk
  rw[List.take_succ_eq_append_getElem hkx,List.map_append];rw[List.getElem?_eq_getElem hkx] at hx;injection hx with hx;rw[hx];rfl
 refine ⟨h.bel.trans (hbut.below h.bel.size fun g hg hn=>?_),Nat.le_trans hgw hz,by simpa using self6.set_ 2 vf',hother h.row ⟨by decide,by decide,by decide⟩,hother h.seqs ⟨by decide,by decide,by decide⟩,⟨vs,bN,hother d1 ⟨by decide,by decide,by decide⟩,d2.imp fun x v b hp=>hp.keepT kt ⟨by decide,by decide,by decide⟩ ⟨by decide,by decide,by decide⟩,d3,d4⟩,fun j y hj hy=>?_,h.apart,h.lt,⟨us++[v0,v1,v2,v3,v4,v5],cI++bI,cS++bS,cZ++bZ,?_,?_,?_,?_,?_,fun g hg'=>?_⟩,h.len,h.offm,h.low⟩
 ·rcases hn with rfl | hn | rfl
  ·omega
  ·have:=(h1.lt g hn).1;omega
  ·omega
 ·have hjn:j<n:=by have:=(List.getElem?_eq_some_iff.1 hy).1;rw[h.len] at this;exact this
  refine (h.flds j y (by omega) hy).keep fun g hg'=>hbut.block g (Nat.lt_of_lt_of_le (h.lt g ⟨j,hjn,hg'⟩).2 hgw) fun hn=>?_;rcases hn with rfl | hn | rfl
  ·have:=h.apart j k _ hjn hk hg' hff;omega
  ·have:=(h1.lt g hn).1;have:=(h.lt g ⟨j,hjn,hg'⟩).2;omega
  ·exact h.offm ⟨j,hjn,hg'⟩
 ·exact own_setCell_ne ho (own_blk_ne ho self6 (by decide)) _
 ·rw[hhx];exact (h2.keepT (kt.mono okD_okF)).snoc ((hd.from_ hlow.1).keepT ((kt6.trans kt7).mono okD_okF))
 ·exact nodup_two h3 hd.nI (fun g hg=>h6 g (List.mem_append_left _ hg)) (fun g hg=>hbl g (List.mem_append_left _ hg)) hap
 ·exact nodup_two h4 hd.nS (fun g hg=>h6 g (List.mem_append_right _ (List.mem_append_left _ hg))) (fun g hg=>hbl g (List.mem_append_right _ (List.mem_append_left _ hg))) hap
 ·exact nodup_two h5 hd.nZ (fun g hg=>h6 g (List.mem_append_right _ (List.mem_append_right _ hg))) (fun g hg=>hbl g (List.mem_append_right _ (List.mem_append_right _ hg))) hap
 ·have key:∀g,(g∈cI++(cS++cZ))∨g∈bI++(bS++bZ)→UF (k+1) Fs g∨(Wf.heap.size≤g∧g<(w6.setCell ⟨gm,2,none⟩ vf').heap.size):=fun g hg=>by
   rcases hg with hg | hg
   ·rcases h6 g hg with ⟨j,hj,q⟩ | q
    ·exact .inl ⟨j,by omega,q⟩
    ·exact .inr ⟨q.1,by omega⟩
   ·rcases hbl g hg with q | q
    ·exact .inl ⟨k,by omega,q⟩
    ·exact .inr ⟨by omega,by have h8:=hbl5 g hg;omega⟩
  refine key g ?_;simp only[List.mem_append] at hg' ⊢
  rcases hg' with (q | q) | (q | q) | (q | q)
  ·exact .inl (.inl q)
  ·exact .inr (.inl q)
  ·exact .inl (.inr (.inl q))
  ·exact .inr (.inr (.inl q))
  ·exact .inl (.inr (.inr q))
  ·exact .inr (.inr (.inr q))
theorem FinK.fin {aq ad af:Option Addr} {nq nd nf cq cd cf:Nat} {w9:World} (h:FinK w Wf gm gf Bf sv n fb xs its (.slice aq nq cq) (.slice ad nd cd) Fs n (.slice af nf cf) wr) (hk:KeepT (fun t=>t≠47) wr w9) :
 nq≤cq∧nd≤cd∧nf≤cf∧(Blk w9 gm 47 #[.slice aq nq nq,.slice ad nd nd,.slice af nf nf]→MemAt w9 w.heap.size gm its xs):=by
 obtain ⟨us,cI,cS,cZ,h1,h2,h3,h4,h5,h6⟩:=h.done;obtain ⟨vs,bN,d1,d2,d3,d4⟩:=h.docs;have hlow:=h.low;have le_of:∀{w:World} {B m n:Nat} {e:TypeId} {a:Option Addr} {k c:Nat} {xs:List Value},ClipM w B e m (.slice a k c) n xs→k≤c:=fun hh=>by obtain ⟨a',c',e,hle⟩:=hh.form;injection e with _ e2 e3;subst e2 e3;exact hle
 have en:∀{w:World} {B m n:Nat} {e:TypeId} {a:Option Addr} {k c:Nat} {xs:List Value},ClipM w B e m (.slice a k c) n xs→ClipM w B e m (.slice a k k) n xs:=fun hh=>by obtain ⟨h1,h2⟩:=hh.clip;subst h1;exact h2
 have eN:∀t,okD t→t≠47:=fun t ht=>(okD_okF t ht).1;have e1:xs.take n=xs:=by rw[←h.len];exact List.take_length
 rw[e1] at h2;have c1:=ClipM.of_own h.seqs;have c2:=ClipM.of_own d1;have c3:=ClipM.of_own h1;refine ⟨le_of c1,le_of c2,le_of c3,fun hb=>⟨_,_,_,vs,us,bN,cI,cS,cZ,hb,(en c1).keepT hk (by decide),(en c2).keepT hk (by decide),d2.imp fun x v b hp=>hp.keepT hk (by decide) (by decide),d3,d4,?_,h2.keepT (hk.mono eN),h3,h4,h5⟩⟩;rw[h.len];exact ((en c3).from_ hlow.2.1).keepT hk (by decide)
end
end Go.Proofs.YtigfcihakghddaaGreatDoor.BufT
end
section
namespace Go.Proofs.YtigfcihakghddaaGreatDoor.BufT
open Go Go.RowKit Words Tree Owned BufP Sch SchP Kit Ana AnaP
def icells (it:IT):List T:=[.lit (.int .u64 it.seq),entriesT it.doc]
theorem icells_len (it:IT):(icells it).length=2:=rfl
abbrev itemsT (its:List IT):T:=rowT 2 icells its
theorem seqB_step {its:List IT} {i last:Nat} (h:i<its.length):seqB last (its.drop i)=(decide (last<its[i].seq) && seqB its[i].seq (its.drop (i+1))):=by
 rw[List.drop_eq_getElem_cons h,seqB]
theorem item_at {w wr:World} {A:Option Addr} {n cap:Nat} {its:List IT} (hx:T.At bare w (fun g=>g<w.heap.size) (itemsT its) (.slice A n cap)) (hb:Below w.heap.size w wr) {i:Nat} (hi:i<its.length) :
 ∃ad A3 c3,A=some ad∧wr.cell? (ad.add (i*2))=some (.int .u64 its[i].seq)∧wr.cell? ⟨(ad.add (i*2)).block,(ad.add (i*2)).off+1,none⟩=some (.slice A3 its[i].doc.length c3)∧(ad.add (i*2)).block<wr.heap.size∧
  T.At bare wr (fun g=>g<w.heap.size) (entriesT its[i].doc) (.slice A3 its[i].doc.length c3):=by
 obtain ⟨A',cap',e,_,_,hr⟩:=at_row icells_len hx;injection e with e1 e2 e3;subst e1 e2 e3;obtain ⟨ad,us,rfl,hs,hu,hl,hc⟩:=hr i hi;simp only[icells] at hu
 match us,hu with
 | [u0,u1],hu=>
  simp only[T.AtL,and_true] at hu;obtain ⟨h0,hn⟩:=hu;simp only[T.At] at h0;subst h0;obtain ⟨A3,c3,rfl,_,_,_⟩:=at_row ecells_len hn;exact ⟨ad,A3,c3,rfl,(hb.cell (by rw[block_of_add];exact hs)).trans hc.zero,(hb.cell (by show (ad.add (i*2)).block<_;rw[block_of_add];exact hs)).trans (hc.at_ 1 _ rfl (by omega)),by rw[block_of_add];exact Nat.lt_of_lt_of_le hs hb.size,At.keep (fun p hp=>hb.cell hp) (fun g hg=>hg) hn⟩
set_option maxRecDepth 100000 in
set_option maxHeartbeats 4000000 in
theorem right_any (w:World) (u iv:Value) (l:List FT) (its:List IT) (hu:T.At bare w (fun g=>g<w.heap.size) (fieldsT l) u) (hl:l.length*72≤140737488351232) (hf:∀f∈l,FOk f) (hx:T.At bare w (fun g=>g<w.heap.size) (itemsT its) iv) (hi:its.length≤1099511627776) :
 Calls Tryz.prog 36 #[.agg #[u],iv] w (Sch.IntB (rightD l its) w):=by
 have HCK:=hX (fun (V:World) (hV:Below w.heap.size w V)=>checkS_any u l V (At.below hu hV (fun g hg=>Nat.lt_of_lt_of_le hg hV.size)) hl hf);obtain ⟨A,cap,rfl,hcap,_,_⟩:=at_row icells_len hx;have HX:=hX hx
 obtain ⟨cb,hcb⟩:∃cb,checkS l=cb:=⟨_,rfl⟩
 obtain ⟨sb,hsb⟩:∃sb,seqB 0 its=sb:=⟨_,rfl⟩
 have HR:Hid (rightD l its=if cb=false then 80 else if 16384<its.length then 3 else if sb then 0 else 1):=hX (by unfold rightD;rw[hcb,hsb]);have HSB:=hX hsb;rw[hcb] at HCK;clear hu hl hf hx hcap hcb hsb;have bu:=Blk.new w 24 #[u];have hbA:Below w.heap.size w (w.alloc (.cells #[u] 24)):=(Below.refl _ _).alloc (Nat.le_refl _) _;have m0:=bu.cell 0;go_enter Tryz.func36,Tryz.ntmps36;go_wp2_with fail;refine (HCK.out _ hbA).mono ?_;rintro e W1 ⟨rfl,hb1⟩;have HB1:Hid (Below w.heap.size w W1):=hX (hbA.trans (hb1.mono (by simp)));clear HCK bu hbA m0 hb1
 cases cb with
 | false=>
  simp only[show errS false=80 from rfl];go_wp2_with fail;go_ret;exact ⟨by rw[HR.out];rfl,HB1.out⟩
 | true=>
  simp only[show errS true=0 from rfl];by_cases h3:16384<its.length
  ·have h3':(16384:Int)<(its.length:Int):=by omega
   have HR3:=hX (show rightD l its=3 by rw[HR.out,if_neg (by simp),if_pos h3]);clear h3;go_wp2_with fail;go_ret;exact ⟨by rw[HR3.out];rfl,HB1.out⟩
  ·have h3':¬(16384:Int)<(its.length:Int):=by omega
   have HR3:=hX (show rightD l its=if sb then 0 else 1 by rw[HR.out,if_neg (by simp),if_neg h3]);clear h3 HR;go_upto_region 7 with fail;go_loopg [5,7,18] its.length (fun m v5 _ v wr=>∃(i last:Nat),v5 = .int .u64 last∧v = .int .i64 i∧i≤its.length∧m=its.length - i∧Hid (seqB last (its.drop i)=sb)∧Hid (Below w.heap.size w wr))
   case atStart=>exact ⟨0,0,rfl,rfl,Nat.zero_le _,rfl,HSB,HB1⟩
   case round=>
    clear HB1 HSB h3';obtain ⟨i,last,rfl,rfl,hi2,rfl,HS,HB⟩:=hrel;by_cases hlt:i<its.length
    ·obtain ⟨ad,A3,c3,rfl,c0,c1,hrw,_⟩:=item_at HX.out HB.out hlt;have HST:=hX ((seqB_step hlt).symm.trans HS.out);have HLT:Hid (i<its.length):=hX hlt;have h4:(0:Int)≤(i:Int):=by omega
     have h5:(i:Int)<(its.length:Int):=by omega
     generalize its[i]=it at *;obtain ⟨sq,dc⟩:=it;dsimp only at *;go_upto_region 9 with fail;have BT:=hX (Blk.new wr 70 #[.int .u64 sq,.slice A3 dc.length c3]);have HB7:Hid (Below w.heap.size w (wr.alloc (.cells #[.int .u64 sq,.slice A3 dc.length c3] 70))):=hX (HB.out.alloc HB.out.size _);clear c0 c1 hrw;generalize wr.alloc (.cells #[.int .u64 sq,.slice A3 dc.length c3] 70)=W7 at *;have t0:=BT.out.cell 0;by_cases hle:sq≤last
     ·have hle':(sq:Int)≤(last:Int):=by omega
      have HE:Hid (sb=false):=hX (by
       have:=HST.out;rw[show decide (last<sq)=false from by simp;omega] at this
       simpa using this.symm)
      clear hle;go_wp2_with fail;go_ret;exact ⟨by rw[HR3.out,HE.out];rfl,HB7.out⟩
     ·have hle':¬(sq:Int)≤(last:Int):=by omega
      have HE:Hid (seqB sq (its.drop (i+1))=sb):=hX (by
       have:=HST.out;rw[show decide (last<sq)=true from by simp;omega] at this
       simpa using this)
      clear hle;go_wp2_with fail;go_roundg (its.length - (i+1))
      case measure=>have:=HLT.out;omega
      case rel=>exact ⟨i+1,sq,rfl,by go_num,by have:=HLT.out;omega,rfl,HE,HB7⟩
    ·obtain rfl:i=its.length:=by omega
     have HE:Hid (sb=true):=hX (by
      have:=HS.out;rw[List.drop_length,seqB] at this
      exact this.symm)
     clear hlt;go_wp2_with fail;go_ret;exact ⟨by rw[HR3.out,HE.out];rfl,HB.out⟩
end Go.Proofs.YtigfcihakghddaaGreatDoor.BufT
end
