/- Lemmas that the last text leans on. -/
import Derived.Test.YtigfcihakghddaaGreatDoorPack40
import Derived.Test.YtigfcihakghddaaGreatDoorBufEq
import Derived.Test.YtigfcihakghddaaGreatDoorPack38
import Derived.Test.YtigfcihakghddaaGreatDoorPack8
import Derived.Test.YtigfcihakghddaaGreatDoorPack4
import Derived.Test.YtigfcihakghddaaGreatDoorProg
import Derived.Deep.QuietTactic
import Derived.BigQuiet
set_option linter.all false
set_option maxRecDepth 100000
set_option maxHeartbeats 4000000
section
namespace Go.Proofs.YtigfcihakghddaaGreatDoor.BufT
open Go Go.RowKit Words Tree Owned MapV BufP Sch SchP AnaP Kit
section
variable {w:World} {B:Nat}
theorem SubF.at {xs:List ID} {vs:List Value} {bI bS bZ:List Nat} (h:SubF w B xs vs bI bS bZ):T.AtL bare w (fun g=>B≤g∧CellsAt w g) (xs.flatMap invT) vs:=by
 induction h with
 | nil=>simp[T.AtL]
 | cons h t ih=>
  rw[List.flatMap_cons];exact AtL.append h.at ih
theorem clip_i64l {v:Value} {l:List Int} (h:ClipRow w B 2 v (intCells l)):T.At bare w (fun g=>B≤g∧CellsAt w g) (numsT .i64 l) v:=by
 have:=clip_i64s h;unfold intsT rowT at this;unfold numsT;rwa [one_lits (Value.int .i64)] at this
theorem entry_mk (x:ET) (u:Value) (S:Nat→Prop) (h:T.At bare w S (numsT .i64 x.nums) u):T.AtL bare w S (ecells x) (preE x++[u]):=by
 simp only[ecells,preE,List.cons_append,List.nil_append,T.AtL,T.At,true_and,and_true];exact h
theorem DocC.at {d:List ET} {v:Value} {bs:List Nat} (h:DocC w B d v bs):T.At bare w (fun g=>B≤g∧CellsAt w g) (entriesT d) v:=by
 obtain ⟨vs,ha,hb⟩:=h;exact ha.at ecells_len (hb.at (fun x u hu=>clip_i64l hu) entry_mk)
abbrev seqsT (its:List IT):T:=rowT 1 (fun it:IT=>[.lit (.int .u64 it.seq)]) its
abbrev docsT (its:List IT):T:=rowT 1 (fun it:IT=>[entriesT it.doc]) its
abbrev fieldsI (xs:List FD):T:=rowT 6 invT (xs.map doneF)
def MemR (w:World) (S:Nat→Prop) (gm:Nat) (its:List IT) (xs:List FD):Prop:=
 ∃aq nq cq ad nd cd af nf cf,Blk w gm 47 #[.slice aq nq cq,.slice ad nd cd,.slice af nf cf]∧T.At bare w S (seqsT its) (.slice aq nq cq)∧T.At bare w S (docsT its) (.slice ad nd cd)∧T.At bare w S (fieldsI xs) (.slice af nf cf)
theorem MemAt.read {gm:Nat} {its:List IT} {xs:List FD} (h:MemAt w B gm its xs):MemR w (fun g=>B≤g∧CellsAt w g) gm its xs:=by
 obtain ⟨vq,vd,vf,vs,us,bN,bI,bS,bZ,h1,h2,h3,h4,h5,h6,h7,h8,_⟩:=h;obtain ⟨aq,cq,rfl,_⟩:=h2.form;obtain ⟨ad,cd,rfl,_⟩:=h3.form;obtain ⟨af,cf,rfl,_⟩:=h7.form;refine ⟨aq,_,cq,ad,_,cd,af,_,cf,h1,?_,?_,?_⟩
 ·refine h2.at (fun _=>rfl) ?_;rw[one_lits (fun it:IT=>Value.int .u64 it.seq)];exact AtL.of_lits
 ·refine h3.at (fun _=>rfl) ?_;have:=h4.at (f:=fun d=>[entriesT d]) (S:=fun g=>B≤g∧CellsAt w g) (fun x v b hp=>by simp only[T.AtL,and_true];exact hp.at);rwa [List.flatMap_map] at this
 ·have hl:(xs.map doneF).length=xs.length:=List.length_map _;have:=ClipM.at (f:=invT) (ys:=xs.map doneF) invT_len (by rw[hl];exact h7) h8.at;exact this
structure InvR (w:World) (S:Nat→Prop) (x:ID) (v0 v1 v2 v3 v4 v5:Value):Prop where
 terms:T.At bare w S (strsT x.terms) v0
 posts:T.At bare w S (rowT 1 (fun ps=>[rowT 2 pairT ps]) x.posts) v1
 lens:T.At bare w S (intsT x.lens) v2
 texts:T.At bare w S (rowT 1 (fun l=>[strsT l]) x.texts) v3
 nums:T.At bare w S (rowT 1 (fun l=>[intsT l]) x.nums) v4
 pts:T.At bare w S (rowT 2 pairT x.pts) v5
theorem InvR.keep {w':World} {S S':Nat→Prop} {x:ID} {v0 v1 v2 v3 v4 v5:Value} (h:InvR w S x v0 v1 v2 v3 v4 v5) (hk:∀p:Addr,S p.block→w'.cell? p=w.cell? p) (hS:∀g,S g→S' g):InvR w' S' x v0 v1 v2 v3 v4 v5:=
 ⟨At.keep hk hS h.terms,At.keep hk hS h.posts,At.keep hk hS h.lens,At.keep hk hS h.texts,At.keep hk hS h.nums,At.keep hk hS h.pts⟩
theorem field_at {S:Nat→Prop} {xs:List ID} {A:Option Addr} {n c:Nat} (h:T.At bare w S (rowT 6 invT xs) (.slice A n c)) {i:Nat} (hi:i<xs.length) :
 ∃ad a0 c0 a1 c1 a2 c2 a3 c3 a4 c4 a5 c5,A=some ad∧S ad.block∧n=xs.length∧Cells w (ad.add (i*6)) [.slice a0 xs[i].terms.length c0,.slice a1 xs[i].posts.length c1,.slice a2 xs[i].lens.length c2,.slice a3 xs[i].texts.length c3,.slice a4 xs[i].nums.length c4,.slice a5 xs[i].pts.length c5]∧
  InvR w S xs[i] (.slice a0 xs[i].terms.length c0) (.slice a1 xs[i].posts.length c1) (.slice a2 xs[i].lens.length c2) (.slice a3 xs[i].texts.length c3) (.slice a4 xs[i].nums.length c4) (.slice a5 xs[i].pts.length c5):=by
 obtain ⟨A',cap',e,_,_,hr⟩:=at_row invT_len h;injection e with e1 e2 e3;subst e1 e2 e3;obtain ⟨ad,us,rfl,hs,hu,hl,hc⟩:=hr i hi;generalize xs[i]=x at *;unfold invT at hu;obtain ⟨u0,us0,rfl,h0,hu⟩:=AtL.cons_ hu;obtain ⟨u1,us1,rfl,h1,hu⟩:=AtL.cons_ hu;obtain ⟨u2,us2,rfl,h2,hu⟩:=AtL.cons_ hu;obtain ⟨u3,us3,rfl,h3,hu⟩:=AtL.cons_ hu;obtain ⟨u4,us4,rfl,h4,hu⟩:=AtL.cons_ hu;obtain ⟨u5,us5,rfl,h5,hu⟩:=AtL.cons_ hu;obtain rfl:=AtL.nil_ hu;obtain ⟨a0,c0,rfl,_,_⟩:=at_slice h0;obtain ⟨a1,c1,rfl,_,_⟩:=at_slice h1;obtain ⟨a2,c2,rfl,_,_⟩:=at_slice h2;obtain ⟨a3,c3,rfl,_,_⟩:=at_slice h3;obtain ⟨a4,c4,rfl,_,_⟩:=at_slice h4;obtain ⟨a5,c5,rfl,_,_⟩:=at_slice h5;exact ⟨ad,a0,c0,a1,c1,a2,c2,a3,c3,a4,c4,a5,c5,rfl,hs,rfl,hc,⟨h0,h1,h2,h3,h4,h5⟩⟩
theorem pair_at {S:Nat→Prop} {ps:List (Int × List Int)} {A:Option Addr} {n c:Nat} (h:T.At bare w S (rowT 2 pairT ps) (.slice A n c)) {i:Nat} (hi:i<ps.length) :
 ∃ad a1 c1,A=some ad∧S ad.block∧w.cell? (ad.add (i*2))=some (.int .i64 ps[i].1)∧w.cell? ⟨(ad.add (i*2)).block,(ad.add (i*2)).off+1,none⟩=some (.slice a1 ps[i].2.length c1)∧T.At bare w S (intsT ps[i].2) (.slice a1 ps[i].2.length c1):=by
 obtain ⟨A',cap',e,_,_,hr⟩:=at_row pairT_len h;injection e with e1 e2 e3;subst e1 e2 e3;obtain ⟨ad,us,rfl,hs,hu,hl,hc⟩:=hr i hi;simp only[pairT] at hu
 match us,hu with
 | [u0,u1],hu=>
  simp only[T.AtL,T.At,and_true] at hu;obtain ⟨rfl,h1⟩:=hu;have h1':T.At bare w S (intsT ps[i].2) u1:=h1;obtain ⟨a1,c1,rfl,_,_⟩:=at_slice h1';exact ⟨ad,a1,c1,rfl,hs,hc.zero,hc.at_ 1 _ rfl (by omega),h1'⟩
end
end Go.Proofs.YtigfcihakghddaaGreatDoor.BufT
end
section
namespace Go.Proofs.YtigfcihakghddaaGreatDoor.BufT
open Go Go.RowKit Words Tree Owned BufP Sch SchP AnaP Kit
theorem row_litB {X:Type} {f:X→List T} {s:Nat} (hf:∀x,(f x).length=s) {w:World} {S:Nat→Prop} {g:Nat} {et:TypeId} {vs:List Value} {xs:List X} (hb:Blk w g et vs.toArray) (hS:S g) (hm:xs.length≤1048576) (ha:T.AtL bare w S (xs.flatMap f) vs) :
 T.At bare w S (rowT s f xs) (.slice (some ⟨g,0,none⟩) xs.length xs.length):=by
 simp only[rowT,T.At]
 have hfl:∀l:List X,(l.flatMap f).length=l.length*s:=by
  intro l
  induction l with
  | nil=>simp
  | cons x l ih=>rw[List.flatMap_cons,List.length_append,ih,hf,List.length_cons,Nat.succ_mul];omega
 refine ⟨_,_,vs,rfl,by simp[bare],by unfold maxLen;omega,hfl xs,fun _=>⟨_,rfl,hS,fun j u hu=>?_⟩,ha⟩;have hadd:(⟨g,0,none⟩:Addr).add j=⟨g,j,none⟩:=by unfold Addr.add;split <;> simp_all
 rw[hadd,hb.cell j];simpa [bare] using hu
theorem nums_litB {w:World} {S:Nat→Prop} {g:Nat} {et:TypeId} {k:IntKind} {l:List Int} (hb:Blk w g et (l.map (Value.int k)).toArray) (hS:S g) (hm:l.length≤1048576):T.At bare w S (numsT k l) (.slice (some ⟨g,0,none⟩) l.length l.length):=by
 simp only[numsT,T.At];refine ⟨_,_,l.map (Value.int k),rfl,by simp[bare],by unfold maxLen;omega,by simp,fun _=>⟨_,rfl,hS,fun j u hu=>?_⟩,AtL.of_lits⟩;have hadd:(⟨g,0,none⟩:Addr).add j=⟨g,j,none⟩:=by unfold Addr.add;split <;> simp_all
 rw[hadd,hb.cell j];simpa [bare] using hu
def fvalsB (f:FT) (v:Value):List Value:=[.string f.name,.int .i64 f.kind,v,.int .i64 f.scale,.int .i64 f.dims,.bool f.many,.bool f.stored]
def evalsB (e:ET) (v:Value):List Value:=[.string e.field,.string e.text,v]
theorem blk_cellsB {w:World} {g:Nat} {t:TypeId} {cs:Array Value} (h:Blk w g t cs):CellsAt w g:=⟨_,_,_,h⟩
theorem new_at (X:World) (n:Nat) (t:TypeId) (cs:Array Value) (h:X.heap.size=n):Blk (X.alloc (.cells cs t)) n t cs:=by subst h;exact Blk.new X t cs
def TreeRet (t:T) (w:World) (e:Ending) (w':World):Prop:=∃A n c,e = .returned (.slice A n c)∧T.At bare w' (fun g=>w.heap.size≤g∧CellsAt w' g) t (.slice A n c)∧Below w.heap.size w w'
def AggRet (t:T) (w:World) (e:Ending) (w':World):Prop:=∃A n c,e = .returned (.agg #[.slice A n c])∧T.At bare w' (fun g=>w.heap.size≤g∧CellsAt w' g) t (.slice A n c)∧Below w.heap.size w w'
theorem given_any (w:World):Calls Tryz.prog 25 #[] w (AggRet (fieldsT givenL) w):=by
 go_enter Tryz.func25,Tryz.ntmps25;go_wp2_with fail;generalize hV:(((w.alloc (Obj.cells #[Value.slice (some { block:=w.heap.size+1+1,off:=0 }) 3 3] 24)).alloc _).alloc _)=V;have B0:Blk V w.heap.size 24 #[.slice (some ⟨w.heap.size+1+1,0,none⟩) 3 3]:=by rw[←hV];exact ((Blk.new w _ _).alloc _).alloc _
 have B1:Blk V (w.heap.size+1) 3 #[.int .i64 1,.int .i64 10]:=by rw[←hV];exact (new_at _ _ _ _ (by simp)).alloc _
 have B2:Blk V (w.heap.size+1+1) 86 (fvalsB ⟨⟨#[116]⟩,1,[1,10],0,0,false,false⟩ (.slice (some ⟨w.heap.size+1,0,none⟩) 2 2)++(fvalsB ⟨⟨#[107]⟩,2,[],0,0,true,false⟩ (.slice none 0 0)++(fvalsB ⟨⟨#[110]⟩,3,[],0,0,true,false⟩ (.slice none 0 0)++[]))).toArray:=(by rw[←hV];exact new_at _ _ _ _ (by simp))
 have HB:Below w.heap.size w V:=by rw[←hV];exact (((Below.refl _ _).alloc (Nat.le_refl _) _).alloc (by simp) _).alloc (by simp;omega) _
 have cz:V.cell? ⟨w.heap.size,0,none⟩=some (.slice (some ⟨w.heap.size+1+1,0,none⟩) 3 3):=B0.cell 0;clear hV;refine bodyPost_ret (v:=.agg #[.slice (some ⟨w.heap.size+1+1,0,none⟩) 3 3]) (by simp[results,Tryz.results25,go_sem,cz];try rfl) rfl ?_;refine ⟨_,_,_,rfl,?_,HB⟩;have h1:=blk_cellsB B1;have h2:=blk_cellsB B2;refine row_litB (xs:=givenL) fcells_len B2 ⟨by omega,h2⟩ (by decide) ?_;have hn:∀{W:World} {S:Nat→Prop},T.At bare W S (numsT .i64 []) (.slice none 0 0):=nums_none rfl;have hq:T.At bare V (fun g=>w.heap.size≤g∧CellsAt V g) (numsT .i64 [1,10]) (.slice (some ⟨w.heap.size+1,0,none⟩) 2 2):=nums_litB (l:=[1,10]) B1 ⟨by omega,h1⟩ (by decide);exact AtL.append (fcells_mk (f:=⟨⟨#[116]⟩,1,[1,10],0,0,false,false⟩) hq) (AtL.append (fcells_mk (f:=⟨⟨#[107]⟩,2,[],0,0,true,false⟩) hn) (AtL.append (fcells_mk (f:=⟨⟨#[110]⟩,3,[],0,0,true,false⟩) hn) (by simp[T.AtL])))
theorem second_any (w:World):Calls Tryz.prog 33 #[] w (AggRet (entriesT secondE) w):=by
 go_enter Tryz.func33,Tryz.ntmps33;go_wp2_with fail;generalize hV:((((w.alloc (Obj.cells #[Value.slice (some { block:=w.heap.size+1+1+1,off:=0 }) 4 4] _)).alloc _).alloc _).alloc _)=V;have B1:Blk V (w.heap.size+1) 2 #[.int .i64 2]:=by rw[←hV];exact ((new_at _ _ _ _ (by simp)).alloc _).alloc _
 have B2:Blk V (w.heap.size+1+1) 2 #[.int .i64 2]:=by rw[←hV];exact (new_at _ _ _ _ (by simp)).alloc _
 have B3:Blk V (w.heap.size+1+1+1) 82 (evalsB ⟨⟨#[107]⟩,⟨#[121]⟩,[]⟩ (.slice none 0 0)++(evalsB ⟨⟨#[107]⟩,⟨#[120]⟩,[]⟩ (.slice none 0 0)++(evalsB ⟨⟨#[110]⟩,⟨#[]⟩,[2]⟩ (.slice (some ⟨w.heap.size+1,0,none⟩) 1 1)++(evalsB ⟨⟨#[110]⟩,⟨#[]⟩,[2]⟩ (.slice (some ⟨w.heap.size+1+1,0,none⟩) 1 1)++[])))).toArray:=(by rw[←hV];exact new_at _ _ _ _ (by simp))
 have HB:Below w.heap.size w V:=by rw[←hV];exact ((((Below.refl _ _).alloc (Nat.le_refl _) _).alloc (by simp) _).alloc (by simp;omega) _).alloc (by simp;omega) _
 have cz:V.cell? ⟨w.heap.size,0,none⟩=some (.slice (some ⟨w.heap.size+1+1+1,0,none⟩) 4 4):=by rw[←hV];exact ((((Blk.new w _ _).alloc _).alloc _).alloc _).cell 0
 clear hV;refine bodyPost_ret (v:=.agg #[.slice (some ⟨w.heap.size+1+1+1,0,none⟩) 4 4]) (by simp[results,Tryz.results33,go_sem,cz];try rfl) rfl ?_;refine ⟨_,_,_,rfl,?_,HB⟩;have h1:=blk_cellsB B1;have h2:=blk_cellsB B2;have h3:=blk_cellsB B3;refine row_litB (xs:=secondE) ecells_len B3 ⟨by omega,h3⟩ (by decide) ?_;have hn:∀{W:World} {S:Nat→Prop},T.At bare W S (numsT .i64 []) (.slice none 0 0):=nums_none rfl;have hq1:T.At bare V (fun g=>w.heap.size≤g∧CellsAt V g) (numsT .i64 [2]) (.slice (some ⟨w.heap.size+1,0,none⟩) 1 1):=nums_litB (l:=[2]) B1 ⟨by omega,h1⟩ (by decide);have hq2:T.At bare V (fun g=>w.heap.size≤g∧CellsAt V g) (numsT .i64 [2]) (.slice (some ⟨w.heap.size+1+1,0,none⟩) 1 1):=nums_litB (l:=[2]) B2 ⟨by omega,h2⟩ (by decide);exact AtL.append (ecells_mk (e:=⟨⟨#[107]⟩,⟨#[121]⟩,[]⟩) hn) (AtL.append (ecells_mk (e:=⟨⟨#[107]⟩,⟨#[120]⟩,[]⟩) hn) (AtL.append (ecells_mk (e:=⟨⟨#[110]⟩,⟨#[]⟩,[2]⟩) hq1) (AtL.append (ecells_mk (e:=⟨⟨#[110]⟩,⟨#[]⟩,[2]⟩) hq2) (by simp[T.AtL]))))
theorem items_any (w:World):Calls Tryz.prog 26 #[] w (TreeRet (itemsT itemsL) w):=by
 go_enter Tryz.func26,Tryz.ntmps26;go_wp2_with fail;generalize hW1:((w.alloc (Obj.cells #[Value.int IntKind.i64 5] _)).alloc _)=W1;have C1:Blk W1 w.heap.size 2 #[.int .i64 5]:=by rw[←hW1];exact (Blk.new w _ _).alloc _
 have C2:Blk W1 (w.heap.size+1) 82 (evalsB ⟨⟨#[116]⟩,⟨#[65,32,98,32,97]⟩,[]⟩ (.slice none 0 0)++(evalsB ⟨⟨#[107]⟩,⟨#[120]⟩,[]⟩ (.slice none 0 0)++(evalsB ⟨⟨#[110]⟩,⟨#[]⟩,[5]⟩ (.slice (some ⟨w.heap.size,0,none⟩) 1 1)++[]))).toArray:=(by rw[←hW1];exact new_at _ _ _ _ (by simp))
 have HB1:Below w.heap.size w W1:=by rw[←hW1];exact ((Below.refl _ _).alloc (Nat.le_refl _) _).alloc (by simp) _
 have hs1:W1.heap.size=w.heap.size+1+1:=by rw[←hW1];simp
 clear hW1;refine (second_any W1).mono ?_;rintro e W2 ⟨A,n,c,rfl,ht,hb2⟩;rename_i K1 hK1 K2 hK2
 apply hK2;go_wp2_with fail;clear hK2;generalize hV:W2.alloc _=V;have hle:w.heap.size+1+1≤W2.heap.size:=by rw[←hs1];exact hb2.size
 have D0:Blk V W2.heap.size 70 (([.int .u64 3,.slice (some ⟨w.heap.size+1,0,none⟩) 3 3]:List Value)++(([.int .u64 7,.slice A n c]:List Value)++[])).toArray:=by rw[←hV];exact new_at _ _ _ _ rfl
 have D1:Blk V w.heap.size 2 #[.int .i64 5]:=by rw[←hV];exact (C1.below hb2 (by omega)).alloc _
 have D2:=C2.below hb2 (by omega);have D2:=D2.alloc (Obj.cells #[Value.int IntKind.u64 3,Value.slice (some { block:=w.heap.size+1,off:=0 }) 3 3,Value.int IntKind.u64 7,Value.slice A n c] 70);rw[hV] at D2;have HB:Below w.heap.size w V:=by rw[←hV];exact (HB1.trans (hb2.mono (by omega))).alloc (by omega) _
 have DE:T.At bare V (fun g=>w.heap.size≤g∧CellsAt V g) (entriesT secondE) (.slice A n c):=(by rw[←hV];exact At.keep (fun p hp=>World.cell?_alloc_lt _ _ _ hp.2.lt) (fun g h=>⟨by omega,h.2.below (Below.alloc (Below.refl _ _) (Nat.le_refl _) _) h.2.lt⟩) ht)
 clear hV;refine bodyPost_ret (v:=.slice (some ⟨W2.heap.size,0,none⟩) 2 2) (by simp[results,Tryz.results26,go_sem];try rfl) rfl ?_;refine ⟨_,_,_,rfl,?_,HB⟩;have h0:=blk_cellsB D0;have h1:=blk_cellsB D1;have h2:=blk_cellsB D2;have hn:∀{W:World} {S:Nat→Prop},T.At bare W S (numsT .i64 []) (.slice none 0 0):=nums_none rfl;have hq1:T.At bare V (fun g=>w.heap.size≤g∧CellsAt V g) (numsT .i64 [5]) (.slice (some ⟨w.heap.size,0,none⟩) 1 1):=nums_litB (l:=[5]) D1 ⟨by omega,h1⟩ (by decide)
 have he1:T.At bare V (fun g=>w.heap.size≤g∧CellsAt V g) (entriesT firstE) (.slice (some ⟨w.heap.size+1,0,none⟩) 3 3):=(by refine row_litB (xs:=firstE) ecells_len D2 ⟨by omega,h2⟩ (by decide) ?_;exact AtL.append (ecells_mk (e:=⟨⟨#[116]⟩,⟨#[65,32,98,32,97]⟩,[]⟩) hn) (AtL.append (ecells_mk (e:=⟨⟨#[107]⟩,⟨#[120]⟩,[]⟩) hn) (AtL.append (ecells_mk (e:=⟨⟨#[110]⟩,⟨#[]⟩,[5]⟩) hq1) (by simp[T.AtL]))))
 refine row_litB (xs:=itemsL) icells_len D0 ⟨by omega,h0⟩ (by decide) ?_;refine AtL.append (ts:=icells ⟨3,firstE⟩) ?_ (AtL.append (ts:=icells ⟨7,secondE⟩) ?_ (by simp[T.AtL]))
 ·simp only[icells,T.AtL,and_true];exact ⟨by simp[T.At,bare],he1⟩
 ·simp only[icells,T.AtL,and_true];exact ⟨by simp[T.At,bare],DE⟩
end Go.Proofs.YtigfcihakghddaaGreatDoor.BufT
end
section
namespace Go.Proofs.YtigfcihakghddaaGreatDoor.BufT
open Go Go.RowKit Words SchP
theorem other_any (w:World) (bi:Nat) (i cf:Int) (ct:ByteArray) (A:Option Addr) (n c:Nat) (hc:w.cell? ⟨bi,0,none⟩=some (.int .i64 i)) (hb:bi<w.heap.size) :
 Calls Tryz.prog 42 #[.agg #[.int .i64 cf,.string ct,.slice A n c],.pointer (some ⟨bi,0,none⟩)] w fun e w'=>e = .returned (.bool (cf != i))∧Below w.heap.size w w':=by
 have hA:Below w.heap.size w (w.alloc (.cells #[.int .i64 cf,.string ct,.slice A n c] 103)):=(Below.refl _ _).alloc (Nat.le_refl _) _;have BT:=Blk.new w 103 #[.int .i64 cf,.string ct,.slice A n c];have hc2:=(hA.cell (p:=⟨bi,0,none⟩) hb).trans hc;go_enter Tryz.func42,Tryz.ntmps42;go_upto_region 1 with fail;generalize w.alloc (.cells #[.int .i64 cf,.string ct,.slice A n c] 103)=W1 at *;have t0:=BT.cell 0;go_wp2_with fail;go_ret;exact ⟨rfl,hA⟩
theorem such_any (w:World) (bi bs:Nat) (i cf:Int) (ct s:ByteArray) (A:Option Addr) (n c:Nat) (hc:w.cell? ⟨bi,0,none⟩=some (.int .i64 i)) (hs:w.cell? ⟨bs,0,none⟩=some (.string s)) (hb:bi<w.heap.size) (hbs:bs<w.heap.size) :
 Calls Tryz.prog 59 #[.agg #[.int .i64 cf,.string ct,.slice A n c],.pointer (some ⟨bi,0,none⟩),.pointer (some ⟨bs,0,none⟩)] w fun e w'=>e = .returned (.bool (cf == i && ct.toList == s.toList))∧Below w.heap.size w w':=by
 have hA:Below w.heap.size w (w.alloc (.cells #[.int .i64 cf,.string ct,.slice A n c] 103)):=(Below.refl _ _).alloc (Nat.le_refl _) _;have BT:=Blk.new w 103 #[.int .i64 cf,.string ct,.slice A n c];have hc2:=(hA.cell (p:=⟨bi,0,none⟩) hb).trans hc;have hs2:=(hA.cell (p:=⟨bs,0,none⟩) hbs).trans hs;go_enter Tryz.func59,Tryz.ntmps59;go_upto_region 1 with fail;generalize w.alloc (.cells #[.int .i64 cf,.string ct,.slice A n c] 103)=W1 at *;have t0:=BT.cell 0;have t1:=BT.cell 1
 obtain ⟨b,hb1⟩:∃b,(cf == i)=b:=⟨_,rfl⟩
 cases b with
 | false=>
  have hne:¬cf=i:=by simpa using hb1
  go_wp2_with fail;go_ret;exact ⟨by rw[hb1];rfl,hA⟩
 | true=>
  obtain rfl:cf=i:=by simpa using hb1
  go_wp2_with fail;go_ret;exact ⟨by simp,hA⟩
end Go.Proofs.YtigfcihakghddaaGreatDoor.BufT
end
