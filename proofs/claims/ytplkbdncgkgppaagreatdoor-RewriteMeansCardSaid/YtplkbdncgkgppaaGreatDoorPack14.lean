/- Lemmas that the last text leans on. -/
import Derived.Test.YtplkbdncgkgppaaGreatDoorPack7
import Derived.RangeFuncBox
import Derived.RangeFuncFrom
import Derived.Test.YtplkbdncgkgppaaGreatDoorPack13
import Derived.Test.YtplkbdncgkgppaaGreatDoorPack4
set_option linter.all false
section
namespace Go.Proofs.YtplkbdncgkgppaaGreatDoor.Tree
open Go.RowKit Go.WideShapes Go.ChangeShapes Words Owned
def zf5 (k:IntKind) (l:List Int):T:=.arr 1 l.length (l.map fun z=>.lit (.int k z))
def ybb {X:Type} (s:Nat) (f:X→List T) (xs:List X):T:=.arr s xs.length (xs.flatMap f)
section
variable {sent:Nat→List (List Value)} {w:World} {S:Nat→Prop} {X:Type} {f:X→List T} {s:Nat}
theorem zc2 {B:Nat} {k:IntKind} {l:List Int} {v:Value} (h:T.At sent w (fun g=>g<B) (zf5 k l) v):∃A cap,v = .slice A l.length cap∧l.length≤cap∧cap≤maxLen∧Reads w B 1 A l.length (l.map (Value.int k)):=by
 obtain ⟨A,cap,vs,hv,h1,h2,h3,h4⟩:=At.reads h;obtain rfl:=AtL.lits h4;exact ⟨A,cap,hv,h1,h2,h3⟩
theorem zar {n:Nat} {xs:List T} {v:Value} (h:T.At sent w S (.arr s n xs) v):∃A cap,v = .slice A n cap∧n+(sent s).length≤cap∧cap≤maxLen:=by
 simp only[T.At] at h;obtain ⟨A,cap,_,hv,h1,h2,_⟩:=h;exact ⟨A,cap,hv,h1,h2⟩
theorem zmz (hf:∀x,(f x).length=s) {xs:List X} {v:Value} (h:T.At sent w S (ybb s f xs) v) :
 ∃A cap,v = .slice A xs.length cap∧xs.length+(sent s).length≤cap∧cap≤maxLen∧∀(i:Nat) (hi:i<xs.length),∃ad us,A=some ad∧S ad.block∧T.AtL sent w S (f xs[i]) us∧us.length=s∧zb6 w (ad.add (i*s)) us:=by
 simp only[ybb,T.At] at h;obtain ⟨A,cap,vs,hv,hc,hm,hl,ha,hx⟩:=h;refine ⟨A,cap,hv,hc,hm,fun i hi=>?_⟩;obtain ⟨ad,e,hs,hcs⟩:=ha (by omega);obtain ⟨us,hul,hus,hj⟩:=AtL.elem hf hx i hi;exact ⟨ad,us,e,hs,hus,hul,(hcs.left).elem hj hul⟩
def LentRow (sent:Nat→List (List Value)) (et:TypeId) (s:Nat) (f:X→List T) (W wr:World) (v:Value) (xs:List X) (k:Nat):Prop:=
 ∃cs,wr.ownsRow W.heap.size et s v k cs∧T.AtL sent wr (fun g=>W.heap.size≤g∧g<wr.heap.size∧v.ownBlock≠some g) ((xs.take k).flatMap f) cs∧Below W.heap.size W wr
theorem zpf (et:TypeId) (W:World) (xs:List X):LentRow sent et s f W W (.slice none 0 0) xs 0:=⟨[],World.ownsRow_nil _ _ _ _,by simp[T.AtL],Below.refl _ _⟩
theorem zpg {et:TypeId} {W wr w3 w4:World} {v v':Value} {xs:List X} {k:Nat} {us cs:List Value} (hk:k<xs.length)
 (hx:wr.ownsRow W.heap.size et s v k cs) (ha:T.AtL sent wr (fun g=>W.heap.size≤g∧g<wr.heap.size∧v.ownBlock≠some g) ((xs.take k).flatMap f) cs) (hB:Below W.heap.size W wr)
 (hu:T.AtL sent w3 (fun g=>wr.heap.size≤g∧g<w3.heap.size) (f xs[k]) us) (hb:Below wr.heap.size wr w3)
 (ho:w4.ownsRow W.heap.size et s v' (k+1) (cs++us)) (hg:w3.grownBy w4 v.ownBlock) (hv:v'.ownBlock=v.ownBlock∨v'.ownBlock=some w3.heap.size):LentRow sent et s f W w4 v' xs (k+1):=by
 have hlt:∀r,v.ownBlock=some r→r<wr.heap.size:=fun r e=>(hx.lt r e).2;have hz3:=hb.size;have hz4:=hg.size
 have hbl:∀p:Addr,p.block<w3.heap.size→v.ownBlock≠some p.block→w4.cell? p=w3.cell? p:=fun p hp hne=>
  World.cell?_of_block (hg.block p.block hp (fun e=>hne e.symm))
 refine ⟨cs++us,ho,?_,?_⟩
 ·rw[List.take_succ_eq_append_getElem hk,List.flatMap_append,List.flatMap_singleton];refine AtL.append (AtL.keep (fun p hp=>?_) (fun g hg'=>?_) ha) (AtL.keep (fun p hp=>?_) (fun g hg'=>?_) hu)
  ·exact (hbl p (by omega) hp.2.2).trans (hb.cell hp.2.1)
  ·refine ⟨hg'.1,by omega,?_⟩;rcases hv with hv | hv <;> rw[hv]
   ·exact hg'.2.2
   ·intro e;injection e with e;omega
  ·exact hbl p hp.2 (fun e=>by have:=hlt _ e;omega)
  ·refine ⟨by have:=hB.size;omega,by omega,?_⟩;rcases hv with hv | hv <;> rw[hv]
   ·intro e;have:=hlt _ e;omega
   ·intro e;injection e with e;omega
 ·exact (hB.trans (hb.mono hB.size)).grown hg (by have:=hB.size;omega) (fun r e=>(hx.lt r e).1)
theorem zrq (hf:∀x,(f x).length=s) {mark:List Value} (hmk:sent s=[mark]) {et:TypeId} {W wr w3 w4:World} {v:Value} {xs:List X} {cs:List Value} {g cap:Nat}
 (hx:wr.ownsRow W.heap.size et s v xs.length cs) (ha:T.AtL sent wr (fun g=>W.heap.size≤g∧g<wr.heap.size∧v.ownBlock≠some g) ((xs.take xs.length).flatMap f) cs) (hB:Below W.heap.size W wr) (hb:Below wr.heap.size wr w3)
 (ho:w4.ownsRow W.heap.size et s (.slice (some ⟨g,0,none⟩) (xs.length+1) cap) (xs.length+1) (cs++mark)) (hcap:xs.length+1≤cap) (hm:cap≤maxLen) (hg:w3.grownBy w4 v.ownBlock) :
 T.At sent w4 (fun g=>W.heap.size≤g∧g<w4.heap.size) (ybb s f xs) (.slice (some ⟨g,0,none⟩) xs.length cap)∧Below W.heap.size W w4:=by
 have hz3:=hb.size;have hz4:=hg.size;have hlt:=ho.lt g rfl;refine ⟨?_,(hB.trans (hb.mono hB.size)).grown hg (by have:=hB.size;omega) (fun r e=>(hx.lt r e).1)⟩;simp only[ybb,T.At];rw[List.take_length] at ha;refine ⟨_,cap,cs,rfl,by rw[hmk];simpa using hcap,hm,zhs f hf xs,fun _=>⟨_,rfl,hlt,?_⟩,AtL.keep (fun p hp=>?_) (fun g' hg'=>⟨hg'.1,by omega⟩) ha⟩
 ·rw[hmk];simp only[List.flatten_cons,List.flatten_nil,List.append_nil];exact ho.cells (g:=g) rfl
 ·exact (World.cell?_of_block (hg.block p.block (by omega) (fun e=>hp.2.2 e.symm))).trans (hb.cell hp.2.1)
end
section
variable {P:Program}
theorem zrr {α:Type} {f:α→List T} {C:α→Prop}:∀{rows:List (List T)},(∀r∈rows,∃a,r=f a∧C a)→∃l:List α,rows=l.map f∧∀a∈l,C a
 | [],_=>⟨[],rfl,by simp⟩
 | r::rows,h=>by obtain ⟨a,rfl,ha⟩:=h r (by simp);obtain ⟨l,rfl,hl⟩:=zrr (rows:=rows) fun r hr=>h r (List.mem_cons_of_mem _ hr);exact ⟨a::l,rfl,by simpa using ⟨ha,hl⟩⟩
theorem zph {k:IntKind}:∀l:List Int,l.flatMap (fun z=>[T.lit (.int k z)])=l.map fun z=>T.lit (.int k z)
 | []=>rfl
 | z::l=>by rw[List.flatMap_cons,List.map_cons,zph l];rfl
theorem yeo {t e:TypeId} {k:IntKind} {ts:List T} (h:Typed P t ts) (ht:P.underlying t=some (.slice e)) (he:P.underlying e=some (.int k)) (hc:P.cellsOf e=1) :
 ∃l:List Int,ts=[zf5 k l]∧l.length*P.bytesOf e≤140737488351232∧∀z∈l,(Lit.int k z).wf=true:=by
 obtain ⟨rows,rfl,hr,_,hb,_⟩:=h.slice_inv ht
 obtain ⟨l,rfl,hl⟩:=zrr (f:=fun z=>[T.lit (.int k z)]) (C:=fun z=>(Lit.int k z).wf=true) (fun r hr'=>by
  obtain ⟨n,h1,h2⟩:=(hr r hr').int_inv he
  exact ⟨n,h1,h2⟩)
 refine ⟨l,?_,by simpa using hb,hl⟩;rw[hc,List.length_map,zf5];congr 2
 rw[←List.flatMap_def];exact zph l
theorem ygq {X:Type} {f:X→List T} {C:X→Prop} {t e:TypeId} {ts:List T} (h:Typed P t ts) (ht:P.underlying t=some (.slice e)) (hf:∀r,Typed P e r→∃x,r=f x∧C x) :
 ∃l:List X,ts=[ybb (P.cellsOf e) f l]∧l.length*P.bytesOf e≤140737488351232∧l.length≤maxLen∧∀x∈l,C x:=by
 obtain ⟨rows,rfl,hr,_,hb,hm⟩:=h.slice_inv ht;obtain ⟨l,rfl,hl⟩:=zrr (f:=f) (C:=C) (fun r hr'=>hf r (hr r hr'));refine ⟨l,?_,by simpa using hb,by simpa using hm,hl⟩;rw[List.length_map,ybb,List.flatMap_def]
end
end Go.Proofs.YtplkbdncgkgppaaGreatDoor.Tree
end
section
namespace Go.Proofs.YtplkbdncgkgppaaGreatDoor.Tree
open Go.RowKit Go.WideShapes Go.ChangeShapes Words Owned
section
variable {sent:Nat→List (List Value)} {X:Type} {f:X→List T} {s:Nat} {et:TypeId} {box:Option Nat} {N:Nat}
theorem zpi (w:World) (B:Nat) (e:TypeId) (size:Nat) (hB:B≤w.heap.size):(w.alloc (.cells #[] e)).ownsRow B e size (.slice (some ⟨w.heap.size,0,none⟩) 0 0) 0 []:=
 ⟨by simp,.inr ⟨w.heap.size,0,#[],rfl,hB,heap_alloc_new w _,Nat.le_refl _,by unfold maxLen;omega,by simp,by simp⟩⟩
end
end Go.Proofs.YtplkbdncgkgppaaGreatDoor.Tree
end
section
namespace Go.Proofs.YtplkbdncgkgppaaGreatDoor.Tree
open Go.RowKit Go.WideShapes Go.ChangeShapes Words Owned
structure But (N:Nat→Prop) (w w':World):Prop where
 os:w'.os=w.os
 tape:w'.tape=w.tape
 output:w'.output=w.output
 size:w.heap.size≤w'.heap.size
 block:∀g,g<w.heap.size→¬N g→w'.heap[g]?=w.heap[g]?
section
variable {N N':Nat→Prop} {w w' w'':World}
theorem But.of_below (h:Below w.heap.size w w'):But N w w':=⟨h.os,h.tape,h.output,h.size,fun g hg _=>h.block g hg⟩
theorem But.refl (N:Nat→Prop) (w:World):But N w w:=But.of_below (Below.refl _ _)
theorem But.trans (h:But N w w') (k:But N w' w''):But N w w'':=⟨k.os.trans h.os,k.tape.trans h.tape,k.output.trans h.output,Nat.le_trans h.size k.size,fun g hg hn=>(k.block g (Nat.lt_of_lt_of_le hg h.size) hn).trans (h.block g hg hn)⟩
theorem But.mono (h:But N w w') (hN:∀g,N g→N' g):But N' w w':=⟨h.os,h.tape,h.output,h.size,fun g hg hn=>h.block g hg fun hg'=>hn (hN g hg')⟩
theorem But.below {B:Nat} (h:But N w w') (hB:B≤w.heap.size) (hN:∀g,g<B→¬N g):Below B w w':=⟨h.os,h.tape,h.output,h.size,fun g hg=>h.block g (by omega) (hN g hg)⟩
theorem But.grown {row:Option Nat} (h:w.grownBy w' row) (hr:∀r,row=some r→N r):But N w w':=⟨h.os,h.tape,h.output,h.size,fun g hg hn=>h.block g hg (fun e=>hn (hr g e.symm))⟩
theorem But.set (h:But N w w') {p:Addr} (hp:N p.block∨w.heap.size≤p.block) (u:Value):But N w (w'.setCell p u):=
 ⟨h.os,h.tape,h.output,by simpa [World.setCell] using h.size,fun g hg hn=>(Below.heap_setCell w' p u g (by rintro rfl;rcases hp with hp | hp;exact hn hp;omega)).trans (h.block g hg hn)⟩
theorem But.more (h:But N w w') (k:But N' w' w'') (hN:∀g,N' g→N g∨w.heap.size≤g):But N w w'':=
 ⟨k.os.trans h.os,k.tape.trans h.tape,k.output.trans h.output,Nat.le_trans h.size k.size,fun g hg hn=>(k.block g (Nat.lt_of_lt_of_le hg h.size) (fun h'=>(hN g h').elim hn (fun h''=>by omega))).trans (h.block g hg hn)⟩
theorem But.blk {g:Nat} {t:TypeId} {cs:Array Value} (h:But N w w') (hb:Blk w g t cs) (hn:¬N g):Blk w' g t cs:=(h.block g hb.lt hn).trans hb
end
end Go.Proofs.YtplkbdncgkgppaaGreatDoor.Tree
end
section
namespace Go.Proofs.YtplkbdncgkgppaaGreatDoor.Qry
open Go.RowKit Go.WideShapes Go.ChangeShapes Words Tree QryP Owned
def zhf (w:World) (B:Nat) (v:Value) (l:List Int):Prop:=w.ownsRow B 2 1 v l.length (l.map (Value.int .i64))
mutual
def OQ (w:World) (B:Nat):QT→List Value→List Nat→Prop
 | .mk k o f t u lo hi b op ks,us,bs=>∃(vl vh vk:Value) (xs:List Value) (bk:List Nat),us=[.int .i64 k,.int .i64 o,.string f,.string t,.string u,vl,vh,.int .i64 b,.int .i64 op,vk]∧zhf w B vl lo∧zhf w B vh hi∧
  w.ownsRow B 28 10 vk ks.length xs∧OQL w B ks xs bk∧bs=vl.ownBlock.toList++(vh.ownBlock.toList++(vk.ownBlock.toList++bk))
def OQL (w:World) (B:Nat):List QT→List Value→List Nat→Prop
 | [],xs,bs=>xs=[]∧bs=[]
 | q::qs,xs,bs=>∃(us xs':List Value) (b1 b2:List Nat),xs=us++xs'∧bs=b1++b2∧OQ w B q us b1∧OQL w B qs xs' b2
end
section
variable {w w':World} {B B':Nat}
theorem zbi {n m:Nat} {e:TypeId} {v:Value} {xs:List Value} (h:w.ownsRow B e m v n xs) (hk:∀g,v.ownBlock=some g→w'.heap[g]?=w.heap[g]?):w'.ownsRow B e m v n xs:=
 ⟨h.1,h.2.elim .inl fun ⟨g,cap,cur,hv,h1,h2,h3⟩=>.inr ⟨g,cap,cur,hv,h1,(hk g (by rw[hv];rfl)).trans h2,h3⟩⟩
theorem zej {k m:Nat} {e:TypeId} {v:Value} {ys:List Value} (h:w.ownsRow B e m v k ys) (hB:B'≤B):w.ownsRow B' e m v k ys:=
 ⟨h.1,h.2.elim .inl fun ⟨g,cap,cur,hv,g1,g2,g3⟩=>.inr ⟨g,cap,cur,hv,Nat.le_trans hB g1,g2,g3⟩⟩
theorem zaw {v:Value} {g:Nat}:g∈v.ownBlock.toList↔v.ownBlock=some g:=by cases v.ownBlock <;> simp[eq_comm]
mutual
theorem OQ.keep:∀{q:QT} {us:List Value} {bs:List Nat},OQ w B q us bs→(∀g∈bs,w'.heap[g]?=w.heap[g]?)→OQ w' B q us bs
 | .mk k o f t u lo hi b op ks,us,bs,h,hk=>by rw[OQ] at h ⊢;obtain ⟨vl,vh,vk,xs,bk,rfl,h1,h2,h3,h4,rfl⟩:=h;exact ⟨vl,vh,vk,xs,bk,rfl,zbi h1 fun g hg=>hk g (by simp[hg]),zbi h2 fun g hg=>hk g (by simp[hg]),zbi h3 fun g hg=>hk g (by simp[hg]),OQL.keep h4 fun g hg=>hk g (by simp[hg]),rfl⟩
theorem OQL.keep:∀{qs:List QT} {xs:List Value} {bs:List Nat},OQL w B qs xs bs→(∀g∈bs,w'.heap[g]?=w.heap[g]?)→OQL w' B qs xs bs
 | [],xs,bs,h,hk=>by rw[OQL] at h ⊢;exact h
 | q::qs,xs,bs,h,hk=>by rw[OQL] at h ⊢;obtain ⟨us,xs',b1,b2,rfl,rfl,h1,h2⟩:=h;exact ⟨us,xs',b1,b2,rfl,rfl,OQ.keep h1 fun g hg=>hk g (by simp[hg]),OQL.keep h2 fun g hg=>hk g (by simp[hg])⟩
end
mutual
theorem OQ.le (hB:B'≤B):∀{q:QT} {us:List Value} {bs:List Nat},OQ w B q us bs→OQ w B' q us bs
 | .mk k o f t u lo hi b op ks,us,bs,h=>by rw[OQ] at h ⊢;obtain ⟨vl,vh,vk,xs,bk,rfl,h1,h2,h3,h4,rfl⟩:=h;exact ⟨vl,vh,vk,xs,bk,rfl,zej h1 hB,zej h2 hB,zej h3 hB,OQL.le hB h4,rfl⟩
theorem OQL.le (hB:B'≤B):∀{qs:List QT} {xs:List Value} {bs:List Nat},OQL w B qs xs bs→OQL w B' qs xs bs
 | [],xs,bs,h=>by rw[OQL] at h ⊢;exact h
 | q::qs,xs,bs,h=>by rw[OQL] at h ⊢;obtain ⟨us,xs',b1,b2,rfl,rfl,h1,h2⟩:=h;exact ⟨us,xs',b1,b2,rfl,rfl,OQ.le hB h1,OQL.le hB h2⟩
end
mutual
theorem OQ.mem:∀{q:QT} {us:List Value} {bs:List Nat},OQ w B q us bs→∀g∈bs,B≤g∧g<w.heap.size
 | .mk k o f t u lo hi b op ks,us,bs,h,g,hg=>by
  rw[OQ] at h;obtain ⟨vl,vh,vk,xs,bk,rfl,h1,h2,h3,h4,rfl⟩:=h;simp only[List.mem_append,zaw] at hg;rcases hg with hg | hg | hg | hg
  ·exact World.ownsRow.lt h1 g hg
  ·exact World.ownsRow.lt h2 g hg
  ·exact World.ownsRow.lt h3 g hg
  ·exact OQL.mem h4 g hg
theorem OQL.mem:∀{qs:List QT} {xs:List Value} {bs:List Nat},OQL w B qs xs bs→∀g∈bs,B≤g∧g<w.heap.size
 | [],xs,bs,h,g,hg=>by rw[OQL] at h;rw[h.2] at hg;cases hg
 | q::qs,xs,bs,h,g,hg=>by
  rw[OQL] at h;obtain ⟨us,xs',b1,b2,rfl,rfl,h1,h2⟩:=h;rcases List.mem_append.1 hg with hg | hg
  ·exact OQ.mem h1 g hg
  ·exact OQL.mem h2 g hg
end
theorem OQ.len:∀{q:QT} {us:List Value} {bs:List Nat},OQ w B q us bs→us.length=10
 | .mk k o f t u lo hi b op ks,us,bs,h=>by rw[OQ] at h;obtain ⟨vl,vh,vk,xs,bk,rfl,_⟩:=h;rfl
theorem OQL.len:∀{qs:List QT} {xs:List Value} {bs:List Nat},OQL w B qs xs bs→xs.length=qs.length*10
 | [],xs,bs,h=>by rw[OQL] at h;rw[h.1];rfl
 | q::qs,xs,bs,h=>by rw[OQL] at h;obtain ⟨us,xs',b1,b2,rfl,rfl,h1,h2⟩:=h;rw[List.length_append,OQ.len h1,OQL.len h2,List.length_cons];omega
theorem OQL.snoc:∀{qs:List QT} {xs:List Value} {bs:List Nat} {q:QT} {us:List Value} {b1:List Nat},OQL w B qs xs bs→OQ w B q us b1→OQL w B (qs++[q]) (xs++us) (bs++b1)
 | [],xs,bs,q,us,b1,h,h1=>by rw[OQL] at h;obtain ⟨rfl,rfl⟩:=h;rw[List.nil_append,OQL];exact ⟨us,[],b1,[],by simp,by simp,h1,by rw[OQL];exact ⟨rfl,rfl⟩⟩
 | q'::qs,xs,bs,q,us,b1,h,h1=>by rw[OQL] at h;obtain ⟨us',xs',b1',b2',rfl,rfl,h2,h3⟩:=h;rw[List.cons_append,OQL];exact ⟨us',xs'++us,b1',b2'++b1,by simp,by simp,h2,OQL.snoc h3 h1⟩
theorem OQL.nil_:OQL w B [] [] []:=by rw[OQL];exact ⟨rfl,rfl⟩
theorem OQL.split:∀{qs:List QT} {xs:List Value} {bs:List Nat} {q:QT},OQL w B (qs++[q]) xs bs→∃(ys us:List Value) (b1 b2:List Nat),xs=ys++us∧bs=b1++b2∧OQL w B qs ys b1∧OQ w B q us b2
 | [],xs,bs,q,h=>by rw[List.nil_append,OQL] at h;obtain ⟨us,xs',b1,b2,rfl,rfl,h1,h2⟩:=h;rw[OQL] at h2;obtain ⟨rfl,rfl⟩:=h2;exact ⟨[],us,[],b1,by simp,by simp,OQL.nil_,h1⟩
 | q'::qs,xs,bs,q,h=>by rw[List.cons_append,OQL] at h;obtain ⟨us',xs',b1,b2,rfl,rfl,h1,h2⟩:=h;obtain ⟨ys,us,c1,c2,rfl,rfl,h3,h4⟩:=OQL.split h2;exact ⟨us'++ys,us,b1++c1,c2,by simp,by simp,by rw[OQL];exact ⟨us',ys,b1,c1,rfl,rfl,h1,h3⟩,h4⟩
theorem zk3 {S:Nat→Prop} {e:TypeId} {m n:Nat} {v:Value} {cs:List Value} {ts:List T} (h:w.ownsRow B e m v n cs) (hl:ts.length=n*m) (hS:∀g,v.ownBlock=some g→S g) (ha:T.AtL bare w S ts cs):T.At bare w S (.arr m n ts) v:=by
 simp only[T.At]
 rcases h.2 with ⟨rfl,h0⟩ | ⟨g,cap,cur,rfl,hB,hgg,hn,hm,hcs,ht⟩
 ·exact ⟨none,0,cs,by rw[h0],by simp[bare,h0],by unfold maxLen;omega,hl,fun hlt=>by simp[bare,h0] at hlt,ha⟩
 ·refine ⟨_,cap,cs,rfl,by simpa [bare] using hn,hm,hl,fun _=>⟨_,rfl,hS g rfl,?_⟩,ha⟩;have:=h.cells (g:=g) rfl;simpa [bare,zb6] using this
mutual
theorem OQ.at_:∀{q:QT} {us:List Value} {bs:List Nat},OQ w B q us bs→T.AtL bare w (fun g=>g∈bs) (cells q) us
 | .mk k o f t u lo hi b op ks,us,bs,h=>by rw[OQ] at h;obtain ⟨vl,vh,vk,xs,bk,rfl,h1,h2,h3,h4,rfl⟩:=h;refine ztf (zk3 h1 (by simp) (fun g hg=>by simp[hg]) AtL.of_lits) (zk3 h2 (by simp) (fun g hg=>by simp[hg]) AtL.of_lits) (zk3 h3 (zi6 ks) (fun g hg=>by simp[hg]) ?_);exact AtL.keep (fun _ _=>rfl) (fun g hg=>by simp[hg]) (OQL.at_ h4)
theorem OQL.at_:∀{qs:List QT} {xs:List Value} {bs:List Nat},OQL w B qs xs bs→T.AtL bare w (fun g=>g∈bs) (zau qs) xs
 | [],xs,bs,h=>by rw[OQL] at h;rw[h.1,zau];simp only[T.AtL]
 | q::qs,xs,bs,h=>by rw[OQL] at h;obtain ⟨us,xs',b1,b2,rfl,rfl,h1,h2⟩:=h;rw[zau];exact AtL.append (AtL.keep (fun _ _=>rfl) (fun g hg=>by simp[hg]) (OQ.at_ h1)) (AtL.keep (fun _ _=>rfl) (fun g hg=>by simp[hg]) (OQL.at_ h2))
end
theorem OQ.occ:∀{q:QT} {us:List Value} {bs:List Nat} (o:Int),OQ w B q us bs→OQ w B (zc8 o q) (us.set 1 (.int .i64 o)) bs
 | .mk k o' f t u lo hi b op ks,us,bs,o,h=>by rw[OQ] at h;obtain ⟨vl,vh,vk,xs,bk,rfl,h1,h2,h3,h4,rfl⟩:=h;rw[zc8,OQ];exact ⟨vl,vh,vk,xs,bk,rfl,h1,h2,h3,h4,rfl⟩
theorem OQ.below {C:Nat} {q:QT} {us:List Value} {bs:List Nat} (h:OQ w B q us bs) (hb:Below C w w') (hC:w.heap.size≤C):OQ w' B q us bs:=h.keep fun g hg=>hb.block g (by have:=(h.mem g hg).2;omega)
theorem OQL.below {C:Nat} {q:List QT} {us:List Value} {bs:List Nat} (h:OQL w B q us bs) (hb:Below C w w') (hC:w.heap.size≤C):OQL w' B q us bs:=h.keep fun g hg=>hb.block g (by have:=(h.mem g hg).2;omega)
theorem OQ.grown {row:Option Nat} {q:QT} {us:List Value} {bs:List Nat} (h:OQ w B q us bs) (hg:w.grownBy w' row) (hr:∀g∈bs,row≠some g):OQ w' B q us bs:=h.keep fun g hgm=>hg.block g (h.mem g hgm).2 fun e=>hr g hgm e.symm
theorem OQL.grown {row:Option Nat} {q:List QT} {us:List Value} {bs:List Nat} (h:OQL w B q us bs) (hg:w.grownBy w' row) (hr:∀g∈bs,row≠some g):OQL w' B q us bs:=h.keep fun g hgm=>hg.block g (h.mem g hgm).2 fun e=>hr g hgm e.symm
end
end Go.Proofs.YtplkbdncgkgppaaGreatDoor.Qry
end
section
namespace Go.Proofs.YtplkbdncgkgppaaGreatDoor.Qry
open Go.RowKit Go.WideShapes Go.ChangeShapes Words Tree QryP Owned
structure OutR (w:World) (bs:List Nat) (w':World) (bs':List Nat):Prop where
 nd:bs'.Nodup
 sub:∀g∈bs',g∈bs∨w.heap.size≤g
 but:But (fun g=>g∈bs) w w'
section
variable {w w' w1 w2:World} {bs bs' b1 b2:List Nat}
theorem OutR.refl (h:bs.Nodup) (w:World):OutR w bs w bs:=⟨h,fun g hg=>.inl hg,But.refl _ _⟩
theorem OutR.trans (h:OutR w bs w1 b1) (k:OutR w1 b1 w2 b2):OutR w bs w2 b2:=
 ⟨k.nd,fun g hg=>(k.sub g hg).elim (h.sub g) (fun h'=>.inr (Nat.le_trans h.but.size h')),h.but.more k.but h.sub⟩
theorem OutR.below (h:OutR w bs w1 b1) (hb:Below w1.heap.size w1 w2):OutR w bs w2 b1:=⟨h.nd,h.sub,h.but.trans (But.of_below hb)⟩
theorem OutR.first (hb:Below w.heap.size w w1) (h:OutR w1 bs w' b1):OutR w bs w' b1:=
 ⟨h.nd,fun g hg=>(h.sub g hg).imp id (fun h'=>Nat.le_trans hb.size h'),(But.of_below hb).trans h.but⟩
theorem OutR.base {B:Nat} (h:OutR w bs w' bs') (hB:B≤w.heap.size) (hg:∀g∈bs,B≤g):Below B w w':=h.but.below hB (fun g hlt hm=>by have:=hg g hm;omega)
end
section
variable {w w':World} {B:Nat}
theorem OQL.join:∀{l1 l2:List QT} {x1 x2:List Value} {b1 b2:List Nat},OQL w B l1 x1 b1→OQL w B l2 x2 b2→OQL w B (l1++l2) (x1++x2) (b1++b2)
 | [],l2,x1,x2,b1,b2,h,h2=>by rw[OQL] at h;obtain ⟨rfl,rfl⟩:=h;exact h2
 | q::l1,l2,x1,x2,b1,b2,h,h2=>by rw[OQL] at h;obtain ⟨us,xs',c1,c2,rfl,rfl,h3,h4⟩:=h;rw[List.cons_append,OQL];exact ⟨us,xs'++x2,c1,c2++b2,by simp,by simp,h3,OQL.join h4 h2⟩
theorem OQL.cut:∀{l1 l2:List QT} {xs:List Value} {bs:List Nat},OQL w B (l1++l2) xs bs→∃x1 x2 b1 b2,xs=x1++x2∧bs=b1++b2∧OQL w B l1 x1 b1∧OQL w B l2 x2 b2
 | [],l2,xs,bs,h=>⟨[],xs,[],bs,rfl,rfl,OQL.nil_,h⟩
 | q::l1,l2,xs,bs,h=>by rw[List.cons_append,OQL] at h;obtain ⟨us,xs',c1,c2,rfl,rfl,h3,h4⟩:=h;obtain ⟨x1,x2,b1,b2,rfl,rfl,h5,h6⟩:=OQL.cut h4;refine ⟨us++x1,x2,c1++b1,b2,by simp,by simp,?_,h6⟩;rw[OQL];exact ⟨us,x1,c1,b1,rfl,rfl,h3,h5⟩
theorem OQL.one_ {q:QT} {us:List Value} {bs:List Nat} (h:OQL w B [q] us bs):OQ w B q us bs:=by
 rw[OQL] at h;obtain ⟨us,xs',c1,c2,rfl,rfl,h3,h4⟩:=h;rw[OQL] at h4;obtain ⟨rfl,rfl⟩:=h4;simpa using h3
def ze1 (w:World) (B:Nat) (v:Value) (l:List QT) (bs:List Nat):Prop:=∃xs bk,w.ownsRow B 28 10 v l.length xs∧OQL w B l xs bk∧bs=v.ownBlock.toList++bk
theorem ze1.keep {v:Value} {l:List QT} {bs:List Nat} (h:ze1 w B v l bs) (hk:∀g∈bs,w'.heap[g]?=w.heap[g]?):ze1 w' B v l bs:=by
 obtain ⟨xs,bk,h1,h2,rfl⟩:=h;exact ⟨xs,bk,zbi h1 fun g hg=>hk g (by simp[hg]),h2.keep fun g hg=>hk g (by simp[hg]),rfl⟩
theorem ze1.mem {v:Value} {l:List QT} {bs:List Nat} (h:ze1 w B v l bs):∀g∈bs,B≤g∧g<w.heap.size:=by
 obtain ⟨xs,bk,h1,h2,rfl⟩:=h;intro g hg;simp only[List.mem_append,zaw] at hg;rcases hg with hg | hg
 ·exact World.ownsRow.lt h1 g hg
 ·exact OQL.mem h2 g hg
theorem ze1.below {C:Nat} {v:Value} {l:List QT} {bs:List Nat} (h:ze1 w B v l bs) (hb:Below C w w') (hC:w.heap.size≤C):ze1 w' B v l bs:=h.keep fun g hg=>hb.block g (by have:=(h.mem g hg).2;omega)
theorem ze1.at_ {v:Value} {l:List QT} {bs:List Nat} (h:ze1 w B v l bs):T.At bare w (fun g=>g∈bs) (.arr 10 l.length (zau l)) v:=by
 obtain ⟨xs,bk,h1,h2,rfl⟩:=h;exact zk3 h1 (zi6 l) (fun g hg=>by simp[hg]) (AtL.keep (fun _ _=>rfl) (fun g hg=>by simp[hg]) h2.at_)
variable {k o b op:Int} {f t u:ByteArray} {lo hi:List Int} {ks:List QT} {us:List Value} {bs:List Nat}
theorem OQ.parts (h:OQ w B (.mk k o f t u lo hi b op ks) us bs):∃(vl vh vk:Value) (bk:List Nat),us=[.int .i64 k,.int .i64 o,.string f,.string t,.string u,vl,vh,.int .i64 b,.int .i64 op,vk]∧zhf w B vl lo∧zhf w B vh hi∧ze1 w B vk ks bk∧bs=vl.ownBlock.toList++(vh.ownBlock.toList++bk):=by
 rw[OQ] at h;obtain ⟨vl,vh,vk,xs,bk,rfl,h1,h2,h3,h4,rfl⟩:=h;exact ⟨vl,vh,vk,_,rfl,h1,h2,⟨xs,bk,h3,h4,rfl⟩,rfl⟩
theorem OQ.of_parts {vl vh vk:Value} {bk:List Nat} (h1:zhf w B vl lo) (h2:zhf w B vh hi) (h3:ze1 w B vk ks bk):OQ w B (.mk k o f t u lo hi b op ks) [.int .i64 k,.int .i64 o,.string f,.string t,.string u,vl,vh,.int .i64 b,.int .i64 op,vk] (vl.ownBlock.toList++(vh.ownBlock.toList++bk)):=by
 obtain ⟨xs,bk,h3,h4,rfl⟩:=h3;rw[OQ];exact ⟨vl,vh,vk,xs,bk,rfl,h1,h2,h3,h4,rfl⟩
end
def zj1 (w:World) (g o:Nat) (v0 v1 v2 v3 v4 v5 v6 v7 v8 v9:Value):World:=(((((((((w.setCell ⟨g,o,none⟩ v0).setCell ⟨g,o+1,none⟩ v1).setCell ⟨g,o+2,none⟩ v2).setCell ⟨g,o+3,none⟩ v3).setCell ⟨g,o+4,none⟩ v4).setCell ⟨g,o+5,none⟩ v5).setCell ⟨g,o+6,none⟩ v6).setCell ⟨g,o+7,none⟩ v7).setCell ⟨g,o+8,none⟩ v8).setCell ⟨g,o+9,none⟩ v9
theorem zk4 {w:World} {B g cap n i:Nat} {e:TypeId} {y uq z:List Value} (h:w.ownsRow B e 10 (.slice (some ⟨g,0,none⟩) n cap) n (y++(uq++z))) (hy:y.length=i*10) (hu:uq.length=10) (v0 v1 v2 v3 v4 v5 v6 v7 v8 v9:Value) :
 (zj1 w g (i*10) v0 v1 v2 v3 v4 v5 v6 v7 v8 v9).ownsRow B e 10 (.slice (some ⟨g,0,none⟩) n cap) n (y++([v0,v1,v2,v3,v4,v5,v6,v7,v8,v9]++z))∧w.grownBy (zj1 w g (i*10) v0 v1 v2 v3 v4 v5 v6 v7 v8 v9) (some g):=by
 obtain ⟨a0,h0⟩:=h.stored (i*10) v0;obtain ⟨a1,h1⟩:=a0.stored (i*10+1) v1;obtain ⟨a2,h2⟩:=a1.stored (i*10+2) v2;obtain ⟨a3,h3⟩:=a2.stored (i*10+3) v3;obtain ⟨a4,h4⟩:=a3.stored (i*10+4) v4;obtain ⟨a5,h5⟩:=a4.stored (i*10+5) v5;obtain ⟨a6,h6⟩:=a5.stored (i*10+6) v6;obtain ⟨a7,h7⟩:=a6.stored (i*10+7) v7;obtain ⟨a8,h8⟩:=a7.stored (i*10+8) v8;obtain ⟨a9,h9⟩:=a8.stored (i*10+9) v9;refine ⟨?_,(((((((((World.grownBy.refl w _).trans h0).trans h1).trans h2).trans h3).trans h4).trans h5).trans h6).trans h7).trans h8 |>.trans h9⟩;have he:∀(j:Nat) (v:Value) (r:List Value),(y++r).set (i*10+j) v=y++r.set j v:=fun j v r=>by rw[List.set_append_right _ _ (by omega),hy,Nat.add_sub_cancel_left]
 have he0:∀(v:Value) (r:List Value),(y++r).set (i*10) v=y++r.set 0 v:=fun v r=>by rw[List.set_append_right _ _ (by omega),hy,Nat.sub_self]
 rw[he0,he,he,he,he,he,he,he,he,he] at a9
 have hx:((((((((((uq++z).set 0 v0).set 1 v1).set 2 v2).set 3 v3).set 4 v4).set 5 v5).set 6 v6).set 7 v7).set 8 v8).set 9 v9=[v0,v1,v2,v3,v4,v5,v6,v7,v8,v9]++z:=by
  match uq,hu with
  | [u0,u1,u2,u3,u4,u5,u6,u7,u8,u9],_=>rfl
 rw[hx] at a9;exact a9
section
variable {w:World} {B:Nat} {k o b op:Int} {f t u:ByteArray} {lo hi:List Int} {us:List Value} {bs:List Nat}
theorem ze1.focus {v:Value} {l1 l2:List QT} {q:QT} (h:ze1 w B v (l1++q::l2) bs) (hnd:bs.Nodup) (i n:Nat) (hi:l1.length=i) (hn:(l1++q::l2).length=n) :
 ∃(g cap:Nat) (y uq z:List Value) (bq:List Nat),v = .slice (some ⟨g,0,none⟩) n cap∧w.ownsRow B 28 10 (.slice (some ⟨g,0,none⟩) n cap) n (y++(uq++z))∧y.length=i*10∧
  OQ w B q uq bq∧bq.Nodup∧(∀x∈bq,x∈bs)∧g∈bs∧g∉bq∧
  ∀(w':World) (q':QT) (bq':List Nat) (v0 v1 v2 v3 v4 v5 v6 v7 v8 v9:Value),OQ w' B q' [v0,v1,v2,v3,v4,v5,v6,v7,v8,v9] bq'→OutR w bq w' bq'→
   ∃bs',ze1 (zj1 w' g (i*10) v0 v1 v2 v3 v4 v5 v6 v7 v8 v9) B v (l1++q'::l2) bs'∧OutR w bs (zj1 w' g (i*10) v0 v1 v2 v3 v4 v5 v6 v7 v8 v9) bs'∧w'.grownBy (zj1 w' g (i*10) v0 v1 v2 v3 v4 v5 v6 v7 v8 v9) (some g):=by
 obtain ⟨xs,bk,ho,hl,rfl⟩:=h;rw[hn] at ho;have hn0:0<n:=by rw[←hn,List.length_append,List.length_cons];omega
 obtain ⟨g,cap,rfl,hgB,hgl⟩:=ho.form hn0;obtain ⟨y,z',b1,b',rfl,rfl,hy,hz'⟩:=OQL.cut hl;have hz2:=hz';rw[OQL] at hz2;obtain ⟨uq,z,bq,b2,rfl,rfl,hq,hz⟩:=hz2;have hyl:y.length=i*10:=by rw[hy.len,hi]
 simp only[Value.ownBlock,Option.toList_some,List.cons_append,List.nil_append,List.nodup_cons] at hnd;obtain ⟨hg,hnd⟩:=hnd;have hgq:g∉bq:=fun hm=>hg (by simp[hm]);have hd:=List.nodup_append.1 hnd;have hd2:=List.nodup_append.1 hd.2.1;refine ⟨g,cap,y,uq,z,bq,rfl,ho,hyl,hq,hd2.1,fun x hx=>by simp[Value.ownBlock,hx],by simp[Value.ownBlock],hgq,?_⟩;intro w' q' bq' v0 v1 v2 v3 v4 v5 v6 v7 v8 v9 hq' hO;have hlt:∀x∈b1++(bq++b2),x<w.heap.size:=fun x hx=>(hl.mem x hx).2;have keep:∀x,x<w.heap.size→x∉bq→w'.heap[x]?=w.heap[x]?:=fun x h1 h2=>hO.but.block x h1 h2;have ho':w'.ownsRow B 28 10 (.slice (some ⟨g,0,none⟩) n cap) n (y++(uq++z)):=zbi ho fun x hx=>by simp only[Value.ownBlock,Option.some.injEq] at hx;subst hx;exact keep _ hgl hgq
 obtain ⟨hp,hgr⟩:=zk4 ho' hyl hq.len v0 v1 v2 v3 v4 v5 v6 v7 v8 v9;generalize zj1 w' g (i*10) v0 v1 v2 v3 v4 v5 v6 v7 v8 v9=W at *;have hgb1:g∉b1:=fun hm=>hg (by simp[hm]);have hgb2:g∉b2:=fun hm=>hg (by simp[hm]);have hb1q:∀x∈b1,x∉bq:=fun x h1 h2=>hd.2.2 x h1 x (by simp[h2]) rfl;have hb2q:∀x∈b2,x∉bq:=fun x h1 h2=>hd2.2.2 x h2 x h1 rfl;have hgq':g∉bq':=fun hm=>(hO.sub g hm).elim hgq (fun h=>by omega);have hsz:=hO.but.size;have old:∀x,x<w.heap.size→x≠g→x∉bq→W.heap[x]?=w.heap[x]?:=fun x h1 h2 h3=>(hgr.block x (by omega) (fun e=>h2 (by injection e))).trans (keep x h1 h3);have hy':OQL W B l1 y b1:=hy.keep fun x hx=>old x (hlt x (by simp[hx])) (fun e=>hgb1 (e ▸ hx)) (hb1q x hx);have hz':OQL W B l2 z b2:=hz.keep fun x hx=>old x (hlt x (by simp[hx])) (fun e=>hgb2 (e ▸ hx)) (hb2q x hx);have hq'':OQ W B q' [v0,v1,v2,v3,v4,v5,v6,v7,v8,v9] bq':=hq'.keep fun x hx=>hgr.block x (hq'.mem x hx).2 (fun e=>hgq' (by injection e with e;rw[←e];exact hx));refine ⟨g::(b1++(bq'++b2)),⟨y++([v0,v1,v2,v3,v4,v5,v6,v7,v8,v9]++z),b1++(bq'++b2),?_,?_,rfl⟩,⟨?_,?_,?_⟩,hgr⟩
 ·have:(l1++q'::l2).length=n:=by rw[←hn];simp
  rw[this];exact hp
 ·refine hy'.join ?_;rw[OQL];exact ⟨_,z,bq',b2,rfl,rfl,hq'',hz'⟩
 ·rw[List.nodup_cons];refine ⟨by simp[hgb1,hgb2,hgq'],List.nodup_append.2 ⟨hd.1,List.nodup_append.2 ⟨hO.nd,hd2.2.1,fun a ha c hc e=>?_⟩,fun a ha c hc e=>?_⟩⟩
  ·subst e;exact (hO.sub a ha).elim (hb2q a hc) (fun h=>by have:=hlt a (by simp[hc]);omega)
  ·subst e;rcases List.mem_append.1 hc with hc | hc
   ·exact (hO.sub a hc).elim (hb1q a ha) (fun h=>by have:=hlt a (by simp[ha]);omega)
   ·exact hd.2.2 a ha a (by simp[hc]) rfl
 ·intro x hx;simp only[List.mem_cons,List.mem_append] at hx;simp only[Value.ownBlock,Option.toList_some,List.cons_append,List.nil_append,List.mem_cons,List.mem_append];rcases hx with hx | hx | hx | hx
  ·exact .inl (.inl hx)
  ·exact .inl (.inr (.inl hx))
  ·exact (hO.sub x hx).imp (fun h=>.inr (.inr (.inl h))) id
  ·exact .inl (.inr (.inr (.inr hx)))
 ·exact (hO.but.mono fun x hx=>by simp[Value.ownBlock,hx]).trans (But.grown hgr fun r e=>by injection e with e;simp[Value.ownBlock,e])
end
theorem OQ.forms {w:World} {B:Nat} {k o b op:Int} {f t u:ByteArray} {lo hi:List Int} {ks:List QT} {us:List Value} {bs:List Nat} (h1:OQ w B (.mk k o f t u lo hi b op ks) us bs) :
 ∃(cl ch ck:Nat) (al ah ak:Option Addr),us=[.int .i64 k,.int .i64 o,.string f,.string t,.string u,.slice al lo.length cl,.slice ah hi.length ch,.int .i64 b,.int .i64 op,.slice ak ks.length ck]:=by
 rw[OQ] at h1;obtain ⟨vl,vh,vk,xs,bk,rfl,h1,h2,h3,h4,rfl⟩:=h1;obtain ⟨al,cl,rfl⟩:=zav h1;obtain ⟨ah,ch,rfl⟩:=zav h2
 have h3':∃ak ck,vk = .slice ak ks.length ck:=by
  rcases h3.2 with ⟨rfl,h0⟩ | ⟨g,cap,cur,hv,_⟩
  ·exact ⟨none,0,by rw[h0]⟩
  ·exact ⟨_,_,hv⟩
 obtain ⟨ak,ck,rfl⟩:=h3';exact ⟨cl,ch,ck,al,ah,ak,rfl⟩
end Go.Proofs.YtplkbdncgkgppaaGreatDoor.Qry
end
