/- Lemmas that the last text leans on. -/
import Derived.Test.YtigfcihakghddaaGreatDoorTake
import Derived.Test.YtigfcihakghddaaGreatDoorPack6
import Derived.Test.YtigfcihakghddaaGreatDoorPack4
import Derived.Test.YtigfcihakghddaaGreatDoorPack32
import Derived.Test.YtigfcihakghddaaGreatDoorPack8
import Derived.Test.YtigfcihakghddaaGreatDoorPack12
import Derived.Deep.LoopGhost
import Derived.Deep.QuietTactic
import Derived.LoopTactic
import Derived.BigQuiet
import Derived.Test.YtigfcihakghddaaGreatDoorPack15
import Derived.Test.YtigfcihakghddaaGreatDoorPack9
import Derived.Test.YtigfcihakghddaaGreatDoorBufKeyword
import Derived.Test.YtigfcihakghddaaGreatDoorBufNumber
set_option linter.all false
set_option maxRecDepth 100000
set_option maxHeartbeats 4000000
section
namespace Go.Proofs.YtigfcihakghddaaGreatDoor.BufT
open Go Go.RowKit Go.WideShapes Go.ChangeShapes Words Tree Owned
section
variable {X:Type} {w w':World} {B:Nat} {et e:TypeId} {m:Nat} {pre sub:X→List Value} {xs:List X} {vs:List Value} {bs:List Nat} {v:Value} {f:X→List T} {st:X→T}
theorem clip_lits {α:Type} {enc:α→Value} {l:List α} {cs:List Value} (hcs:cs=l.map enc) (ho:ClipRow w B et v cs):T.At bare w (fun g=>B≤g∧CellsAt w g) (rowT 1 (fun x=>[.lit (enc x)]) l) v:=by
 subst hcs
 have e:∀l:List α,l.flatMap (fun x=>[T.lit (enc x)])=l.map fun x=>.lit (enc x):=fun l=>by
  induction l with
  | nil=>rfl
  | cons a l ih=>rw[List.flatMap_cons,ih];rfl
 simp only[rowT,T.At]
 rcases ho with ⟨rfl,h0⟩ | ⟨g,cap,cur,rfl,hB,hgg,hn',hcs,hm,ht⟩
 ·have h0:=List.map_eq_nil_iff.1 h0;subst h0;exact ⟨none,0,[],rfl,by simp[bare],by unfold maxLen;omega,rfl,fun hlt=>by simp[bare] at hlt,by simp[T.AtL]⟩
 ·rw[List.length_map] at hn' ht ⊢;refine ⟨_,cap,l.map enc,rfl,by simpa [bare] using hn',hm,by rw[e];simp,fun _=>⟨_,rfl,⟨hB,_,_,_,hgg⟩,?_⟩,by rw[e];exact AtL.of_lits⟩;intro j u hu;have hj:j<l.length:=by have:=(List.getElem?_eq_some_iff.1 (by simpa [bare] using hu:(l.map enc)[j]?=some u)).1;simpa using this
  have h1:(l.map enc)[j]?=some u:=by simpa [bare] using hu
  rw[←ht,List.getElem?_take_of_lt hj] at h1;have h2:w.cell? ((⟨g,0,none⟩:Addr).add j)=cur[j]?:=by by_cases h0:j=0 <;> simp[Addr.add,h0,World.cell?,hgg]
  rw[h2];simpa using h1
theorem SubL.at (hsub:∀x u,ClipRow w B e u (sub x)→T.At bare w (fun g=>B≤g∧CellsAt w g) (st x) u) (hmk:∀(x:X) (u:Value) (S:Nat→Prop),T.At bare w S (st x) u→T.AtL bare w S (f x) (pre x++[u])) (h:SubL w B e sub xs vs bs) :
 T.AtL bare w (fun g=>B≤g∧CellsAt w g) (xs.flatMap f) (flat pre xs vs):=by
 induction h with
 | nil=>simp[flat,T.AtL]
 | @cons x xs v vs bs h t ih=>
  have e1:flat pre (x::xs) (v::vs)=(pre x++[v])++flat pre xs vs:=by simp[flat]
  rw[List.flatMap_cons,e1];exact AtL.append (hmk x v _ (hsub x v h)) ih
end
end Go.Proofs.YtigfcihakghddaaGreatDoor.BufT
end
section
namespace Go.Proofs.YtigfcihakghddaaGreatDoor.BufT
open Go Go.RowKit Go.WideShapes Go.ChangeShapes Words Tree Owned BufP
def ClipM (w:World) (B:Nat) (e:TypeId) (m:Nat) (v:Value) (n:Nat) (xs:List Value):Prop:=
 xs.length=n*m∧((v = .slice none 0 0∧n=0)∨∃(g cap:Nat) (cur:Array Value),v = .slice (some ⟨g,0,none⟩) n cap∧B≤g∧w.heap[g]?=some (.cells cur e (0,0))∧n≤cap∧cap≤maxLen∧cap*m≤cur.size∧cur.toList.take (n*m)=xs)
def KeepT (ok:TypeId→Prop) (w w':World):Prop:=∀(g:Nat) (cur:Array Value) (t:TypeId),w.heap[g]?=some (.cells cur t (0,0))→ok t→w'.heap[g]?=w.heap[g]?
section
variable {w w' w'':World} {B m n:Nat} {e:TypeId} {v:Value} {xs:List Value} {ok:TypeId→Prop}
theorem KeepT.refl (ok:TypeId→Prop) (w:World):KeepT ok w w:=fun _ _ _ _ _=>rfl
theorem KeepT.trans (h:KeepT ok w w') (k:KeepT ok w' w''):KeepT ok w w'':=fun g cur t hg ht=>by
 have h1:=h g cur t hg ht;exact (k g cur t (h1.trans hg) ht).trans h1
theorem KeepT.mono {ok':TypeId→Prop} (h:KeepT ok w w') (hs:∀t,ok' t→ok t):KeepT ok' w w':=fun g cur t hg ht=>h g cur t hg (hs t ht)
theorem KeepT.of_below (h:Below w.heap.size w w'):KeepT ok w w':=fun g cur t hg _=>h.block g (Array.getElem?_eq_some_iff.1 hg).1
theorem KeepT.of_but {N:Nat→Prop} (h:But N w w') (hN:∀g,N g→∀cur t,w.heap[g]?=some (.cells cur t (0,0))→¬ok t):KeepT ok w w':=fun g cur t hg ht=>h.block g (Array.getElem?_eq_some_iff.1 hg).1 fun hn=>hN g hn cur t hg ht
theorem KeepT.of_grown {row:Option Nat} (h:w.grownBy w' row) (hN:∀g,row=some g→∀cur t,w.heap[g]?=some (.cells cur t (0,0))→¬ok t):KeepT ok w w':=fun g cur t hg ht=>h.block g (Array.getElem?_eq_some_iff.1 hg).1 fun hn=>hN g hn.symm cur t hg ht
theorem KeepT.of_row {B' m' n':Nat} {e':TypeId} {u:Value} {ys:List Value} (h:w.grownBy w' u.ownBlock) (ho:w.ownsRow B' e' m' u n' ys) (hne:¬ok e'):KeepT ok w w':=.of_grown h fun g hg cur t ht hok=>by
 rcases ho.2 with ⟨rfl,_⟩ | ⟨g',cap,cur',rfl,_,hb,_⟩
 ·cases hg
 ·obtain rfl:g'=g:=Option.some.inj hg;rw[hb] at ht;injection ht with ht;injection ht with _ ht;exact hne (ht ▸ hok)
theorem KeepT.of_set {g:Nat} {t:TypeId} {cs:Array Value} (h:Blk w g t cs) (hne:¬ok t) (i:Nat) (u:Value):KeepT ok w (w.setCell ⟨g,i,none⟩ u):=fun g' cur t' hg ht=>by
 refine Below.heap_setCell w ⟨g,i,none⟩ u g' ?_;rintro rfl;unfold Blk at h;rw[h] at hg;injection hg with hg;injection hg with _ hg;exact hne (hg ▸ ht)
theorem ClipM.of_own (h:w.ownsRow B e m v n xs):ClipM w B e m v n xs:=⟨h.1,h.2.imp id fun ⟨g,cap,cur,hv,hB,hb,h1,h2,h3,h4⟩=>⟨g,cap,cur,hv,hB,hb,h1,h2,by rw[h3];exact Nat.le_refl _,h4⟩⟩
theorem ClipM.form (h:ClipM w B e m v n xs):∃a c,v = .slice a n c∧n≤c:=by
 rcases h.2 with ⟨rfl,rfl⟩ | ⟨g,cap,cur,rfl,_,_,h1,_⟩
 ·exact ⟨_,_,rfl,Nat.le_refl _⟩
 ·exact ⟨_,_,rfl,h1⟩
theorem ClipM.clip {a:Option Addr} {k c:Nat} (h:ClipM w B e m (.slice a k c) n xs):k=n∧ClipM w B e m (.slice a n n) n xs:=by
 rcases h.2 with ⟨hv,rfl⟩ | ⟨g,cap,cur,hv,hB,hb,h1,h2,h3,h4⟩
 ·injection hv with e1 e2 e3;subst e1 e2;exact ⟨rfl,h.1,.inl ⟨rfl,rfl⟩⟩
 ·injection hv with e1 e2 e3;subst e1 e2;exact ⟨rfl,h.1,.inr ⟨g,_,cur,rfl,hB,hb,Nat.le_refl _,by omega,Nat.le_trans (Nat.mul_le_mul_right _ h1) h3,h4⟩⟩
theorem ClipM.lt (h:ClipM w B e m v n xs) {g:Nat} (hg:v.ownBlock=some g):B≤g∧g<w.heap.size:=by
 rcases h.2 with ⟨rfl,_⟩ | ⟨g',cap,cur,rfl,hB,hb,_⟩
 ·cases hg
 ·obtain rfl:g'=g:=Option.some.inj hg;exact ⟨hB,(Array.getElem?_eq_some_iff.1 hb).1⟩
theorem ClipM.keep (h:ClipM w B e m v n xs) (hk:∀g,v.ownBlock=some g→w'.heap[g]?=w.heap[g]?):ClipM w' B e m v n xs:=
 ⟨h.1,h.2.imp id fun ⟨g,cap,cur,hv,hB,hb,h1⟩=>⟨g,cap,cur,hv,hB,(hk g (by rw[hv];rfl)).trans hb,h1⟩⟩
theorem ClipM.keepT (h:ClipM w B e m v n xs) (hk:KeepT ok w w') (ho:ok e):ClipM w' B e m v n xs:=
 ⟨h.1,h.2.imp id fun ⟨g,cap,cur,hv,hB,hb,h1⟩=>⟨g,cap,cur,hv,hB,(hk g _ _ hb ho).trans hb,h1⟩⟩
theorem ClipM.from_ {B':Nat} (h:ClipM w B e m v n xs) (hB:B'≤B):ClipM w B' e m v n xs:=
 ⟨h.1,h.2.imp id fun ⟨g,cap,cur,hv,hB',h1⟩=>⟨g,cap,cur,hv,Nat.le_trans hB hB',h1⟩⟩
theorem ClipRow.keepT (h:ClipRow w B e v xs) (hk:KeepT ok w w') (ho:ok e):ClipRow w' B e v xs:=
 h.imp id fun ⟨g,cap,cur,hv,hB,hb,h1⟩=>⟨g,cap,cur,hv,hB,(hk g _ _ hb ho).trans hb,h1⟩
theorem SubL.keepT {X:Type} {sub:X→List Value} {ys:List X} {vs:List Value} {bs:List Nat} (h:SubL w B e sub ys vs bs) (hk:KeepT ok w w') (ho:ok e):SubL w' B e sub ys vs bs:=by
 induction h with
 | nil=>exact .nil
 | cons h t ih=>exact .cons (h.keepT hk ho) ih
theorem SubL.from_ {B':Nat} {X:Type} {sub:X→List Value} {ys:List X} {vs:List Value} {bs:List Nat} (h:SubL w B e sub ys vs bs) (hB:B'≤B):SubL w B' e sub ys vs bs:=by
 induction h with
 | nil=>exact .nil
 | cons h t ih=>exact .cons (h.imp id fun ⟨g,cap,cur,hv,hB',h1⟩=>⟨g,cap,cur,hv,Nat.le_trans hB hB',h1⟩) ih
theorem ClipM.cells (h:ClipM w B e m v n xs) {g:Nat} (hg:v.ownBlock=some g):∀(j:Nat) (u:Value),xs[j]?=some u→w.cell? ((⟨g,0,none⟩:Addr).add j)=some u:=by
 rcases h.2 with ⟨rfl,_⟩ | ⟨g',cap,cur,rfl,hB,hb,h1,h2,h3,h4⟩
 ·cases hg
 ·obtain rfl:g'=g:=Option.some.inj hg;intro j u hu;have hj:=(List.getElem?_eq_some_iff.1 hu).1;rw[h.1] at hj;have h5:=hu;rw[←h4,List.getElem?_take_of_lt hj] at h5;have h2:w.cell? ((⟨g',0,none⟩:Addr).add j)=cur[j]?:=by by_cases h0:j=0 <;> simp[Addr.add,h0,World.cell?,hb]
  rw[h2];simpa using h5
theorem ClipM.at {X:Type} {f:X→List T} {ys:List X} (hf:∀x,(f x).length=m) (h:ClipM w B e m v ys.length xs) (ha:T.AtL bare w (fun g=>B≤g∧CellsAt w g) (ys.flatMap f) xs):T.At bare w (fun g=>B≤g∧CellsAt w g) (rowT m f ys) v:=by
 simp only[rowT,T.At]
 rcases h.2 with ⟨rfl,h0⟩ | ⟨g,cap,cur,rfl,hB,hb,h1,h2,h3,h4⟩
 ·exact ⟨none,0,_,by rw[h0],by simp[bare,h0],by unfold maxLen;omega,flatMap_len f hf ys,fun hlt=>by simp[bare,h0] at hlt,ha⟩
 ·refine ⟨_,cap,_,rfl,by simpa [bare] using h1,h2,flatMap_len f hf ys,fun _=>⟨_,rfl,⟨hB,_,_,_,hb⟩,?_⟩,ha⟩;have:=h.cells (g:=g) rfl;simpa [bare,Cells] using this
end
theorem SubL.bel {w w':World} {B:Nat} {e:TypeId} {X:Type} {sub:X→List Value} {ys:List X} {vs:List Value} {bs:List Nat} (h:SubL w B e sub ys vs bs) (hb:Below w.heap.size w w'):SubL w' B e sub ys vs bs:=h.keep fun g hg=>hb.block g (h.mem g hg).2
inductive SubG {X:Type} (R:X→Value→List Nat→Prop):List X→List Value→List Nat→Prop
 | nil:SubG R [] [] []
 | cons {x:X} {xs:List X} {v:Value} {vs:List Value} {b bs:List Nat} (h:R x v b) (t:SubG R xs vs bs):SubG R (x::xs) (v::vs) (b++bs)
section
variable {X:Type} {R R':X→Value→List Nat→Prop} {xs ys:List X} {vs us:List Value} {bs cs:List Nat}
theorem SubG.imp (h:SubG R xs vs bs) (hR:∀x v b,R x v b→R' x v b):SubG R' xs vs bs:=by
 induction h with
 | nil=>exact .nil
 | cons h t ih=>exact .cons (hR _ _ _ h) ih
theorem SubG.append (h:SubG R xs vs bs) (h2:SubG R ys us cs):SubG R (xs++ys) (vs++us) (bs++cs):=by
 induction h with
 | nil=>exact h2
 | cons h t ih=>rw[List.cons_append,List.cons_append,List.append_assoc];exact .cons h ih
theorem SubG.one {x:X} {v:Value} {b:List Nat} (h:R x v b):SubG R [x] [v] b:=by
 have:=SubG.cons (R:=R) h .nil;rwa [List.append_nil] at this
theorem SubG.at {w:World} {S:Nat→Prop} {f:X→List T} (h:SubG R xs vs bs) (hR:∀x v b,R x v b→T.AtL bare w S (f x) [v]):T.AtL bare w S (xs.flatMap f) vs:=by
 induction h with
 | nil=>simp[T.AtL]
 | cons h t ih=>rw[List.flatMap_cons];exact AtL.append (hR _ _ _ h) ih
end
def PostC (w:World) (B:Nat) (ps:List (Int × List Int)) (v:Value) (bs:List Nat):Prop:=
 ∃vs,ClipM w B 59 2 v ps.length (flat (fun p=>[.int .i64 p.1]) ps vs)∧SubL w B 3 (fun p=>intCells p.2) ps vs bs
def okD (t:TypeId):Prop:=t=9∨t=3∨t=2∨t=48∨t=50∨t=55∨t=59∨t=56
def okP (t:TypeId):Prop:=t=3∨t=59
section
variable {w w':World} {B:Nat} {ok:TypeId→Prop}
theorem PostC.keepT {ps:List (Int × List Int)} {v:Value} {bs:List Nat} (h:PostC w B ps v bs) (hk:KeepT ok w w') (h1:ok 3) (h2:ok 59):PostC w' B ps v bs:=by
 obtain ⟨vs,ha,hb⟩:=h;exact ⟨vs,ha.keepT hk h2,hb.keepT hk h1⟩
theorem clip_ints {v:Value} {l:List Int} (h:ClipRow w B 3 v (intCells l)):T.At bare w (fun g=>B≤g∧CellsAt w g) (intsT l) v:=clip_lits (enc:=Value.int .i64) rfl h
theorem clip_i64s {v:Value} {l:List Int} (h:ClipRow w B 2 v (intCells l)):T.At bare w (fun g=>B≤g∧CellsAt w g) (intsT l) v:=clip_lits (enc:=Value.int .i64) rfl h
theorem clip_strs' {v:Value} {l:List (List UInt8)} (h:ClipRow w B 9 v (strCells l)):T.At bare w (fun g=>B≤g∧CellsAt w g) (strsT l) v:=clip_lits (enc:=Go.Proofs.encStr) rfl h
theorem pair_mk (x:Int × List Int) (u:Value) (S:Nat→Prop) (h:T.At bare w S (intsT x.2) u):T.AtL bare w S (pairT x) ([.int .i64 x.1]++[u]):=by
 simp only[pairT,List.cons_append,List.nil_append,T.AtL,T.At,true_and,and_true];exact h
theorem PostC.at {ps:List (Int × List Int)} {v:Value} {bs:List Nat} (h:PostC w B ps v bs):T.At bare w (fun g=>B≤g∧CellsAt w g) (rowT 2 pairT ps) v:=by
 obtain ⟨vs,ha,hb⟩:=h;exact ha.at pairT_len (hb.at (fun x u hu=>clip_ints hu) pair_mk)
end
structure DoneAt (w:World) (B:Nat) (x:ID) (v0 v1 v2 v3 v4 v5:Value) (bI bS bZ:List Nat):Prop where
 terms:ClipM w B 9 1 v0 x.terms.length (strCells x.terms)
 posts:∃vs,ClipM w B 56 1 v1 x.posts.length vs∧SubG (PostC w B) x.posts vs bZ
 lens:ClipM w B 2 1 v2 x.lens.length (intCells x.lens)
 rest:∃vs3 vs4 vs5 b3 b4 b5,ClipM w B 48 1 v3 x.texts.length (flat (fun _=>[]) x.texts vs3)∧SubL w B 9 strCells x.texts vs3 b3∧
  ClipM w B 50 1 v4 x.nums.length (flat (fun _=>[]) x.nums vs4)∧SubL w B 2 intCells x.nums vs4 b4∧
  ClipM w B 55 2 v5 x.pts.length (flat (fun p=>[.int .i64 p.1]) x.pts vs5)∧SubL w B 2 (fun p=>intCells p.2) x.pts vs5 b5∧
  bS=v0.ownBlock.toList++b3∧bI=v2.ownBlock.toList++(b4++b5)
 nI:bI.Nodup
 nS:bS.Nodup
 nZ:bZ.Nodup
section
variable {w w':World} {B:Nat} {x:ID} {v0 v1 v2 v3 v4 v5:Value} {bI bS bZ:List Nat}
theorem DoneAt.keepT (h:DoneAt w B x v0 v1 v2 v3 v4 v5 bI bS bZ) (hk:KeepT okD w w'):DoneAt w' B x v0 v1 v2 v3 v4 v5 bI bS bZ:=by
 obtain ⟨vs,h1,h2⟩:=h.posts;obtain ⟨vs3,vs4,vs5,b3,b4,b5,g1,g2,g3,g4,g5,g6,g7,g8⟩:=h.rest
 exact ⟨h.terms.keepT hk (by simp[okD]),⟨vs,h1.keepT hk (by simp[okD]),h2.imp fun x v b hp=>hp.keepT hk (by simp[okD]) (by simp[okD])⟩,h.lens.keepT hk (by simp[okD]),
  ⟨vs3,vs4,vs5,b3,b4,b5,g1.keepT hk (by simp[okD]),g2.keepT hk (by simp[okD]),g3.keepT hk (by simp[okD]),g4.keepT hk (by simp[okD]),g5.keepT hk (by simp[okD]),g6.keepT hk (by simp[okD]),g7,g8⟩,h.nI,h.nS,h.nZ⟩
theorem DoneAt.at (h:DoneAt w B x v0 v1 v2 v3 v4 v5 bI bS bZ):T.AtL bare w (fun g=>B≤g∧CellsAt w g) (invT x) [v0,v1,v2,v3,v4,v5]:=by
 obtain ⟨vs,h1,h2⟩:=h.posts;obtain ⟨vs3,vs4,vs5,b3,b4,b5,g1,g2,g3,g4,g5,g6,_⟩:=h.rest
 have one:∀{α:Type} (enc:α→Value) (l:List α),l.flatMap (fun x=>[T.lit (enc x)])=l.map fun x=>.lit (enc x):=fun enc l=>by
  induction l with
  | nil=>rfl
  | cons a l ih=>rw[List.flatMap_cons,ih];rfl
 simp only[invT,T.AtL,and_true];refine ⟨h.terms.at (fun _=>rfl) ?_,h1.at (fun _=>rfl) (h2.at fun x v b hp=>?_),h.lens.at (fun _=>rfl) ?_,g1.at (fun _=>rfl) (g2.at (st:=strsT) (fun x u hu=>clip_strs' hu) fun x u S hu=>?_),g3.at (fun _=>rfl) (g4.at (st:=intsT) (fun x u hu=>clip_i64s hu) fun x u S hu=>?_),g5.at pairT_len (g6.at (fun x u hu=>clip_i64s hu) pair_mk)⟩
 ·rw[one];exact AtL.of_lits (f:=strV)
 ·simp only[T.AtL,and_true];exact hp.at
 ·rw[one];exact AtL.of_lits
 ·simp only[List.nil_append,T.AtL,and_true];exact hu
 ·simp only[List.nil_append,T.AtL,and_true];exact hu
end
end Go.Proofs.YtigfcihakghddaaGreatDoor.BufT
end
section
namespace Go.Proofs.YtigfcihakghddaaGreatDoor.BufT
open Go Go.RowKit Words Tree Owned BufP Sch SchP Kit
structure C3 where
 f:Int
 t:ByteArray
 a:Option Addr
 n:Nat
 c:Nat
def c3V (y:C3):List Value:=[.int .i64 y.f,.string y.t,.slice y.a y.n y.c]
theorem c3V_len (y:C3):(c3V y).length=3:=rfl
def AnsC (b:Bool) (w:World) (e:Ending) (w':World):Prop:=e = .returned (.bool b)∧Below w.heap.size w w'
def IntC (z:Int) (w:World) (e:Ending) (w':World):Prop:=e = .returned (.int .i64 z)∧Below w.heap.size w w'
def RowC3 (w:World) (B:Nat) (A:Option Addr) (cap:Nat) (ys:List C3):Prop:=ys.length≤cap∧cap≤maxLen∧Reads w B 3 A ys.length (ys.flatMap c3V)
theorem RowC3.below {w w':World} {B:Nat} {A:Option Addr} {cap:Nat} {ys:List C3} (h:RowC3 w B A cap ys) (hb:Below B w w'):RowC3 w' B A cap ys:=⟨h.1,h.2.1,h.2.2.below hb⟩
theorem RowC3.cell {w:World} {B:Nat} {A:Option Addr} {cap:Nat} {ys:List C3} (h:RowC3 w B A cap ys) {i:Nat} (hi:i<ys.length) :
 ∃ad,A=some ad∧ad.block<B∧w.cell? (ad.add (i*3))=some (.int .i64 ys[i].f)∧w.cell? ⟨(ad.add (i*3)).block,(ad.add (i*3)).off+1,none⟩=some (.string ys[i].t)∧w.cell? ⟨(ad.add (i*3)).block,(ad.add (i*3)).off+2,none⟩=some (.slice ys[i].a ys[i].n ys[i].c):=by
 obtain ⟨ad,h1,h2,h3⟩:=reads_elem c3V_len h.2.2 rfl hi;exact ⟨ad,h1,h2,h3.zero,h3.at_ 1 _ rfl (by omega),h3.at_ 2 _ rfl (by omega)⟩
theorem c3_of {w:World} {S:Nat→Prop}:∀{cs:List CT} {vs:List Value},T.AtL bare w S (cs.flatMap ccells) vs→∃ys:List C3,vs=ys.flatMap c3V∧ys.length=cs.length∧∀i (h:i<cs.length) (h':i<ys.length),ys[i].f=cs[i].field∧ys[i].t=cs[i].text∧T.At bare w S (numsT .i64 cs[i].nums) (.slice ys[i].a ys[i].n ys[i].c)
 | [],vs,h=>⟨[],AtL.nil_ h,rfl,fun i h=>absurd h (by simp)⟩
 | c::cs,vs,h=>by
  rw[List.flatMap_cons] at h;obtain ⟨h1,h2⟩:=AtL.split h;obtain ⟨ys,h3,h4,h5⟩:=c3_of h2;have hsp:=List.take_append_drop (ccells c).length vs;simp only[ccells] at h1 hsp h3 h2;obtain ⟨v0,us0,e0,g0,h1⟩:=AtL.cons_ h1;obtain ⟨v1,us1,e1,g1,h1⟩:=AtL.cons_ h1;obtain ⟨v2,us2,e2,g2,h1⟩:=AtL.cons_ h1;obtain rfl:=AtL.nil_ h1;simp only[T.At] at g0 g1;subst g0 g1 e2 e1
  obtain ⟨A,cap,vs',hv,_⟩:=(show ∃A cap vs',v2 = .slice A c.nums.length cap∧T.At bare w S (numsT .i64 c.nums) v2 from by
   have g2':=g2;simp only[numsT,T.At] at g2';obtain ⟨A,cap,vs',hv,_⟩:=g2'
   exact ⟨A,cap,vs',hv,g2⟩)
  subst hv;refine ⟨⟨c.field,c.text,A,c.nums.length,cap⟩::ys,?_,by simp[h4],fun i hi hi'=>?_⟩
  ·rw[List.flatMap_cons,←h3,←hsp,e0];simp[c3V]
  ·cases i with
   | zero=>exact ⟨rfl,rfl,g2⟩
   | succ i=>exact h5 i (by simpa using hi) (by simpa using hi')
theorem eql_nilC (n c:Nat) (w:World):(binOp .eql 96 (.slice none n c) (.slice none 0 0)).run Tryz.prog w = .ok (.bool true) w:=by rfl
theorem eql_someC (ad:Addr) (n c:Nat) (w:World):(binOp .eql 96 (.slice (some ad) n c) (.slice none 0 0)).run Tryz.prog w = .ok (.bool false) w:=by rfl
theorem infoC:(Tryz.prog.info? 103).map (fun i=>(i.zero,i.size,i.bytes))=some (some (.agg #[.int .i64 0,.string ⟨#[]⟩,.slice none 0 0]),3,48):=by kernel_rfl
theorem own_slice3 {w:World} {B n:Nat} {e:TypeId} {v:Value} {xs:List Value} (h:w.ownsRow B e 3 v n xs):∃A c,v = .slice A n c:=by
 rcases h.2 with ⟨rfl,h0⟩ | ⟨g,cap,cur,rfl,_⟩
 ·exact ⟨none,0,by rw[h0]⟩
 ·exact ⟨_,_,rfl⟩
def CloneC (n:Nat) (xs:List Value) (w:World) (e:Ending) (w':World):Prop:=∃A c,e = .returned (.slice A n c)∧w'.ownsRow w.heap.size 103 3 (.slice A n c) n xs∧Below w.heap.size w w'
theorem c3_ones (ys:List C3):∀u∈ys.flatMap c3V,u.oneCell'=true:=by
 intro u hu;obtain ⟨y,_,hu⟩:=List.mem_flatMap.1 hu;simp only[c3V,List.mem_cons,List.not_mem_nil,or_false] at hu;rcases hu with rfl | rfl | rfl <;> rfl
theorem cloneC_any (A:Option Addr) (cap:Nat) (ys:List C3) (w:World) (hr:RowC3 w w.heap.size A cap ys) (hl:ys.length*48≤140737488351232) :
 Calls Tryz.prog 41 #[.slice A ys.length cap] w (CloneC ys.length (ys.flatMap c3V) w):=by
 obtain ⟨hc,hm,hr⟩:=hr;have h1:=c3_ones ys;generalize ys.flatMap c3V=xs at *;generalize ys.length=n at *;obtain ⟨i0,hi,hz0,hz1,hz2⟩:=info_parts infoC
 cases A with
 | none=>
  have h0:n=0:=by
   rcases Nat.eq_zero_or_pos n with h | h
   ·exact h
   ·obtain ⟨ad,e,_⟩:=hr.2 h;cases e
  subst h0;have hx:xs=[]:=List.eq_nil_of_length_eq_zero (by have:=hr.1;omega);subst hx;clear hr;have hq:=eql_nilC;go_enter Tryz.func41,Tryz.ntmps41;go_wp2_with fail;go_ret;exact ⟨none,0,rfl,World.ownsRow_nil _ _ _ _,Below.refl _ _⟩
 | some ad=>
  have hq:=eql_someC;go_enter Tryz.func41,Tryz.ntmps41;go_wp2_with (at_builtin;refine wpList_append_any _ rfl (.tmp 5) (.tmp 6) 96 rfl w.heap.size 103 i0 _ 3 48 Tryz.underlying96 hi hz0 hz1 hz2 rfl (by decide) _ 0 [] rfl (own_empty w _ _ _ (Nat.le_refl _)) w.heap.size (some ad) n cap xs rfl (hr.alloc (Nat.le_refl _) _) h1 ?c3 ?c4 ?c5 ?_);case c3=>unfold maxLen;omega
  case c4=>omega
  case c5=>simp
  intro v1 w1 ho1 hg1 _;have hb1:Below w.heap.size w w1:=((Below.refl _ w).alloc (Nat.le_refl _) _).grown hg1 (by simp) (fun r e=>by simp[Value.ownBlock] at e;omega);replace ho1:w1.ownsRow w.heap.size 103 3 v1 n xs:=by simpa using ho1
  have HB1:=hX hb1;have HO1:=hX ho1;clear hg1 hb1 ho1;go_wp2_with fail;go_ret;obtain ⟨A1,c1,rfl⟩:=own_slice3 HO1.out;exact ⟨A1,c1,rfl,HO1.out,HB1.out⟩
def idxC (p:C3→Bool) (ys:List C3):Int:=match ys.findIdx? p with
 | some i=>i
 | none=>-1
theorem idxC_none {p:C3→Bool} {ks:List C3} (h:∀k∈ks,p k=false):idxC p ks = -1:=by
 unfold idxC;rw[List.findIdx?_eq_none_iff.2 h]
theorem idxC_some {p:C3→Bool} {ks:List C3} {i:Nat} (hi:i<ks.length) (hp:p ks[i]=true) (h:∀k∈ks.take i,p k=false):idxC p ks=i:=by
 unfold idxC
 have:ks.findIdx? p=some i:=(by rw[List.findIdx?_eq_some_iff_getElem];refine ⟨hi,hp,fun j hj=>?_⟩;have:=h (ks[j]'(by omega)) (List.mem_take_iff_getElem.2 ⟨j,by omega,rfl⟩);simp[this])
 rw[this]
theorem idxC_any (p:C3→Bool) (ks:List C3):decide (0≤idxC p ks)=ks.any p:=by
 unfold idxC
 cases h:ks.findIdx? p with
 | none=>
  rw[List.findIdx?_eq_none_iff] at h;have:ks.any p=false:=by rw[List.any_eq_false];intro x hx;rw[h x hx];decide
  rw[this];rfl
 | some i=>
  rw[List.findIdx?_eq_some_iff_getElem] at h;obtain ⟨hi,hp,_⟩:=h;have:ks.any p=true:=List.any_eq_true.2 ⟨_,List.getElem_mem hi,hp⟩;rw[this];exact decide_eq_true (by simp)
theorem take_snocC {α:Type} {l:List α} {k:Nat} (h:k<l.length):l.take (k+1)=l.take k++[l[k]]:=List.take_succ_eq_append_getElem h
theorem indexC_any (p:C3→Bool) (F:FuncId) (caps:Array Value) (ks:List C3) (A:Option Addr) (cA:Nat) (w:World) (hk:RowC3 w w.heap.size A cA ks) (hE:∀args w,(callFunc F args).run Tryz.prog w = .ok (.enter F args) w)
 (HK:∀y W,Below w.heap.size w W→Calls Tryz.prog F (#[.agg #[.int .i64 y.f,.string y.t,.slice y.a y.n y.c]]++caps) W (AnsC (p y) W)) :
 Calls Tryz.prog 76 #[.slice A ks.length cA,.func (.func F) #[] caps] w (IntC (idxC p ks) w):=by
 have hcA:=hk.1;have hmA:=hk.2.1;have EL:=hX hk;have HK:=hX HK;have hkm:ks.length≤9223372036854775807:=by unfold maxLen at hmA;omega
 obtain ⟨r,hr⟩:∃r,idxC p ks=r:=⟨_,rfl⟩
 rw[hr];have H0:Hid (∀k∈ks.take 0,p k=false):=hX (by simp);have HR:=hX hr;clear hr hk;go_enter Tryz.func76,Tryz.ntmps76;go_wp2_with fail;go_loopw [5,8] (fun _ i wr=>∃k:Nat,k≤ks.length∧i = .int .i64 k∧Hid (∀q∈ks.take k,p q=false)∧Hid (Below w.heap.size w wr)) (fun _ i _=>ks.length - (intOf i).toNat);case atStart=>exact ⟨0,by omega,rfl,H0,hX (Below.refl _ _)⟩
 case round=>
  clear H0;obtain ⟨k,hk,rfl,HE,HB⟩:=hrel;by_cases hlt:k<ks.length
  ·have hlt2:(k:Int)<(ks.length:Int):=by omega
   obtain ⟨ad,rfl,hba,a0,a1,a2⟩:=(EL.out.below HB.out).cell hlt;have HAU:=hX (HK.out ks[k] wr HB.out)
   obtain ⟨b,hb⟩:∃b,p ks[k]=b:=⟨_,rfl⟩
   rw[hb] at HAU;have HP:=hX hb
   have HD:Hid (p ks[k]=false→∀q∈ks.take (k+1),p q=false):=hX (fun h q hq=>by
    rw[take_snocC hlt] at hq;rcases List.mem_append.1 hq with hq | hq
    ·exact HE.out q hq
    ·rw[List.mem_singleton.1 hq];exact h)
   have HI:Hid (p ks[k]=true→r=(k:Int)):=hX (fun h=>by rw[←HR.out];exact idxC_some hlt h HE.out);generalize hq:ks[k]=q at *;obtain ⟨qf,qt,qa,qn,qc⟩:=q;dsimp only at a0 a1 a2 HAU;clear hq hb;go_wp2_with fail;refine HAU.out.mono ?_;rintro e w2 ⟨rfl,hb⟩;have HB2:=hX (HB.out.trans (hb.mono HB.out.size));clear hb a0 a1 a2 HAU
   cases b with
   | true=>
    have hz:=HI.out HP.out;clear HI HP HR;subst hz;go_wp2_with fail;go_ret;exact ⟨rfl,HB2.out⟩
   | false=>
    have HE2:=hX (HD.out HP.out);go_wp2_with fail;go_roundw;case rel=>exact ⟨k+1,by omega,by go_num,HE2,HB2⟩
    case measure=>simp[intOf];omega
  ·obtain rfl:k=ks.length:=by omega
   have hz:r = -1:=by rw[←HR.out];exact idxC_none (by have:=HE.out;rwa [List.take_length] at this)
   clear HR;subst hz;go_wp2_with fail;go_ret;exact ⟨rfl,HB.out⟩
theorem containsC_any (p:C3→Bool) (F:FuncId) (caps:Array Value) (ks:List C3) (A:Option Addr) (cA:Nat) (w:World) (hk:RowC3 w w.heap.size A cA ks) (hE:∀args w,(callFunc F args).run Tryz.prog w = .ok (.enter F args) w)
 (HK:∀y W,Below w.heap.size w W→Calls Tryz.prog F (#[.agg #[.int .i64 y.f,.string y.t,.slice y.a y.n y.c]]++caps) W (AnsC (p y) W)) :
 Calls Tryz.prog 58 #[.slice A ks.length cA,.func (.func F) #[] caps] w (AnsC (ks.any p) w):=by
 have HI:=hX (indexC_any p F caps ks A cA w hk hE HK);have HA:=hX (idxC_any p ks);clear hk HK hE;generalize idxC p ks=z at *;go_enter Tryz.func58,Tryz.ntmps58;go_wp2_with fail;refine HI.out.mono ?_;rintro e w2 ⟨rfl,hb⟩;have HB:=hX hb;clear hb;go_wp2_with fail;go_ret;exact ⟨by show Ending.returned (.bool (decide (0≤z)))=_;rw[HA.out],HB.out⟩
end Go.Proofs.YtigfcihakghddaaGreatDoor.BufT
end
section
namespace Go.Proofs.YtigfcihakghddaaGreatDoor.Sch
open Go.RowKit Words Tree SchP Kit Owned AnaP
theorem fin_i64 {b:Bool} {ds:List UInt8} {n:Int} (h:OrdP.fin b ds=some n):I64 n:=by
 unfold OrdP.fin at h;unfold I64;split at h
 ·split at h
  ·injection h with h;omega
  ·cases h
 ·split at h
  ·injection h with h;omega
  ·cases h
theorem decO_i64 {f:FT} {s:ByteArray} {n:Int} (h:decO f s=some n):I64 n:=by
 unfold decO at h;split at h
 ·cases h
 ·unfold OrdP.decF at h;dsimp only at h;split at h
  ·cases h
  ·split at h
   ·exact fin_i64 h
   ·split at h
    ·exact fin_i64 h
    ·cases h
theorem valueF_ok {f:FT} {k:Nat} {e:ET} {c:CT × Nat} (hk:k≤9223372036854775807) (he:EOk e) (h:valueF decO runO f k e=some c):COk c.1:=by
 have hkk:I64 (k:Int):=by unfold I64;omega
 unfold valueF at h;split at h
 ·cases hr:runO f e.text with
  | none=>rw[hr] at h;cases h
  | some n=>rw[hr] at h;cases h;exact ⟨hkk,he.text,⟨by simp,fun z hz=>by cases hz⟩⟩
 ·split at h
  ·split at h
   ·cases h;exact ⟨hkk,he.text,⟨by simp,fun z hz=>by cases hz⟩⟩
   ·cases h
  ·split at h
   ·cases hr:decO f e.text with
    | none=>rw[hr] at h;cases h
    | some n=>
     rw[hr] at h;cases h;refine ⟨hkk,by show (0:Nat)≤_;omega,⟨by simp,fun z hz=>?_⟩⟩;have:z=n:=by simpa using hz
     subst this;exact decO_i64 hr
   ·cases h;exact ⟨hkk,by show (0:Nat)≤_;omega,he.nums⟩
theorem cellsF_ok {l:List FT} {d:List ET} {r:List CT} (hl:l.length*72≤140737488351232) (he:∀e∈d,EOk e) (h:cellsF decO runO l d = .ok r):r.length≤64∧∀c∈r,COk c:=by
 obtain ⟨_,h64,cs,hm,rfl,_⟩:=cellsF_iff.1 h;have hlen:d.length=cs.length:=by have:=congrArg List.length hm;simpa using this
 refine ⟨by rw[List.length_map];omega,fun c hc=>?_⟩;obtain ⟨p,hp,rfl⟩:=List.mem_map.1 hc;have:some p∈d.map (oneF decO runO l):=by rw[hm];exact List.mem_map_of_mem hp
 obtain ⟨e,hed,ho⟩:=List.mem_map.1 this;obtain ⟨k,f,g1,g2,_,g4,_⟩:=oneF_field ho;have hk:k<l.length:=(List.getElem?_eq_some_iff.1 g2).1;exact valueF_ok (by omega) (he e hed) g4
end Go.Proofs.YtigfcihakghddaaGreatDoor.Sch
end
section
namespace Go.Proofs.YtigfcihakghddaaGreatDoor.BufT
open Go Go.RowKit Words Tree Owned MapV BufP Sch SchP AnaP Kit
theorem cells_kind {l:List FT} {d:List ET} {r:List CT} (h:cellsF decO runO l d = .ok r):∀c∈r,∃(k:Nat) (f:FT),c.field=k∧l[k]?=some f∧(f.kind=3∨f.kind=4→0<c.nums.length):=by
 obtain ⟨_,h64,cs,hm,rfl,_⟩:=cellsF_iff.1 h;intro c hc;obtain ⟨p,hp,rfl⟩:=List.mem_map.1 hc;have:some p∈d.map (oneF decO runO l):=by rw[hm];exact List.mem_map_of_mem hp
 obtain ⟨e,hed,ho⟩:=List.mem_map.1 this;obtain ⟨k,f,g1,g2,g3,g4,g5⟩:=oneF_field ho;refine ⟨k,f,g5,g2,fun hk=>?_⟩;rcases hk with hk | hk
 ·unfold valueF at g4;rw[if_neg (by omega),if_neg (by omega),if_neg (by omega)] at g4;injection g4 with g4;rw[←g4];have hw:SchP.wantN f=1:=by unfold SchP.wantN;rw[if_pos hk]
  simp only[SchP.kindOk,hw,Bool.and_eq_true,decide_eq_true_eq] at g3;show 0<e.nums.length;have:=g3.1;omega
 ·unfold valueF at g4;rw[if_neg (by omega),if_neg (by omega),if_pos hk] at g4
  cases hr:decO f e.text with
  | none=>rw[hr] at g4;cases g4
  | some n=>rw[hr] at g4;injection g4 with g4;rw[←g4];show 0<1;omega
theorem kindB_range {f:FT} (h:mayB f=true):1≤f.kind∧f.kind≤5:=by
 unfold mayB at h;rw[Bool.and_eq_true] at h;have h:=h.2;unfold kindB at h;split at h
 ·omega
 ·split at h
  ·omega
  ·split at h
   ·omega
   ·split at h
    ·omega
    ·cases h
theorem checkS_kind {l:List FT} (h:checkS l=true) {k:Nat} (hk:k<l.length):1≤l[k].kind∧l[k].kind≤5:=by
 unfold checkS at h;rw[Bool.and_eq_true] at h;have:=List.all_eq_true.1 h.2 k (List.mem_range.2 hk);rw[okAt_eq hk,Bool.and_eq_true] at this;exact kindB_range this.2
theorem checkS_len {l:List FT} (h:checkS l=true):l.length≤16:=by
 unfold checkS at h;rw[Bool.and_eq_true,Bool.and_eq_true] at h;simpa using h.1.2
structure Few (x:FD):Prop where
 adds:x.adds.length≤137438953472
 lens:x.lens.length≤1048576
 texts:x.texts.length≤1048576
 nums:x.nums.length≤1048576
 pts:x.pts.length≤1099511627
structure CellsFor (l:List FT) (k:Nat) (cs:List CT):Prop where
 len:cs.length≤64
 ok:∀c∈cs,COk c
 num:∀f,l[k]?=some f→(f.kind=3∨f.kind=4)→∀c∈cs,0<c.nums.length
theorem cellsFor {l:List FT} {d:List ET} {r:List CT} (hl:l.length*72≤140737488351232) (he:∀e∈d,EOk e) (h:cellsF decO runO l d = .ok r) (k:Nat):CellsFor l k (ofF k r):=by
 obtain ⟨h1,h2⟩:=cellsF_ok hl he h;refine ⟨Nat.le_trans (List.length_filter_le _ _) h1,fun c hc=>h2 c (List.mem_filter.1 hc).1,fun f hf hk c hc=>?_⟩;obtain ⟨hc1,hc2⟩:=List.mem_filter.1 hc;obtain ⟨k',f',g1,g2,g3⟩:=cells_kind h c hc1;simp only[decide_eq_true_eq] at hc2;obtain rfl:k'=k:=by omega
 rw[hf] at g2;cases g2;exact g3 hk
theorem meth_any (l:List FT) (k:Nat) (hk:k<l.length) (hkd:1≤l[k].kind∧l[k].kind≤5) (fb:Nat):∃G:FuncId,methV fb l[k].kind = .func (.func G) #[.pointer (some ⟨fb,0,none⟩)] #[]∧(∀args w,(callFunc G args).run Tryz.prog w = .ok (.enter G args) w)∧
 ∀(w:World) (B:Nat) (sv cv:Value) (x:FD) (F:Nat→Prop) (d:Int) (cs:List CT),FieldAt w B fb k sv x F→Few x→(Lit.int .i64 d).wf=true→B≤w.heap.size→T.At bare w (fun g=>g<w.heap.size) (fieldsT l) sv→l.length*72≤140737488351232→(∀f∈l,FOk f)→
  T.At bare w (fun g=>g<w.heap.size∧¬F g) (cellsT cs) cv→CellsFor l k cs→FoldNext.Tabs w→
  Calls Tryz.prog G #[.pointer (some ⟨fb,0,none⟩),.int .i64 d,cv] w (FieldRet w B fb k sv (stepD toksF l k l[k].kind d cs x) F):=by
 have hlk:l[k]?=some l[k]:=List.getElem?_eq_getElem hk
 obtain ⟨kd,hkd0⟩:∃kd,l[k].kind=kd:=⟨_,rfl⟩
 rw[hkd0] at hkd ⊢;have hcases:kd=1∨kd=2∨kd=3∨kd=4∨kd=5:=by omega
 have eT:∀args w,(callFunc 72 args).run Tryz.prog w = .ok (.enter 72 args) w:=enters_of Tryz.func72 (by kernel_rfl) rfl;have eK:∀args w,(callFunc 73 args).run Tryz.prog w = .ok (.enter 73 args) w:=enters_of Tryz.func73 (by kernel_rfl) rfl;have eN:∀args w,(callFunc 74 args).run Tryz.prog w = .ok (.enter 74 args) w:=enters_of Tryz.func74 (by kernel_rfl) rfl;have eP:∀args w,(callFunc 75 args).run Tryz.prog w = .ok (.enter 75 args) w:=enters_of Tryz.func75 (by kernel_rfl) rfl;have off:∀{w:World} {F:Nat→Prop} {t:T} {v:Value},T.At bare w (fun g=>g<w.heap.size∧¬F g) t v→T.At bare w (fun g=>g<w.heap.size) t v:=fun h=>At.keep (fun _ _=>rfl) (fun _ hg=>hg.1) h
 have numK:∀kd',kd'=3∨kd'=4→l[k].kind=kd'→∀(w:World) (B:Nat) (sv cv:Value) (x:FD) (F:Nat→Prop) (d:Int) (cs:List CT),FieldAt w B fb k sv x F→Few x→B≤w.heap.size→
  T.At bare w (fun g=>g<w.heap.size∧¬F g) (cellsT cs) cv→CellsFor l k cs→
  Calls Tryz.prog 74 #[.pointer (some ⟨fb,0,none⟩),.int .i64 d,cv] w (FieldRet w B fb k sv { x with nums:=x.nums++[numF cs],pts:=x.pts++ptsF d cs } F):=fun kd' hk' hkk w B sv cv x F d cs h hx hB hc hcs=>
  number_any w B fb k sv cv x F d cs h hx.pts hx.nums hB hc (by have:=hcs.len;omega) (fun c hc=>(hcs.ok c hc).nums.1) (fun c hc=>hcs.num _ hlk (by rw[hkk];exact hk') c hc)
 rcases hcases with rfl | rfl | rfl | rfl | rfl
 ·refine ⟨72,rfl,eT,fun w B sv cv x F d cs h hx hd hB hu hl hf hc hcs hT=>?_⟩;have ht:=toksF_ok l k cs;refine text_any w B fb k sv cv x F l d cs h hx.adds hx.lens hd hB hu hl hf (off hc) (by have:=hcs.len;omega) hcs.ok hT (by have:=ht.len;have:=hcs.len;omega) (fun t htm=>?_);exact Nat.le_trans (ht.text t htm) (by unfold maxLen;omega)
 ·exact ⟨73,rfl,eK,fun w B sv cv x F d cs h hx hd hB hu hl hf hc hcs hT=>keyword_any w B fb k sv cv x F d cs h hx.adds hx.texts hd hB hc (by have:=hcs.len;omega) (fun c hc=>Nat.le_trans (hcs.ok c hc).text (by unfold maxLen;omega))⟩
 ·exact ⟨74,rfl,eN,fun w B sv cv x F d cs h hx hd hB hu hl hf hc hcs hT=>numK 3 (.inl rfl) hkd0 w B sv cv x F d cs h hx hB hc hcs⟩
 ·exact ⟨74,rfl,eN,fun w B sv cv x F d cs h hx hd hB hu hl hf hc hcs hT=>numK 4 (.inr rfl) hkd0 w B sv cv x F d cs h hx hB hc hcs⟩
 ·exact ⟨75,rfl,eP,fun w B sv cv x F d cs h hx hd hB hu hl hf hc hcs hT=>point_any w B fb k sv cv x F d cs h hx.pts hB hc (by have:=hcs.len;omega) (fun c hc=>(hcs.ok c hc).nums.1)⟩
end Go.Proofs.YtigfcihakghddaaGreatDoor.BufT
end
