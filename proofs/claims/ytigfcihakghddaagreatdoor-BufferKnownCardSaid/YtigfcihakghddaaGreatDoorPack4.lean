/- Lemmas that the last text leans on. -/
import Derived.Test.YtigfcihakghddaaGreatDoorPack3
import Derived.Test.YtigfcihakghddaaGreatDoorWords
import Derived.Lib.Hide
import Derived.OpenShut
import Derived.Test.YtigfcihakghddaaGreatDoorRows
import Derived.SizedLaws
import Derived.ChangeArms
import Derived.RangeFuncBox
import Derived.RangeFuncFrom
import Derived.Deep.RegionHeld
import Derived.Test.YtigfcihakghddaaGreatDoorTake
set_option linter.all false
section
namespace Go.Proofs.YtigfcihakghddaaGreatDoor.BufT
open Go Go.RowKit MapV BufP
section
variable {P:Program} {kS kI e:TypeId} {B:Nat} {w w':World} {bm:Nat} {S S':List UInt8→Prop} {L:List Ad} {n:Nat} {D:DataW Value} {bt:List UInt8→Nat} {Di:List UInt8→DataW Value} {rv:List UInt8→Int→Value}
theorem TermsAt.congr (h:TermsAt P kS kI e B w bm S L n D bt Di rv) (hs:∀x,S x↔S' x):TermsAt P kS kI e B w bm S' L n D bt Di rv:=by
 obtain rfl:S=S':=funext fun x=>propext (hs x);exact h
theorem Foot.congr {g:Nat} (hs:∀x,S x↔S' x) (h:Foot bm S L bt rv g):Foot bm S' L bt rv g:=by
 obtain rfl:S=S':=funext fun x=>propext (hs x);exact h
open Classical in
theorem foot_newT {s:List UInt8} {g m:Nat} (h:Foot bm (fun x=>S x∨x=s) L (fun x=>if x=s then m else bt x) rv g):Foot bm S L bt rv g∨g=m:=by
 rcases h with rfl | ⟨x,hx,rfl⟩ | h
 ·exact .inl (.inl rfl)
 ·by_cases e1:x=s
  ·exact .inr (if_pos e1)
  ·exact .inl (.inr (.inl ⟨x,hx.resolve_right e1,if_neg e1⟩))
 ·exact .inl (.inr (.inr h))
open Classical in
theorem foot_put {s:List UInt8} {d p:Int} {g:Nat} {v':Value} (h:Foot bm S (L++[⟨s,d,p⟩]) bt (fun x y=>if x=s∧y=d then v' else rv x y) g):Foot bm S L bt rv g∨v'.ownBlock=some g:=by
 rcases h with rfl | h | ⟨x,y,hxy,h⟩
 ·exact .inl (.inl rfl)
 ·exact .inl (.inr (.inl h))
 ·by_cases e1:x=s∧y=d
  ·simp only[if_pos e1] at h;exact .inr h
  ·simp only[if_neg e1] at h;rw[hasD_append,hasD_one] at hxy;exact .inl (.inr (.inr ⟨x,y,hxy.resolve_right (fun e2=>e1 ⟨e2.1.symm,e2.2.symm⟩),h⟩))
theorem hasT_more {s:List UInt8} {d p:Int} (x:List UInt8):hasT (L++[⟨s,d,p⟩]) x↔hasT L x∨x=s:=by rw[hasT_append,hasT_one];exact or_congr Iff.rfl eq_comm
end
end Go.Proofs.YtigfcihakghddaaGreatDoor.BufT
end
section
namespace Go.Proofs.YtigfcihakghddaaGreatDoor.Owned
open Go.RowKit Kit Words
theorem own_own_ne {w:World} {B B' n n' m m':Nat} {e e':TypeId} {v v':Value} {xs xs':List Value} (h:w.ownsRow B e m v n xs) (h':w.ownsRow B' e' m' v' n' xs') (hne:e≠e'):v.ownBlock=none∨v.ownBlock≠v'.ownBlock:=by
 rcases h.2 with ⟨rfl,_⟩ | ⟨g,cap,cur,rfl,_,hg,_⟩
 ·exact .inl rfl
 ·right
  rcases h'.2 with ⟨rfl,_⟩ | ⟨g',cap',cur',rfl,_,hg',_⟩
  ·simp[Value.ownBlock]
  ·intro hh;simp only[Value.ownBlock,Option.some.injEq] at hh;subst hh;rw[hg] at hg';injection hg' with hg';injection hg' with _ ht;exact hne ht
theorem own_below {w w':World} {B n m:Nat} {e:TypeId} {v:Value} {xs:List Value} (h:w.ownsRow B e m v n xs) (hb:Below w.heap.size w w'):w'.ownsRow B e m v n xs:=
 h.kept (only_of_below hb none) (by cases hv:v.ownBlock <;> simp)
theorem own_slice {w:World} {B n:Nat} {e:TypeId} {v:Value} {xs:List Value} (h:w.ownsRow B e 1 v n xs):∃ao cap,v = .slice ao n cap:=by
 rcases h.2 with ⟨rfl,h0⟩ | ⟨g,cap,cur,rfl,_⟩
 ·exact ⟨none,0,by rw[h0]⟩
 ·exact ⟨_,_,rfl⟩
theorem own_cell {w:World} {B n:Nat} {e:TypeId} {ao:Option Addr} {cap:Nat} {xs:List Value} (h:w.ownsRow B e 1 (.slice ao n cap) n xs) {i:Nat} (hi:i<n):∃g,ao=some ⟨g,0,none⟩∧B≤g∧g<w.heap.size∧∀j u,xs[j]?=some u→w.cell? ⟨g,j,none⟩=some u:=by
 rcases h.2 with ⟨hv,h0⟩ | ⟨g,cap',cur,hv,hb,hg,_⟩
 ·omega
 ·injection hv with ha _ _;refine ⟨g,ha,hb,(Array.getElem?_eq_some_iff.1 hg).1,fun j u hu=>?_⟩;have:=h.cells (g:=g) (by rw[ha];rfl) j u hu;have hadd:(⟨g,0,none⟩:Addr).add j=⟨g,j,none⟩:=by unfold Addr.add;split <;> simp_all
  rwa [hadd] at this
theorem own_cells_kept {w w':World} {B n m:Nat} {e:TypeId} {v:Value} {xs:List Value} {row:Option Nat} (h:w.ownsRow B e m v n xs) (hg:w.grownBy w' row) (hr:∀r,row=some r→∃o:Obj,w.heap[r]?=some o∧(∀c t fz,o≠.cells c t fz)):w'.ownsRow B e m v n xs:=by
 refine h.kept hg ?_
 rcases h.2 with ⟨rfl,_⟩ | ⟨g,cap,cur,rfl,_,hh,_⟩
 ·exact .inl rfl
 ·refine .inr (fun e=>?_);obtain ⟨o,ho,hc⟩:=hr g e.symm;rw[hh] at ho;exact hc _ _ _ (Option.some.inj ho).symm
theorem own_setCell_ne {w:World} {B n m:Nat} {e:TypeId} {v:Value} {xs:List Value} (h:w.ownsRow B e m v n xs) {a:Addr} (ha:v.ownBlock≠some a.block) (u:Value):(w.setCell a u).ownsRow B e m v n xs:=by
 refine h.kept (row:=some a.block) ⟨rfl,rfl,rfl,by simp[World.setCell],fun k _ hk=>Below.heap_setCell _ _ _ _ (fun e=>hk (by rw[e]))⟩ (.inr ha)
end Go.Proofs.YtigfcihakghddaaGreatDoor.Owned
end
section
namespace Go.Proofs.YtigfcihakghddaaGreatDoor.Tree
open Go.RowKit Go.WideShapes Go.ChangeShapes Words
inductive T where
 | lit (v:Value)
 | arr (s n:Nat) (xs:List T)
def Cells (w:World) (ad:Addr) (l:List Value):Prop:=∀j u,l[j]?=some u→w.cell? (ad.add j)=some u
mutual
def T.At (sent:Nat→List (List Value)) (w:World) (S:Nat→Prop):T→Value→Prop
 | .lit u,v=>v=u
 | .arr s n xs,v=>∃A cap vs,v = .slice A n cap∧n+(sent s).length≤cap∧cap≤maxLen∧xs.length=n*s∧
  (0<n+(sent s).length→∃ad,A=some ad∧S ad.block∧Cells w ad (vs++(sent s).flatten))∧T.AtL sent w S xs vs
def T.AtL (sent:Nat→List (List Value)) (w:World) (S:Nat→Prop):List T→List Value→Prop
 | [],[]=>True
 | t::ts,v::vs=>T.At sent w S t v∧T.AtL sent w S ts vs
 | [],_::_=>False
 | _::_,[]=>False
end
def bare:Nat→List (List Value):=fun _=>[]
section
variable {sent:Nat→List (List Value)} {w w':World} {S S':Nat→Prop}
mutual
theorem At.keep (hk:∀p:Addr,S p.block→w'.cell? p=w.cell? p) (hS:∀g,S g→S' g):∀{t:T} {v:Value},T.At sent w S t v→T.At sent w' S' t v
 | .lit u,v,h=>by simpa only[T.At] using h
 | .arr s n xs,v,h=>by simp only[T.At] at h ⊢;obtain ⟨A,cap,vs,hv,hc,hm,hl,ha,hx⟩:=h;refine ⟨A,cap,vs,hv,hc,hm,hl,fun hn=>?_,AtL.keep hk hS hx⟩;obtain ⟨ad,e,hs,hcs⟩:=ha hn;exact ⟨ad,e,hS _ hs,fun j u hu=>(hk _ (by rw[block_of_add];exact hs)).trans (hcs j u hu)⟩
theorem AtL.keep (hk:∀p:Addr,S p.block→w'.cell? p=w.cell? p) (hS:∀g,S g→S' g):∀{ts:List T} {vs:List Value},T.AtL sent w S ts vs→T.AtL sent w' S' ts vs
 | [],[],_=>by simp only[T.AtL]
 | t::ts,v::vs,h=>by simp only[T.AtL] at h ⊢;exact ⟨At.keep hk hS h.1,AtL.keep hk hS h.2⟩
 | [],_::_,h=>by simp only[T.AtL] at h
 | _::_,[],h=>by simp only[T.AtL] at h
end
theorem At.below {B:Nat} {t:T} {v:Value} (h:T.At sent w (fun g=>g<B) t v) (hb:Below B w w') (hS:∀g,g<B→S' g):T.At sent w' S' t v:=At.keep (fun _ hp=>hb.cell hp) hS h
theorem AtL.length:∀{ts:List T} {vs:List Value},T.AtL sent w S ts vs→vs.length=ts.length
 | [],[],_=>rfl
 | t::ts,v::vs,h=>by simp only[T.AtL] at h;rw[List.length_cons,List.length_cons,AtL.length h.2]
 | [],_::_,h=>by simp only[T.AtL] at h
 | _::_,[],h=>by simp only[T.AtL] at h
theorem AtL.append:∀{ts us:List T} {vs ws:List Value},T.AtL sent w S ts vs→T.AtL sent w S us ws→T.AtL sent w S (ts++us) (vs++ws)
 | [],us,[],ws,_,h=>h
 | t::ts,us,v::vs,ws,h,h'=>by simp only[T.AtL,List.cons_append] at h ⊢;exact ⟨h.1,AtL.append h.2 h'⟩
 | [],_,_::_,_,h,_=>by simp only[T.AtL] at h
 | _::_,_,[],_,h,_=>by simp only[T.AtL] at h
theorem AtL.split:∀{ts us:List T} {vs:List Value},T.AtL sent w S (ts++us) vs→T.AtL sent w S ts (vs.take ts.length)∧T.AtL sent w S us (vs.drop ts.length)
 | [],us,vs,h=>by simpa [T.AtL] using h
 | t::ts,us,v::vs,h=>by simp only[T.AtL,List.cons_append] at h;obtain ⟨h1,h2⟩:=AtL.split h.2;simp only[List.length_cons,List.take_succ_cons,List.drop_succ_cons,T.AtL];exact ⟨⟨h.1,h1⟩,h2⟩
 | t::ts,us,[],h=>by simp only[T.AtL,List.cons_append] at h
theorem AtL.nil_ {vs:List Value} (h:T.AtL sent w S [] vs):vs=[]:=by cases vs <;> simp_all [T.AtL]
theorem AtL.cons_ {t:T} {ts:List T} {vs:List Value} (h:T.AtL sent w S (t::ts) vs):∃v us,vs=v::us∧T.At sent w S t v∧T.AtL sent w S ts us:=by
 cases vs with
 | nil=>simp only[T.AtL] at h
 | cons v us=>simp only[T.AtL] at h;exact ⟨v,us,rfl,h⟩
theorem AtL.lits {α:Type} {f:α→Value}:∀{l:List α} {vs:List Value},T.AtL sent w S (l.map fun z=>.lit (f z)) vs→vs=l.map f
 | [],vs,h=>AtL.nil_ h
 | z::l,vs,h=>by obtain ⟨v,us,rfl,hv,hus⟩:=AtL.cons_ h;simp only[T.At] at hv;rw[hv,AtL.lits hus];rfl
theorem AtL.of_lits {α:Type} {f:α→Value}:∀{l:List α},T.AtL sent w S (l.map fun z=>.lit (f z)) (l.map f)
 | []=>by simp only[List.map_nil,T.AtL]
 | z::l=>by simp only[List.map_cons,T.AtL,T.At,true_and];exact AtL.of_lits
mutual
theorem At.bare:∀{t:T} {v:Value},T.At sent w S t v→T.At bare w S t v
 | .lit u,v,h=>by simpa only[T.At] using h
 | .arr s n xs,v,h=>by simp only[T.At] at h ⊢;obtain ⟨A,cap,vs,hv,hc,hm,hl,ha,hx⟩:=h;refine ⟨A,cap,vs,hv,by simp only[Tree.bare,List.length_nil];omega,hm,hl,fun hn=>?_,AtL.bare hx⟩;obtain ⟨ad,e,hs,hcs⟩:=ha (by simp only[Tree.bare,List.length_nil] at hn;omega);refine ⟨ad,e,hs,fun j u hu=>hcs j u ?_⟩;simp only[Tree.bare,List.flatten_nil,List.append_nil] at hu;rw[List.getElem?_append_left (List.getElem?_eq_some_iff.1 hu).1];exact hu
theorem AtL.bare:∀{ts:List T} {vs:List Value},T.AtL sent w S ts vs→T.AtL bare w S ts vs
 | [],[],_=>by simp only[T.AtL]
 | t::ts,v::vs,h=>by simp only[T.AtL] at h ⊢;exact ⟨At.bare h.1,AtL.bare h.2⟩
 | [],_::_,h=>by simp only[T.AtL] at h
 | _::_,[],h=>by simp only[T.AtL] at h
end
theorem flatMap_len {X:Type} (f:X→List T) {k:Nat} (hf:∀x,(f x).length=k):∀xs:List X,(xs.flatMap f).length=xs.length*k
 | []=>by simp
 | x::xs=>by rw[List.flatMap_cons,List.length_append,hf,flatMap_len f hf xs,List.length_cons,Nat.succ_mul];omega
theorem AtL.elem {X:Type} {f:X→List T} {k:Nat} (hf:∀x,(f x).length=k):∀{xs:List X} {vs:List Value},T.AtL sent w S (xs.flatMap f) vs→∀(i:Nat) (h:i<xs.length),
 ∃us,us.length=k∧T.AtL sent w S (f xs[i]) us∧∀j,j<k→vs[i*k+j]?=us[j]?
 | [],vs,_,i,h=>absurd h (by simp)
 | x::xs,vs,ht,0,h=>by rw[List.flatMap_cons] at ht;obtain ⟨h1,h2⟩:=AtL.split ht;refine ⟨_,by rw[AtL.length h1,hf],h1,fun j hj=>?_⟩;rw[Nat.zero_mul,Nat.zero_add,List.getElem?_take_of_lt (by rw[hf];exact hj)]
 | x::xs,vs,ht,i+1,h=>by
  rw[List.flatMap_cons] at ht;obtain ⟨h1,h2⟩:=AtL.split ht;obtain ⟨us,hl,hu,hj⟩:=AtL.elem hf h2 i (by simpa using h);refine ⟨us,hl,hu,fun j hjk=>?_⟩;rw[←hj j hjk,List.getElem?_drop,hf];congr 1
  rw[Nat.succ_mul];omega
theorem Cells.left {ad:Addr} {l m:List Value} (h:Cells w ad (l++m)):Cells w ad l:=fun j u hu=>h j u (by rw[List.getElem?_append_left (List.getElem?_eq_some_iff.1 hu).1];exact hu)
theorem Cells.elem {ad:Addr} {vs us:List Value} {i k:Nat} (h:Cells w ad vs) (hj:∀j,j<k→vs[i*k+j]?=us[j]?) (hl:us.length=k):Cells w (ad.add (i*k)) us:=fun j u hu=>by
 rw[add_of_add];exact h _ u ((hj j (by have:=(List.getElem?_eq_some_iff.1 hu).1;omega)).trans hu)
theorem Cells.keep {ad:Addr} {l:List Value} (h:Cells w ad l) (hk:∀p:Addr,p.block=ad.block→w'.cell? p=w.cell? p):Cells w' ad l:=fun j u hu=>(hk _ (by rw[block_of_add])).trans (h j u hu)
theorem Cells.zero {ad:Addr} {u:Value} {l:List Value} (h:Cells w ad (u::l)):w.cell? ad=some u:=by have:=h 0 u rfl;simpa [Addr.add] using this
theorem Cells.at_ {ad:Addr} {l:List Value} (h:Cells w ad l) (j:Nat) (u:Value) (hj:l[j]?=some u) (h0:0<j):w.cell? ⟨ad.block,ad.off+j,none⟩=some u:=by
 have:=h j u hj;unfold Addr.add at this;rwa [if_neg (by omega)] at this
theorem At.reads {B s n:Nat} {xs:List T} {v:Value} (h:T.At sent w (fun g=>g<B) (.arr s n xs) v) :
 ∃A cap vs,v = .slice A n cap∧n≤cap∧cap≤maxLen∧Reads w B s A n vs∧T.AtL sent w (fun g=>g<B) xs vs:=by
 simp only[T.At] at h;obtain ⟨A,cap,vs,hv,hc,hm,hl,ha,hx⟩:=h;refine ⟨A,cap,vs,hv,by omega,hm,⟨by rw[AtL.length hx,hl],fun hn=>?_⟩,hx⟩;obtain ⟨ad,e,hs,hcs⟩:=ha (by omega);exact ⟨ad,e,hs,hcs.left⟩
end
section
variable {X α:Type} {f:X→List α} {k:Nat}
theorem flat_len (hf:∀x,(f x).length=k):∀xs:List X,(xs.flatMap f).length=xs.length*k
 | []=>by simp
 | x::xs=>by rw[List.flatMap_cons,List.length_append,hf,flat_len hf xs,List.length_cons,Nat.succ_mul];omega
theorem flat_get (hf:∀x,(f x).length=k):∀(xs:List X) (i:Nat) (h:i<xs.length) (j:Nat),j<k→(xs.flatMap f)[i*k+j]?=(f xs[i])[j]?
 | [],_,h,_,_=>absurd h (by simp)
 | x::xs,0,h,j,hj=>by rw[List.flatMap_cons,Nat.zero_mul,Nat.zero_add,List.getElem?_append_left (by rw[hf];exact hj)];rfl
 | x::xs,i+1,h,j,hj=>by rw[List.flatMap_cons,List.getElem?_append_right (by rw[hf,Nat.succ_mul];omega),hf,show (i+1)*k+j - k=i*k+j by rw[Nat.succ_mul];omega];exact flat_get hf xs i (by simpa using h) j hj
theorem reads_elem {f:X→List Value} (hf:∀x,(f x).length=k) {w:World} {B n:Nat} {A:Option Addr} {xs:List X} (h:Reads w B k A n (xs.flatMap f)) (hn:n=xs.length) {i:Nat} (hi:i<xs.length) :
 ∃ad,A=some ad∧ad.block<B∧Cells w (ad.add (i*k)) (f xs[i]):=by
 obtain ⟨ad,ha,hb,hc⟩:=h.2 (by omega);refine ⟨ad,ha,hb,fun j u hu=>?_⟩;have hj:j<k:=by have:=(List.getElem?_eq_some_iff.1 hu).1;rw[hf] at this;exact this
 rw[add_of_add];exact hc _ u ((flat_get hf xs i hi j hj).trans hu)
end
end Go.Proofs.YtigfcihakghddaaGreatDoor.Tree
end
section
namespace Go.Proofs.YtigfcihakghddaaGreatDoor.Tree
open Go.RowKit Go.WideShapes Go.ChangeShapes Words
section
variable {P:Program} {t e:TypeId} {ts:List T}
end
section
variable {P:Program} {w:World}
variable {H:Type} {enc:TypeId × Value→H}
end
end Go.Proofs.YtigfcihakghddaaGreatDoor.Tree
end
section
namespace Go.Proofs.YtigfcihakghddaaGreatDoor.Tree
open Go.RowKit Go.WideShapes Go.ChangeShapes Words Owned
def numsT (k:IntKind) (l:List Int):T:=.arr 1 l.length (l.map fun z=>.lit (.int k z))
def rowT {X:Type} (s:Nat) (f:X→List T) (xs:List X):T:=.arr s xs.length (xs.flatMap f)
section
variable {sent:Nat→List (List Value)} {w:World} {S:Nat→Prop} {X:Type} {f:X→List T} {s:Nat}
theorem at_nums {B:Nat} {k:IntKind} {l:List Int} {v:Value} (h:T.At sent w (fun g=>g<B) (numsT k l) v):∃A cap,v = .slice A l.length cap∧l.length≤cap∧cap≤maxLen∧Reads w B 1 A l.length (l.map (Value.int k)):=by
 obtain ⟨A,cap,vs,hv,h1,h2,h3,h4⟩:=At.reads h;obtain rfl:=AtL.lits h4;exact ⟨A,cap,hv,h1,h2,h3⟩
theorem at_slice {n:Nat} {xs:List T} {v:Value} (h:T.At sent w S (.arr s n xs) v):∃A cap,v = .slice A n cap∧n+(sent s).length≤cap∧cap≤maxLen:=by
 simp only[T.At] at h;obtain ⟨A,cap,_,hv,h1,h2,_⟩:=h;exact ⟨A,cap,hv,h1,h2⟩
theorem at_row (hf:∀x,(f x).length=s) {xs:List X} {v:Value} (h:T.At sent w S (rowT s f xs) v) :
 ∃A cap,v = .slice A xs.length cap∧xs.length+(sent s).length≤cap∧cap≤maxLen∧∀(i:Nat) (hi:i<xs.length),∃ad us,A=some ad∧S ad.block∧T.AtL sent w S (f xs[i]) us∧us.length=s∧Cells w (ad.add (i*s)) us:=by
 simp only[rowT,T.At] at h;obtain ⟨A,cap,vs,hv,hc,hm,hl,ha,hx⟩:=h;refine ⟨A,cap,hv,hc,hm,fun i hi=>?_⟩;obtain ⟨ad,e,hs,hcs⟩:=ha (by omega);obtain ⟨us,hul,hus,hj⟩:=AtL.elem hf hx i hi;exact ⟨ad,us,e,hs,hus,hul,(hcs.left).elem hj hul⟩
end
section
variable {P:Program}
end
end Go.Proofs.YtigfcihakghddaaGreatDoor.Tree
end
section
namespace Go.Proofs.YtigfcihakghddaaGreatDoor.Tree
open Go.RowKit Go.WideShapes Go.ChangeShapes Words Owned
def CellsAt (w:World) (g:Nat):Prop:=∃c t fz,w.heap[g]?=some (.cells c t fz)
theorem CellsAt.lt {w:World} {g:Nat} (h:CellsAt w g):g<w.heap.size:=by obtain ⟨c,t,fz,h⟩:=h;exact (Array.getElem?_eq_some_iff.1 h).1
theorem CellsAt.of {w w':World} {g:Nat} (h:CellsAt w g) (e:w'.heap[g]?=w.heap[g]?):CellsAt w' g:=by obtain ⟨c,t,fz,h⟩:=h;exact ⟨c,t,fz,e.trans h⟩
theorem CellsAt.below {w w':World} {g B:Nat} (h:CellsAt w g) (hb:Below B w w') (hg:g<B):CellsAt w' g:=h.of (hb.block g hg)
section
variable {sent:Nat→List (List Value)} {X:Type} {f:X→List T} {s:Nat} {et:TypeId} {box:Option Nat} {N:Nat}
theorem nums_cells {w':World} {B:Nat} {e:TypeId} {k:IntKind} {v:Value} {l:List Int} (h:w'.ownsRow B e 1 v l.length (l.map (Value.int k))):T.At bare w' (fun g=>B≤g∧CellsAt w' g) (numsT k l) v:=by
 simp only[numsT,T.At]
 rcases h.2 with ⟨rfl,h0⟩ | ⟨g,cap,cur,rfl,hB,hgg,hn,hm,hcs,ht⟩
 ·refine ⟨none,0,l.map (Value.int k),by rw[h0],by simp[bare,h0],by unfold maxLen;omega,by simp,fun hlt=>?_,AtL.of_lits⟩;simp[bare,h0] at hlt
 ·refine ⟨_,cap,l.map (Value.int k),rfl,by simpa [bare] using hn,hm,by simp,fun _=>⟨_,rfl,⟨hB,_,_,_,hgg⟩,?_⟩,AtL.of_lits⟩;have:=h.cells (g:=g) rfl;simpa [bare,Cells] using this
theorem own_empty (w:World) (B:Nat) (e:TypeId) (size:Nat) (hB:B≤w.heap.size):(w.alloc (.cells #[] e)).ownsRow B e size (.slice (some ⟨w.heap.size,0,none⟩) 0 0) 0 []:=
 ⟨by simp,.inr ⟨w.heap.size,0,#[],rfl,hB,heap_alloc_new w _,Nat.le_refl _,by unfold maxLen;omega,by simp,by simp⟩⟩
end
end Go.Proofs.YtigfcihakghddaaGreatDoor.Tree
end
section
namespace Go.Proofs.YtigfcihakghddaaGreatDoor.Tree
open Go.RowKit Go.WideShapes Go.ChangeShapes Words Owned
structure But (N:Nat→Prop) (w w':World):Prop where
 os:w'.os=w.os
 tape:w'.tape=w.tape
 output:w'.output=w.output
 size:w.heap.size≤w'.heap.size
 block:∀g,g<w.heap.size→¬N g→w'.heap[g]?=w.heap[g]?
section
variable {N N':Nat→Prop} {w w' w'':World}
theorem But.of_below (h:Below w.heap.size w w'):But N w w':=⟨h.os,h.tape,h.output,h.size,fun g hg _=>h.block g hg⟩
theorem But.refl (N:Nat→Prop) (w:World):But N w w:=But.of_below (Below.refl _ _)
theorem But.trans (h:But N w w') (k:But N w' w''):But N w w'':=⟨k.os.trans h.os,k.tape.trans h.tape,k.output.trans h.output,Nat.le_trans h.size k.size,fun g hg hn=>(k.block g (Nat.lt_of_lt_of_le hg h.size) hn).trans (h.block g hg hn)⟩
theorem But.mono (h:But N w w') (hN:∀g,N g→N' g):But N' w w':=⟨h.os,h.tape,h.output,h.size,fun g hg hn=>h.block g hg fun hg'=>hn (hN g hg')⟩
theorem But.below {B:Nat} (h:But N w w') (hB:B≤w.heap.size) (hN:∀g,g<B→¬N g):Below B w w':=⟨h.os,h.tape,h.output,h.size,fun g hg=>h.block g (by omega) (hN g hg)⟩
theorem But.grown {row:Option Nat} (h:w.grownBy w' row) (hr:∀r,row=some r→N r):But N w w':=⟨h.os,h.tape,h.output,h.size,fun g hg hn=>h.block g hg (fun e=>hn (hr g e.symm))⟩
theorem But.alloc (h:But N w w') (o:Obj):But N w (w'.alloc o):=h.trans (But.of_below ((Below.refl _ _).alloc (Nat.le_refl _) _))
theorem But.set (h:But N w w') {p:Addr} (hp:N p.block∨w.heap.size≤p.block) (u:Value):But N w (w'.setCell p u):=
 ⟨h.os,h.tape,h.output,by simpa [World.setCell] using h.size,fun g hg hn=>(Below.heap_setCell w' p u g (by rintro rfl;rcases hp with hp | hp;exact hn hp;omega)).trans (h.block g hg hn)⟩
theorem But.more (h:But N w w') (k:But N' w' w'') (hN:∀g,N' g→N g∨w.heap.size≤g):But N w w'':=
 ⟨k.os.trans h.os,k.tape.trans h.tape,k.output.trans h.output,Nat.le_trans h.size k.size,fun g hg hn=>(k.block g (Nat.lt_of_lt_of_le hg h.size) (fun h'=>(hN g h').elim hn (fun h''=>by omega))).trans (h.block g hg hn)⟩
theorem But.blk {g:Nat} {t:TypeId} {cs:Array Value} (h:But N w w') (hb:Blk w g t cs) (hn:¬N g):Blk w' g t cs:=(h.block g hb.lt hn).trans hb
theorem But.cell (h:But N w w') {p:Addr} (hp:p.block<w.heap.size) (hn:¬N p.block):w'.cell? p=w.cell? p:=World.cell?_of_block (h.block p.block hp hn)
end
end Go.Proofs.YtigfcihakghddaaGreatDoor.Tree
end
section
namespace Go.Proofs.YtigfcihakghddaaGreatDoor.HeldU
open Go
section
variable {P:Program} {ops:Array Oper} {Q:Exit→Act→World→Prop} {md:Region.Mode} {S:World→Prop} {m:Array Bool}
def wpAnyU (P:Program) (md:Region.Mode) (ops:Array Oper) (Q:Exit→Act→World→Prop) (S:World→Prop) (m:Array Bool):Nat→Array Bool→Act→World→Prop
 | 0,listed,a,w=>Region.ready md ops listed=[]∧Q .normal a w
 | fuel+1,listed,a,w=>if listed=m then wpAny P md ops Q (fuel+1) listed a w else
  (Region.ready md ops listed=[]→Q .normal a w)∧
  ∀i∈Region.ready md ops listed,wpOp P ops Q i (fun a' w'=>S w'∧wpAnyU P md ops Q S m fuel (listed.setIfInBounds i true) a' w') a w
theorem wpAny_of_until:∀(fuel:Nat) (listed:Array Bool) (a:Act) (w:World),wpAnyU P md ops Q S m fuel listed a w→wpAny P md ops Q fuel listed a w
 | 0,_,_,_,h=>h
 | fuel+1,listed,a,w,h=>by
  rw[wpAnyU] at h;split at h
  ·exact h
  ·exact ⟨h.1,fun i hi=>wpOp_mono (fun a' w' h'=>wpAny_of_until fuel _ a' w' h'.2) (h.2 i hi)⟩
def subB (listed m:Array Bool):Bool:=listed.size == m.size && (List.range m.size).all fun j=>!listed.getD j true || m.getD j true
theorem sub_of {listed:Array Bool} (h:subB listed m=true):listed.size=m.size∧∀j,j<m.size→listed.getD j true=true→m.getD j true=true:=by
 unfold subB at h;rw[Bool.and_eq_true,beq_iff_eq,List.all_eq_true] at h;refine ⟨h.1,fun j hj hl=>?_⟩;have:=h.2 j (List.mem_range.2 hj);rw[hl] at this;simpa using this
theorem getD_lt {l:Array Bool} {j:Nat} (h:j<l.size) (d d':Bool):l.getD j d=l.getD j d':=by simp[Array.getD,h]
theorem getD_set_off {l:Array Bool} {i j:Nat} (h:j≠i) (u d:Bool):(l.setIfInBounds i u).getD j d=l.getD j d:=by
 rw[Array.getD_eq_getD_getElem?,Array.getD_eq_getD_getElem?,Array.getElem?_setIfInBounds_ne (Ne.symm h)]
theorem ready_sub {listed:Array Bool} {i j:Nat} (hs:listed.size=m.size) (hsub:∀j,j<m.size→listed.getD j true=true→m.getD j true=true) (him:m.getD i false=true) (hck:∀j∈Region.ready md ops (m.setIfInBounds i false),j=i)
 (hi:listed.getD i true=false) (hj:j∈Region.ready md ops listed) (hji:j≠i):j<m.size∧m.getD j true=true:=by
 rw[mem_ready] at hj;obtain ⟨h0,o,ho,hall⟩:=hj
 have hjs:j<m.size:=by
  rcases Nat.lt_or_ge j listed.size with h | h
  ·omega
  ·simp[Array.getD,Nat.not_lt.2 h] at h0
 refine ⟨hjs,?_⟩
 cases hm:m.getD j true with
 | true=>rfl
 | false=>
  refine absurd (hck j ?_) hji;rw[mem_ready];refine ⟨by rw[getD_set_off hji];exact hm,o,ho,fun e he hb=>?_⟩;have h1:=hall e he hb
  have hne:e.on≠i:=fun h=>by
   rw[h] at h1
   have his:i<listed.size:=by
    rcases Nat.lt_or_ge i listed.size with h | h
    ·exact h
    ·simp[Array.getD,Nat.not_lt.2 h] at hi
   rw[getD_lt his false true,hi] at h1;cases h1
  rw[getD_set_off hne]
  have hes:e.on<listed.size:=by
   rcases Nat.lt_or_ge e.on listed.size with h | h
   ·exact h
   ·simp[Array.getD,Nat.not_lt.2 h] at h1
  rw[getD_lt (by omega:e.on<m.size) false true];exact hsub _ (by omega) (by rw[getD_lt hes true false];exact h1)
theorem wpAnyU_first {i:Nat} {oi:Oper} {v:Value} (hi:ops[i]?=some oi) (hsel:∀(j:Nat) (o:Oper) cs b,ops[j]?=some o→o.op≠.select cs b)
 (hQ:∀c a w,Q (.panic c) (a.put oi.dst v) w→Q (.panic c) a w) (him:m.getD i false=true) (hck:∀j∈Region.ready md ops (m.setIfInBounds i false),j=i) :
 ∀(fuel:Nat) (listed:Array Bool) (a:Act) (w:World),
  (∀j oj,ops[j]?=some oj→j≠i→listed.getD j true=false→(∀e∈oj.after,Region.binds md e=true→e.on≠i)→oi.apart ops oj=true)→
  listed.size=m.size→(∀j,j<m.size→listed.getD j true=true→m.getD j true=true)→
  i∈Region.ready md ops listed→YieldsIf P ops S oi v a→S w→
  wpAnyU P md ops Q S m fuel (listed.setIfInBounds i true) (a.put oi.dst v) w→wpAnyU P md ops Q S m (fuel+1) listed a w:=by
 have hne:∀{listed:Array Bool},i∈Region.ready md ops listed→¬listed=m:=fun hr e=>by
  have h0:=(mem_ready.1 hr).1;rw[e] at h0
  have his:i<m.size:=by
   rcases Nat.lt_or_ge i m.size with h | h
   ·exact h
   ·simp[Array.getD,Nat.not_lt.2 h] at him
  rw[getD_lt his true false,him] at h0;cases h0
 intro fuel
 induction fuel with
 | zero=>
  intro listed a w _ _ _ hr hy hS H;rw[wpAnyU,if_neg (hne hr)];refine ⟨fun h=>(by rw[h] at hr;cases hr),fun j hj=>?_⟩;by_cases hji:j=i
  ·subst hji;exact hy.wpOp hi hS ⟨hS,H⟩
  ·have:=ready_mono hj hji;rw[H.1] at this;cases this
 | succ fuel ih=>
  intro listed a w hfree hs hsub hr hy hS H;rw[wpAnyU,if_neg (hne hr)];refine ⟨fun h=>(by rw[h] at hr;cases hr),fun j hj=>?_⟩;by_cases hji:j=i
  ·subst hji;exact hy.wpOp hi hS ⟨hS,H⟩
  ·have h0i:=(mem_ready.1 hr).1;obtain ⟨hjs,hjm⟩:=ready_sub hs hsub him hck h0i hj hji;rw[wpAnyU] at H;split at H
   ·rename_i hm
    exfalso;have h1:=(mem_ready.1 hj).1;have:(listed.setIfInBounds i true).getD j true=true:=by rw[hm];exact hjm
    rw[getD_set_ne true (Ne.symm hji),h1] at this;cases this
   ·have h1:=H.2 j (ready_mono hj hji);obtain ⟨hjun,oj,hoj,hall⟩:=mem_ready.1 hj
    have hnot:∀e∈oj.after,Region.binds md e=true→e.on≠i:=fun e he hb heq=>by
     have h1:=hall e he hb;have h0:=h0i;rw[heq] at h1;rcases Nat.lt_or_ge i listed.size with h' | h'
     ·rw[getD_lt h' false true,h0] at h1;cases h1
     ·simp[Array.getD,Nat.not_lt.2 h'] at h1
    have h2:=wpOp_putIf hoj (hfree j oj hoj hji hjun hnot) (fun cs b=>hsel i oi cs b hi) (fun cs b=>hsel j oj cs b hoj) hQ hy h1
    have hfree':∀k ok,ops[k]?=some ok→k≠i→(listed.setIfInBounds j true).getD k true=false→
     (∀e∈ok.after,Region.binds md e=true→e.on≠i)→oi.apart ops ok=true:=fun k ok hk hki hun hno=>by
     refine hfree k ok hk hki ?_ hno;by_cases hjk:j=k
     ·subst hjk;exact hjun
     ·rw[getD_set_ne true hjk] at hun;exact hun
    refine wpOp_mono (fun a' w' h3=>⟨h3.2.1,ih (listed.setIfInBounds j true) a' w' hfree' (by simpa using hs) (fun k hk hl=>?_) (ready_mono hr (Ne.symm hji)) h3.1 h3.2.1 ?_⟩) h2
    ·by_cases hjk:j=k
     ·subst hjk;exact hjm
     ·rw[getD_set_ne true hjk] at hl;exact hsub k hk hl
    ·rw[Array.setIfInBounds_comm _ _ hji];exact h3.2.2
theorem wpAnyU_take {i:Nat} {oi:Oper} {v:Value} {fuel:Nat} {listed:Array Bool} {a:Act} {w:World} (hi:ops[i]?=some oi)
 (hs:Region.noSelect ops=true) (hf:Region.free md ops listed i=true) (hr:(Region.ready md ops listed).contains i=true)
 (hc:(m.getD i false && (Region.ready md ops (m.setIfInBounds i false)).all (fun j=>j == i) && subB listed m)=true)
 (hQ:∀c a w,Q (.panic c) (a.put oi.dst v) w→Q (.panic c) a w) (hy:YieldsIf P ops S oi v a) (hS:S w)
 (h:wpAnyU P md ops Q S m fuel (listed.setIfInBounds i true) (a.put oi.dst v) w):wpAnyU P md ops Q S m (fuel+1) listed a w:=by
 rw[Bool.and_eq_true,Bool.and_eq_true,List.all_eq_true] at hc;obtain ⟨⟨h1,h2⟩,h3⟩:=hc;obtain ⟨h4,h5⟩:=sub_of h3;exact wpAnyU_first hi (Region.noSelect_spec hs) hQ h1 (fun j hj=>by simpa using h2 j hj) fuel listed a w (Region.free_spec hi hf) h4 h5 (by simpa using hr) hy hS h
theorem tkU {oi:Oper} {v:Value} {fuel:Nat} {listed:Array Bool} {a:Act} {w:World} (i:Nat) (hi:ops[i]?=some oi)
 (hk:(Region.noSelect ops && Region.free md ops listed i && (Region.ready md ops listed).contains i && (m.getD i false && (Region.ready md ops (m.setIfInBounds i false)).all (fun j=>j == i) && subB listed m))=true)
 (hQ:∀c a w,Q (.panic c) (a.put oi.dst v) w→Q (.panic c) a w) (hw:Region.wanted oi (yielded ops a.tmps)=true) (hS:S w) (hy:∀w,S w→(execOp a.eval oi).run P w = .ok (.value v) w)
 (h:wpAnyU P md ops Q S m fuel (listed.setIfInBounds i true) (a.put oi.dst v) w):wpAnyU P md ops Q S m (fuel+1) listed a w:=by
 rw[Bool.and_eq_true,Bool.and_eq_true,Bool.and_eq_true] at hk;exact wpAnyU_take hi hk.1.1.1 hk.1.1.2 hk.1.2 hk.2 hQ (.inl ⟨hw,hy⟩) hS h
theorem wpAnyU_one {i:Nat} {o:Oper} {fuel:Nat} {listed:Array Bool} {a:Act} {w:World} (hr:Region.ready md ops listed=[i]) (hm:(listed == m)=false) (ho:ops[i]?=some o)
 (h:∀K':Act→World→Prop,Shut (∀a w,S w→(S w→wpAnyU P md ops Q S m fuel (listed.setIfInBounds i true) a w)→K' a w)→if Region.wanted o (yielded ops a.tmps)=true then Oper.wp P o a w K' Q else K' (a.put o.dst undef) w) :
 wpAnyU P md ops Q S m (fuel+1) listed a w:=by
 rw[wpAnyU,if_neg (by simpa using hm)];refine ⟨fun h0=>(by rw[hr] at h0;cases h0),fun j hj=>?_⟩;rw[hr,List.mem_singleton] at hj;subst hj;exact wpOp_step ho (fun K' hK=>h K' (fun a w hS hW=>hK a w ⟨hS,hW hS⟩))
theorem wpAnyU_off {fuel:Nat} {listed:Array Bool} {a:Act} {w:World} (hm:(listed == m)=true) (h:wpAnyH P md ops Q (fun _=>True) (fuel+1) listed a w):wpAnyU P md ops Q S m (fuel+1) listed a w:=by
 rw[wpAnyU,if_pos (by simpa using hm)];exact wpAny_of_held _ _ _ _ h
theorem wp_region_until {id:Nat} {a:Act} {w:World} (m:Array Bool) (S:World→Prop) (hm:P.follows .mixedOrders=true) (hS:S w.drew)
 (h:S w.drew→wpAnyU P .any ops Q S m ops.size (Array.replicate ops.size false) a w.drew):(Code.region id ops true).wp P Q a w:=
 wp_region_any hm (wpAny_of_until _ _ _ _ (h hS))
end
end Go.Proofs.YtigfcihakghddaaGreatDoor.HeldU
end
