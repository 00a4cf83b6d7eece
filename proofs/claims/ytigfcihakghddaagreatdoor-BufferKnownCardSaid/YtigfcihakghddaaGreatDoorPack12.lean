/- Lemmas that the last text leans on. -/
import Derived.Test.YtigfcihakghddaaGreatDoorTake
import Derived.Test.YtigfcihakghddaaGreatDoorPack4
import Derived.Test.YtigfcihakghddaaGreatDoorPack11
import Derived.Test.YtigfcihakghddaaGreatDoorPack7
set_option linter.all false
set_option maxRecDepth 100000
section
namespace Go.Proofs.YtigfcihakghddaaGreatDoor.Tree
open Go.RowKit Go.WideShapes Go.ChangeShapes Words Owned
structure NumsIn (e:TypeId) (k:IntKind) (lo hi:Nat) (w:World) (l:List Int) (v:Value):Prop where
 own:w.ownsRow lo e 1 v l.length (l.map (Value.int k))
 lt:∀g,v.ownBlock=some g→g<hi
section
variable {e:TypeId} {k:IntKind} {lo hi:Nat} {w w':World} {l:List Int} {v:Value}
theorem NumsIn.none_:NumsIn e k lo hi w [] (.slice none 0 0):=⟨World.ownsRow_nil _ _ _ _,fun g h=>by cases h⟩
theorem NumsIn.keep (h:NumsIn e k lo hi w l v) (hk:∀g,lo≤g→g<hi→v.ownBlock=some g→w'.heap[g]?=w.heap[g]?):NumsIn e k lo hi w' l v:=
 ⟨⟨h.own.1,h.own.2.elim .inl fun ⟨g,cap,cur,hv,h1,h2,h3⟩=>.inr ⟨g,cap,cur,hv,h1,(hk g h1 (h.lt g (by rw[hv];rfl)) (by rw[hv];rfl)).trans h2,h3⟩⟩,h.lt⟩
theorem NumsIn.below {B:Nat} (h:NumsIn e k lo hi w l v) (hb:Below B w w') (hB:hi≤B):NumsIn e k lo hi w' l v:=h.keep fun g _ h2 _=>hb.block g (by omega)
theorem NumsIn.grown {row:Option Nat} (h:NumsIn e k lo hi w l v) (hg:w.grownBy w' row) (hr:v.ownBlock=Option.none∨v.ownBlock≠row):NumsIn e k lo hi w' l v:=
 h.keep fun g _ _ hv=>hg.block g (h.own.lt g hv).2 (fun e=>by
  rcases hr with hr | hr
  ·rw[hr] at hv;cases hv
  ·exact hr (hv.trans e))
theorem NumsIn.more {hi':Nat} (h:NumsIn e k lo hi w l v) (hh:hi≤hi'):NumsIn e k lo hi' w l v:=⟨h.own,fun g hg=>Nat.lt_of_lt_of_le (h.lt g hg) hh⟩
theorem NumsIn.from_ {lo':Nat} (h:NumsIn e k lo hi w l v) (hh:lo'≤lo):NumsIn e k lo' hi w l v:=⟨⟨h.own.1,h.own.2.elim .inl fun ⟨g,cap,cur,hv,h1,h2,h3⟩=>.inr ⟨g,cap,cur,hv,Nat.le_trans hh h1,h2,h3⟩⟩,h.lt⟩
theorem NumsIn.at_ (h:NumsIn e k lo hi w l v):T.At bare w (fun g=>lo≤g∧CellsAt w g) (numsT k l) v:=nums_cells h.own
end
def NumL {X:Type} (e:TypeId) (k:IntKind) (nums:X→List Int) (w:World) (N hi:Nat) (xs:List X) (vs:List Value):Prop:=
 vs.length=xs.length∧∃lv:Nat→Nat,(∀i j,i≤j→lv i≤lv j)∧N≤lv 0∧lv xs.length≤hi∧∀i x v,xs[i]?=some x→vs[i]?=some v→NumsIn e k (lv i) (lv (i+1)) w (nums x) v
section
variable {X:Type} {e:TypeId} {k:IntKind} {nums:X→List Int} {w w':World} {N hi:Nat} {xs:List X} {vs:List Value}
theorem NumL.nil (h:N≤hi):NumL e k nums w N hi [] []:=⟨rfl,fun _=>N,fun _ _ _=>Nat.le_refl _,Nat.le_refl _,h,fun i x v h=>by simp at h⟩
theorem NumL.keep (h:NumL e k nums w N hi xs vs) (hk:∀v∈vs,∀g,N≤g→g<hi→v.ownBlock=some g→w'.heap[g]?=w.heap[g]?):NumL e k nums w' N hi xs vs:=by
 obtain ⟨h1,lv,h2,h3,h4,h5⟩:=h;refine ⟨h1,lv,h2,h3,h4,fun i x v hx hv=>(h5 i x v hx hv).keep fun g a b c=>hk v (List.mem_of_getElem? hv) g ?_ ?_ c⟩
 ·have:=h2 0 i (Nat.zero_le _);omega
 ·have hi':=(List.getElem?_eq_some_iff.1 hx).1;have:=h2 (i+1) xs.length (by omega);omega
theorem NumL.below {B:Nat} (h:NumL e k nums w N hi xs vs) (hb:Below B w w') (hB:hi≤B):NumL e k nums w' N hi xs vs:=h.keep fun v _ g _ h2 _=>hb.block g (by omega)
theorem NumL.more {hi':Nat} (h:NumL e k nums w N hi xs vs) (hh:hi≤hi'):NumL e k nums w N hi' xs vs:=by
 obtain ⟨h1,lv,h2,h3,h4,h5⟩:=h;exact ⟨h1,lv,h2,h3,by omega,h5⟩
theorem NumL.snoc {m:Nat} {x:X} {v:Value} (h:NumL e k nums w N m xs vs) (hx:NumsIn e k m hi w (nums x) v) (hm:m≤hi):NumL e k nums w N hi (xs++[x]) (vs++[v]):=by
 obtain ⟨h1,lv,h2,h3,h4,h5⟩:=h;refine ⟨by simp[h1],fun i=>if i≤xs.length then lv i else hi,fun i j hij=>?_,?_,?_,fun i y u hy hu=>?_⟩
 ·dsimp only;split
  ·split
   ·exact h2 i j hij
   ·have:=h2 i xs.length (by assumption);omega
  ·rw[if_neg (by omega)];exact Nat.le_refl _
 ·simpa using h3
 ·dsimp only;rw[List.length_append,List.length_singleton,if_neg (by omega)];exact Nat.le_refl _
 ·rcases Nat.lt_or_ge i xs.length with hi' | hi'
  ·rw[List.getElem?_append_left hi'] at hy;rw[List.getElem?_append_left (by omega)] at hu;dsimp only;rw[if_pos (by omega),if_pos (by omega)];exact h5 i y u hy hu
  ·have hlt:=(List.getElem?_eq_some_iff.1 hy).1;have:i=xs.length:=by simp at hlt;omega
   subst this;rw[List.getElem?_append_right (Nat.le_refl _)] at hy;rw[List.getElem?_append_right (by omega),h1] at hu;simp only[Nat.sub_self,List.getElem?_cons_zero,Option.some.injEq] at hy hu;subst hy hu;dsimp only;rw[if_pos (Nat.le_refl _),if_neg (by omega)];exact ⟨⟨hx.own.1,hx.own.2.elim .inl fun ⟨g,cap,cur,hv,g1,g2,g3⟩=>.inr ⟨g,cap,cur,hv,by omega,g2,g3⟩⟩,hx.lt⟩
theorem NumL.grown {row:Option Nat} (h:NumL e k nums w N hi xs vs) (hg:w.grownBy w' row) (hr:∀r,row=some r→∃cur t fz,w.heap[r]?=some (.cells cur t fz)∧t≠e):NumL e k nums w' N hi xs vs:=by
 obtain ⟨h1,lv,h2,h3,h4,h5⟩:=h;refine ⟨h1,lv,h2,h3,h4,fun i x v hx hv=>(h5 i x v hx hv).grown hg ?_⟩
 rcases (h5 i x v hx hv).own.2 with ⟨rfl,_⟩ | ⟨g,cap,cur,rfl,_,hh,_⟩
 ·exact .inl rfl
 ·refine .inr fun e'=>?_;obtain ⟨cur',t,fz,h6,h7⟩:=hr g e'.symm;rw[h6] at hh;injection hh with hh;injection hh with _ hh;exact h7 hh
end
def vals3 {X:Type} (pre:X→List Value) (xs:List X) (vs:List Value):List Value:=(xs.zip vs).flatMap fun p=>pre p.1++[p.2]
def RowN {X:Type} (et e:TypeId) (k:IntKind) (pre:X→List Value) (nums:X→List Int) (N:Nat) (wr:World) (v:Value) (xs:List X):Prop:=
 ∃vs,wr.ownsRow N et 3 v xs.length (vals3 pre xs vs)∧NumL e k nums wr N wr.heap.size xs vs
section
variable {X:Type} {et e:TypeId} {k:IntKind} {pre:X→List Value} {nums:X→List Int} {w w':World} {N hi:Nat} {xs:List X} {vs:List Value}
theorem rowN_nil (h:N≤w.heap.size):RowN et e k pre nums N w (.slice none 0 0) ([]:List X):=⟨[],World.ownsRow_nil _ _ _ _,NumL.nil h⟩
theorem rowN_from {N':Nat} {v:Value} (h:RowN et e k pre nums N w v xs) (hN:N'≤N):RowN et e k pre nums N' w v xs:=by
 obtain ⟨vs,h1,h2,lv,h3,h4,h5,h6⟩:=h;exact ⟨vs,⟨h1.1,h1.2.elim .inl fun ⟨g,cap,cur,hv,g1,g2,g3⟩=>.inr ⟨g,cap,cur,hv,Nat.le_trans hN g1,g2,g3⟩⟩,h2,lv,h3,Nat.le_trans hN h4,h5,h6⟩
theorem rowN_stepM {m:Nat} {w3 w4:World} {v v' u:Value} {x:X} (hne:et≠e) (ho:w3.ownsRow N et 3 v xs.length (vals3 pre xs vs)) (hn:NumL e k nums w3 N m xs vs) (hx:NumsIn e k m w3.heap.size w3 (nums x) u) (hm:m≤w3.heap.size)
 (ho':w4.ownsRow N et 3 v' (xs.length+1) (vals3 pre xs vs++(pre x++[u]))) (hg:w3.grownBy w4 v.ownBlock):RowN et e k pre nums N w4 v' (xs++[x]):=by
 refine ⟨vs++[u],?_,?_⟩
 ·rw[List.length_append,List.length_singleton]
  have:vals3 pre (xs++[x]) (vs++[u])=vals3 pre xs vs++(pre x++[u]):=(by unfold vals3;rw[List.zip_append (by rw[hn.1]),List.flatMap_append];simp)
  rw[this];exact ho'
 ·refine ((hn.snoc hx hm).grown hg fun r hr=>?_).more hg.size
  rcases ho.2 with ⟨rfl,_⟩ | ⟨g,cap,cur,rfl,_,hh,_⟩
  ·cases hr
  ·have:g=r:=by simpa [Value.ownBlock] using hr
   subst this;exact ⟨_,_,_,hh,hne⟩
theorem rowN_at {f:X→List T} (hf:∀x,(f x).length=3) (hmk:∀(x:X) (u:Value) (S:Nat→Prop),T.At bare w S (numsT k (nums x)) u→T.AtL bare w S (f x) (pre x++[u])) {v:Value} (h:RowN et e k pre nums N w v xs):T.At bare w (fun g=>N≤g∧CellsAt w g) (rowT 3 f xs) v:=by
 obtain ⟨vs,ho,hn⟩:=h
 have ha:T.AtL bare w (fun g=>N≤g∧CellsAt w g) (xs.flatMap f) (vals3 pre xs vs):=by
  obtain ⟨h1,lv,h2,h3,h4,h5⟩:=hn
  have:∀(ys:List X) (us:List Value) (n:Nat),us.length=ys.length→(∀i x v,ys[i]?=some x→us[i]?=some v→NumsIn e k (lv (n+i)) (lv (n+i+1)) w (nums x) v)→T.AtL bare w (fun g=>N≤g∧CellsAt w g) (ys.flatMap f) (vals3 pre ys us):=by
   intro ys
   induction ys with
   | nil=>intro us n hl _;simp[vals3,T.AtL]
   | cons y ys ih=>
    intro us n hl hi
    cases us with
    | nil=>simp at hl
    | cons u us=>
     have e1:vals3 pre (y::ys) (u::us)=(pre y++[u])++vals3 pre ys us:=by simp[vals3]
     rw[List.flatMap_cons,e1];refine AtL.append (hmk y u _ ?_) (ih us (n+1) (by simpa using hl) fun i x v hx hv=>?_)
     ·have:=(hi 0 y u rfl rfl).at_;refine At.keep (fun _ _=>rfl) (fun g hg=>⟨?_,hg.2⟩) this;have:=h2 0 (n+0) (by omega);have:=hg.1;omega
     ·have:=hi (i+1) x v (by simpa using hx) (by simpa using hv);rwa [show n+(i+1)=n+1+i by omega] at this
  exact this xs vs 0 h1 (by simpa using h5)
 simp only[rowT,T.At]
 rcases ho.2 with ⟨rfl,h0⟩ | ⟨g,cap,cur,rfl,hB,hgg,hn',hm,hcs,ht⟩
 ·exact ⟨none,0,_,by rw[h0],by simp[bare,h0],by unfold maxLen;omega,flatMap_len f hf xs,fun hlt=>by simp[bare,h0] at hlt,ha⟩
 ·refine ⟨_,cap,_,rfl,by simpa [bare] using hn',hm,flatMap_len f hf xs,fun _=>⟨_,rfl,⟨hB,_,_,_,hgg⟩,?_⟩,ha⟩;have:=ho.cells (g:=g) rfl;simpa [bare,Cells] using this
end
end Go.Proofs.YtigfcihakghddaaGreatDoor.Tree
end
section
namespace Go.Proofs.YtigfcihakghddaaGreatDoor.Sch
open Go.RowKit Words Tree SchP Kit Owned
theorem eql_nilS (n c:Nat) (w:World):(binOp .eql 50 (.slice none n c) (.slice none 0 0)).run Tryz.prog w = .ok (.bool true) w:=by rfl
theorem eql_someS (ad:Addr) (n c:Nat) (w:World):(binOp .eql 50 (.slice (some ad) n c) (.slice none 0 0)).run Tryz.prog w = .ok (.bool false) w:=by rfl
def FreshN (l:List Int) (w:World) (e:Ending) (w':World):Prop:=∃v,e = .returned v∧NumsIn 2 .i64 w.heap.size w'.heap.size w' l v∧Below w.heap.size w w'
theorem clone_own (v:Value) (l:List Int) (w:World) (hv:T.At bare w (fun g=>g<w.heap.size) (numsT .i64 l) v) (hl:l.length*8≤140737488351232) :
 Calls Tryz.prog 71 #[v] w (FreshN l w):=by
 obtain ⟨A,cap,rfl,hc,hm,hr⟩:=at_nums hv;clear hv;obtain ⟨i0,hi,hz0,hz1,hz2⟩:=info_parts infoI64
 cases A with
 | none=>
  have h0:l=[]:=by
   rcases Nat.eq_zero_or_pos l.length with h | h
   ·exact List.eq_nil_of_length_eq_zero h
   ·obtain ⟨ad,e,_⟩:=hr.2 h;cases e
  subst h0;clear hr;have hq:=eql_nilS;go_enter Tryz.func71,Tryz.ntmps71;go_wp2_with fail;go_ret;exact ⟨_,rfl,NumsIn.none_,Below.refl _ _⟩
 | some ad=>
  have hq:=eql_someS;go_enter Tryz.func71,Tryz.ntmps71;go_wp2_with (at_builtin;refine wpList_append_any _ rfl (.tmp 5) (.tmp 6) 50 rfl w.heap.size 2 i0 (.int .i64 0) 1 8 Tryz.underlying50 hi hz0 hz1 hz2 rfl (by decide) _ 0 [] rfl (own_empty w _ _ _ (Nat.le_refl _)) w.heap.size (some ad) l.length cap (l.map (Value.int .i64)) rfl (hr.alloc (Nat.le_refl _) _) ?c2 ?c3 ?c4 ?c5 ?_);case c2=>intro u hu;obtain ⟨z,_,rfl⟩:=List.mem_map.1 hu;rfl
  case c3=>unfold maxLen;omega
  case c4=>omega
  case c5=>simp
  intro v1 w1 ho1 hg1 _;have hb1:Below w.heap.size w w1:=((Below.refl _ w).alloc (Nat.le_refl _) _).grown hg1 (by simp) (fun r e=>by simp[Value.ownBlock] at e;omega);replace ho1:w1.ownsRow w.heap.size 2 1 v1 l.length (l.map (Value.int .i64)):=by simpa using ho1
  have HB1:=hX hb1;have HO1:=hX ho1;clear hg1 hb1 ho1;go_wp2_with fail;go_ret;exact ⟨_,rfl,⟨HO1.out,fun g hg=>(HO1.out.lt g hg).2⟩,HB1.out⟩
end Go.Proofs.YtigfcihakghddaaGreatDoor.Sch
end
section
namespace AnaP
open Go.Lib Go FoldP
def D2 (N b0 b1:Nat):Prop:=b0 / 32=6∧1<N∧b1 / 64=2∧128≤b0 % 32*64+b1 % 64
def ok3 (v:Nat):Prop:=v<55296∨(57344≤v∧v≤1114111)
def D3 (N b0 b1 b2:Nat):Prop:=b0 / 16=14∧2<N∧b1 / 64=2∧b2 / 64=2∧2048≤b0 % 16*4096+b1 % 64*64+b2 % 64∧ok3 (b0 % 16*4096+b1 % 64*64+b2 % 64)
def D4 (N b0 b1 b2 b3:Nat):Prop:=b0 / 8=30∧3<N∧b1 / 64=2∧b2 / 64=2∧b3 / 64=2∧65536≤b0 % 8*262144+b1 % 64*4096+b2 % 64*64+b3 % 64∧ok3 (b0 % 8*262144+b1 % 64*4096+b2 % 64*64+b3 % 64)
theorem of_D1 {N b0 b1 b2 b3:Nat} (h:b0<128):decodeN N b0 b1 b2 b3=(b0,1):=by unfold decodeN;rw[if_pos h]
theorem of_D2 {N b0 b1 b2 b3:Nat} (h:D2 N b0 b1):decodeN N b0 b1 b2 b3=(b0 % 32*64+b1 % 64,2):=by
 obtain ⟨h1,h2,h3,h4⟩:=h;unfold decodeN;rw[if_neg (by omega),if_pos ⟨h1,h2,h3⟩,if_pos h4]
theorem of_D3 {N b0 b1 b2 b3:Nat} (h:D3 N b0 b1 b2):decodeN N b0 b1 b2 b3=(b0 % 16*4096+b1 % 64*64+b2 % 64,3):=by
 obtain ⟨h1,h2,h3,h4,h5,h6⟩:=h;unfold decodeN;rw[if_neg (by omega),if_neg (by omega),if_pos ⟨h1,⟨by omega,h3⟩,h2,h4⟩,if_pos ⟨h5,h6⟩]
theorem of_D4 {N b0 b1 b2 b3:Nat} (h:D4 N b0 b1 b2 b3):decodeN N b0 b1 b2 b3=(b0 % 8*262144+b1 % 64*4096+b2 % 64*64+b3 % 64,4):=by
 obtain ⟨h1,h2,h3,h4,h5,h6,h7⟩:=h;unfold decodeN;rw[if_neg (by omega),if_neg (by omega),if_neg (by omega),if_pos ⟨h1,⟨by omega,h3⟩,⟨by omega,h4⟩,h2,h5⟩,if_pos ⟨h6,h7⟩]
theorem of_D0 {N b0 b1 b2 b3:Nat} (h:128≤b0) (h2:¬D2 N b0 b1) (h3:¬D3 N b0 b1 b2) (h4:¬D4 N b0 b1 b2 b3):decodeN N b0 b1 b2 b3=(65533,1):=by
 unfold decodeN;rw[if_neg (by omega)];by_cases c2:b0 / 32=6∧(1<N∧b1 / 64=2)
 ·rw[if_pos c2,if_neg (fun e=>h2 ⟨c2.1,c2.2.1,c2.2.2,e⟩)]
 ·rw[if_neg c2];by_cases c3:b0 / 16=14∧(1<N∧b1 / 64=2)∧(2<N∧b2 / 64=2)
  ·rw[if_pos c3,if_neg (fun e=>h3 ⟨c3.1,c3.2.2.1,c3.2.1.2,c3.2.2.2,e.1,e.2⟩)]
  ·rw[if_neg c3];by_cases c4:b0 / 8=30∧(1<N∧b1 / 64=2)∧(2<N∧b2 / 64=2)∧(3<N∧b3 / 64=2)
   ·rw[if_pos c4,if_neg (fun e=>h4 ⟨c4.1,c4.2.2.2.1,c4.2.1.2,c4.2.2.1.2,c4.2.2.2.2,e.1,e.2⟩)]
   ·rw[if_neg c4]
theorem decodeN_same {N M b0 b1 b2 b3 c1 c2 c3:Nat} (h2:D2 N b0 b1→D2 M b0 c1∧b1=c1) (h3:D3 N b0 b1 b2→D3 M b0 c1 c2∧b1=c1∧b2=c2) (h4:D4 N b0 b1 b2 b3→D4 M b0 c1 c2 c3∧b1=c1∧b2=c2∧b3=c3)
 (k2:D2 M b0 c1→D2 N b0 b1) (k3:D3 M b0 c1 c2→D3 N b0 b1 b2) (k4:D4 M b0 c1 c2 c3→D4 N b0 b1 b2 b3):decodeN N b0 b1 b2 b3=decodeN M b0 c1 c2 c3:=by
 by_cases a1:b0<128
 ·rw[of_D1 a1,of_D1 a1]
 ·by_cases a2:D2 N b0 b1
  ·obtain ⟨e,rfl⟩:=h2 a2;rw[of_D2 a2,of_D2 e]
  ·by_cases a3:D3 N b0 b1 b2
   ·obtain ⟨e,rfl,rfl⟩:=h3 a3;rw[of_D3 a3,of_D3 e]
   ·by_cases a4:D4 N b0 b1 b2 b3
    ·obtain ⟨e,rfl,rfl,rfl⟩:=h4 a4;rw[of_D4 a4,of_D4 e]
    ·rw[of_D0 (by omega) a2 a3 a4,of_D0 (by omega) (fun h=>a2 (k2 h)) (fun h=>a3 (k3 h)) (fun h=>a4 (k4 h))]
theorem decodeN_cut (N M n b0 b1 b2 b3 c1 c2 c3:Nat) (hM:M=min n N) (e1:1<n→c1=b1) (e2:2<n→c2=b2) (e3:3<n→c3=b3) (h:(decodeN N b0 b1 b2 b3).2≤n):decodeN M b0 c1 c2 c3=decodeN N b0 b1 b2 b3:=by
 refine (decodeN_same (fun a=>?_) (fun a=>?_) (fun a=>?_) (fun a=>?_) (fun a=>?_) (fun a=>?_)).symm
 ·rw[of_D2 a] at h;obtain rfl:=e1 h;unfold D2 at *;exact ⟨⟨a.1,by have:=a.2.1;dsimp only at h;omega,a.2.2⟩,rfl⟩
 ·rw[of_D3 a] at h;dsimp only at h;obtain rfl:=e1 (by omega);obtain rfl:=e2 (by omega);unfold D3 at *;exact ⟨⟨a.1,by have:=a.2.1;omega,a.2.2⟩,rfl,rfl⟩
 ·rw[of_D4 a] at h;dsimp only at h;obtain rfl:=e1 (by omega);obtain rfl:=e2 (by omega);obtain rfl:=e3 (by omega);unfold D4 at *;exact ⟨⟨a.1,by have:=a.2.1;omega,a.2.2⟩,rfl,rfl,rfl⟩
 ·have:=a.2.1;obtain rfl:=e1 (by omega);exact ⟨a.1,by omega,a.2.2⟩
 ·have:=a.2.1;obtain rfl:=e1 (by omega);obtain rfl:=e2 (by omega);exact ⟨a.1,by omega,a.2.2⟩
 ·have:=a.2.1;obtain rfl:=e1 (by omega);obtain rfl:=e2 (by omega);obtain rfl:=e3 (by omega);exact ⟨a.1,by omega,a.2.2⟩
theorem getD_take_lt {l:List UInt8} {n i:Nat} (h:i<n):(l.take n).getD i 0=l.getD i 0:=by
 rw[List.getD_eq_getElem?_getD,List.getD_eq_getElem?_getD,List.getElem?_take,if_pos h]
theorem decodeL_take (l:List UInt8) (n:Nat) (hn:(decodeL l).2≤n):decodeL (l.take n)=decodeL l:=by
 have h1:=decodeL_width l;have h0:0<n:=Nat.lt_of_lt_of_le h1 hn;rw[decodeL_N] at hn;rw[decodeL_N (l.take n),decodeL_N l,List.length_take,getD_take_lt h0];exact decodeN_cut _ _ n _ _ _ _ _ _ _ rfl (fun h=>by rw[getD_take_lt h]) (fun h=>by rw[getD_take_lt h]) (fun h=>by rw[getD_take_lt h]) hn
def subL (l:List UInt8) (a b:Nat):List UInt8:=(l.drop (posAt l a)).take (posAt l b - posAt l a)
theorem subL_len (l:List UInt8) (a b:Nat):(subL l a b).length=posAt l b - posAt l a:=by
 have:=posAt_le l b;simp[subL];omega
theorem subL_drop (l:List UInt8) (a b k:Nat):(subL l a b).drop k=(l.drop (posAt l a+k)).take (posAt l b - posAt l a - k):=by
 unfold subL;rw[List.drop_take,List.drop_drop]
theorem runes_sub (l:List UInt8) (a b:Nat) (hab:a≤b) (hb:b≤nR l):∀(f i:Nat),b - i≤f→a≤i→i≤b→
 (runesFrom (posAt l i - posAt l a) ((subL l a b).drop (posAt l i - posAt l a))).map (·.1)=((List.range (b - i)).map fun k=>posAt l (i+k) - posAt l a)
 | 0,i,hf,hi,hib=>by
  obtain rfl:i=b:=by omega
  rw[runesEnd _ _ (by rw[subL_len];exact Nat.le_refl _)];simp
 | f+1,i,hf,hi,hib=>by
  rcases Nat.lt_or_ge i b with h | h
  ·have h1:=posAt_mono l a i hi (by omega);obtain ⟨h2,h3⟩:=posAt_next l i (by omega);have h4:=posAt_step l i (by omega);have h5:=posAt_mono l (i+1) b (by omega) hb
   have e:(subL l a b).drop (posAt l i - posAt l a)=(l.drop (posAt l i)).take (posAt l b - posAt l i):=(by rw[subL_drop,show posAt l a+(posAt l i - posAt l a)=posAt l i by omega,show posAt l b - posAt l a - (posAt l i - posAt l a)=posAt l b - posAt l i by omega])
   have hd:decodeL ((subL l a b).drop (posAt l i - posAt l a))=decodeL (l.drop (posAt l i)):=(by rw[e];exact decodeL_take _ _ (by omega))
   rw[runesAt _ _ (by rw[subL_len];omega),hd,List.map_cons];have ih:=runes_sub l a b hab hb f (i+1) (by omega) (by omega) (by omega);rw[show posAt l i - posAt l a+(decodeL (l.drop (posAt l i))).2=posAt l (i+1) - posAt l a by omega,ih];rw[show b - i=(b - (i+1))+1 by omega,List.range_succ_eq_map,List.map_cons,List.map_map];simp only[Nat.add_zero,List.cons.injEq,true_and];apply List.map_congr_left;intro k _;simp only[Function.comp_apply];congr 2;omega
  ·obtain rfl:i=b:=by omega
   rw[runesEnd _ _ (by rw[subL_len];exact Nat.le_refl _)];simp
theorem sub_runes (l:List UInt8) (a b:Nat) (hab:a≤b) (hb:b≤nR l):(runesL (subL l a b)).map (·.1)=(List.range (b - a)).map fun k=>posAt l (a+k) - posAt l a:=by
 have:=runes_sub l a b hab hb (b - a) a (Nat.le_refl _) (Nat.le_refl _) hab;rw[Nat.sub_self,List.drop_zero] at this;exact this
theorem sub_nR (l:List UInt8) (a b:Nat) (hab:a≤b) (hb:b≤nR l):nR (subL l a b)=b - a:=by
 have:=congrArg List.length (sub_runes l a b hab hb);simpa [nR] using this
theorem sub_posAt (l:List UInt8) (a b:Nat) (hab:a≤b) (hb:b≤nR l) (i:Nat) (hi:i≤b - a):posAt (subL l a b) i=posAt l (a+i) - posAt l a:=by
 have hn:=sub_nR l a b hab hb;rcases Nat.lt_or_ge i (b - a) with h | h
 ·have h1:=runes_get (subL l a b) i (by omega);have h2:((runesL (subL l a b)).map (·.1))[i]?=some (posAt (subL l a b) i):=by rw[List.getElem?_map,h1];rfl
  rw[sub_runes l a b hab hb,List.getElem?_map,List.getElem?_range h] at h2;exact (Option.some.inj h2).symm
 ·obtain rfl:i=b - a:=by omega
  have h1:=posAt_end (subL l a b);rw[hn,subL_len] at h1;rw[h1,show a+(b - a)=b by omega]
theorem extract_list (s:ByteArray) (x y:Nat) (hy:y≤s.size):(s.extract x y).data.toList=(s.data.toList.drop x).take (y - x):=by
 rw[ByteArray.data_extract,Array.toList_extract,List.extract_eq_take_drop]
theorem extract_sub (s:ByteArray) (a b x y:Nat) (hxy:x≤y) (hy:a+y≤b) (hb:b≤s.size):(s.extract a b).extract x y=s.extract (a+x) (a+y):=by
 apply ByteArray.ext;rw[ByteArray.data_extract,ByteArray.data_extract,ByteArray.data_extract,Array.extract_extract];congr 1;omega
theorem sub_text (s:ByteArray) (a b:Nat) (hb:b≤nR s.data.toList):(s.extract (posAt s.data.toList a) (posAt s.data.toList b)).data.toList=subL s.data.toList a b:=by
 have:=posAt_le s.data.toList b;rw[extract_list _ _ _ (by simpa using this)];rfl
end AnaP
end
