/- Lemmas that the last text leans on. -/
import Derived.WalkKit
import Derived.Deep.AppendLies
import Derived.Deep.Draws
import Derived.Deep.OwnRows
import Derived.Maps.AppendAt
import Derived.RegionTactic
import Derived.OwnWalk
import Derived.ChangeSame
import Derived.Laws.Rows
import Derived.WalkLawsBesides
import Derived.WalkSpells
import Derived.Lib.Hide
import Derived.Lib.UnsafeStr
import Derived.Lib.RuneBytes
import Derived.Lib.Small
import Derived.Deep.Light
import Derived.Test.YtplkbdncgkgppaaGreatDoorRows
import Derived.Carry
import Derived.OpenShut
import Derived.ProofKit
import Derived.SizedLaws
import Derived.Lib.MapLaws
import Derived.Lib.ValidLaws
set_option linter.all false
section
namespace Go.Proofs.YtplkbdncgkgppaaGreatDoor.Words
open Go.RowKit Go.WideShapes Go.ChangeShapes
theorem zaa (a:Addr) (n:Nat):(a.add n).block=a.block:=by unfold Addr.add;split <;> rfl
theorem ze5 (a:Addr) (i j:Nat):(a.add i).add j=a.add (i+j):=by
 unfold Addr.add;by_cases hi:i=0 <;> by_cases hj:j=0 <;> simp[hi,hj,Nat.add_assoc]
def Reads (w:World) (B size:Nat) (A:Option Addr) (n:Nat) (xs:List Value):Prop:=
 xs.length=n*size∧(0<n→∃ad,A=some ad∧ad.block<B∧∀j u,xs[j]?=some u→w.cell? (ad.add j)=some u)
section
variable {w w':World} {B B' size n:Nat} {A:Option Addr} {xs:List Value}
theorem Reads.none_:Reads w B size A 0 []:=⟨by simp,fun h=>absurd h (by omega)⟩
theorem Reads.at_ {k:Nat} (h:Reads w B 1 A n xs) (hk:k<n):∃ad u,A=some ad∧ad.block<B∧xs[k]?=some u∧w.cell? (ad.add k)=some u:=by
 obtain ⟨ad,e,hb,hc⟩:=h.2 (by omega);have hl:k<xs.length:=by have:=h.1;omega
 exact ⟨ad,xs[k],e,hb,List.getElem?_eq_getElem hl,hc k _ (List.getElem?_eq_getElem hl)⟩
theorem Reads.keep (h:Reads w B size A n xs) (hk:∀p:Addr,p.block<B→w'.cell? p=w.cell? p):Reads w' B size A n xs:=
 ⟨h.1,fun hn=>by
  obtain ⟨ad,e,hb,hc⟩:=h.2 hn
  exact ⟨ad,e,hb,fun j u hu=>(hk _ (by rw[zaa];exact hb)).trans (hc j u hu)⟩⟩
theorem Reads.more (h:Reads w B size A n xs) (hB:B≤B'):Reads w B' size A n xs:=
 ⟨h.1,fun hn=>by
  obtain ⟨ad,e,hb,hc⟩:=h.2 hn
  exact ⟨ad,e,by omega,hc⟩⟩
theorem Reads.below (h:Reads w B size A n xs) (hb:Below B w w'):Reads w' B size A n xs:=h.keep fun _ hp=>hb.cell hp
theorem Reads.alloc (h:Reads w B size A n xs) (hB:B≤w.heap.size) (o:Obj):Reads (w.alloc o) B size A n xs:=h.keep fun p hp=>World.cell?_alloc_lt w o p (by omega)
theorem Reads.of_own {base:Nat} {e:TypeId} {c:Nat} (h:w.ownsRow base e size (.slice A n c) n xs):Reads w w.heap.size size A n xs:=by
 refine ⟨h.1,fun hn=>?_⟩;obtain ⟨g,cap,hv,_,hlt⟩:=h.form hn;have hA:A=some ⟨g,0,none⟩:=by injection hv
 subst hA;exact ⟨_,rfl,hlt,h.cells (g:=g) rfl⟩
end
def Blk (w:World) (g:Nat) (t:TypeId) (cs:Array Value):Prop:=w.heap[g]?=some (.cells cs t (0,0))
section
variable {w w':World} {g:Nat} {t:TypeId} {cs:Array Value}
theorem Blk.lt (h:Blk w g t cs):g<w.heap.size:=by
 rcases Nat.lt_or_ge g w.heap.size with hlt | hge
 ·exact hlt
 ·unfold Blk at h;rw[Array.getElem?_eq_none hge] at h;cases h
theorem Blk.cell (h:Blk w g t cs) (i:Nat):w.cell? ⟨g,i,none⟩=cs[i]?:=cell_of_row w g i cs t (0,0) h
theorem Blk.frozen (h:Blk w g t cs) (i:Nat):w.frozen? ⟨g,i,none⟩=false:=by
 unfold Blk at h;simp[World.frozen?,h]
theorem Blk.new (w:World) (t:TypeId) (cs:Array Value):Blk (w.alloc (.cells cs t)) w.heap.size t cs:=heap_alloc_new w _
theorem Blk.drew (h:Blk w g t cs):Blk w.drew g t cs:=h
theorem Blk.drewN (h:Blk w g t cs) (n:Nat):Blk (w.drewN n) g t cs:=h
theorem Blk.alloc (h:Blk w g t cs) (o:Obj):Blk (w.alloc o) g t cs:=(Below.heap_alloc w o g h.lt).trans h
theorem Blk.set_ (h:Blk w g t cs) (i:Nat) (u:Value):Blk (w.setCell ⟨g,i,none⟩ u) g t (cs.setIfInBounds i u):=by
 unfold Blk at h ⊢;simp[World.setCell,Array.getElem?_modify,h]
theorem Blk.far (h:Blk w g t cs) {p:Addr} (hp:g≠p.block) (u:Value):Blk (w.setCell p u) g t cs:=(Below.heap_setCell w p u g hp).trans h
theorem Blk.below {B:Nat} (h:Blk w g t cs) (hb:Below B w w') (hg:g<B):Blk w' g t cs:=(hb.block g hg).trans h
theorem Blk.grown {row:Option Nat} (h:Blk w g t cs) (hb:w.grownBy w' row) (hg:some g≠row):Blk w' g t cs:=(hb.block g h.lt hg).trans h
theorem Blk.ne_ {g':Nat} {t':TypeId} {cs':Array Value} (h:Blk w g t cs) (h':Blk w g' t' cs') (hne:t≠t'):g≠g':=by
 rintro rfl;unfold Blk at h h';rw[h] at h';injection h' with h';injection h' with _ ht;exact hne ht
theorem zme {base:Nat} {e:TypeId} {size n:Nat} {v:Value} {xs:List Value} (h:w.ownsRow base e size v n xs) (hg:Blk w g t cs) (hne:e≠t):v.ownBlock≠some g:=by
 rcases h.2 with ⟨rfl,_⟩ | ⟨g',cap,cur,rfl,_,hh,_⟩
 ·simp[Value.ownBlock]
 ·intro he;have:g'=g:=by simpa [Value.ownBlock] using he
  subst this;exact Blk.ne_ (t:=e) hh hg hne rfl
end
section
variable {P:Program} (w:World)
theorem zit (base:Nat) (t ty e:TypeId) (i:TypeInfo) (size:Nat) (ht:P.underlying t=some (.slice e)) (hi:P.info? e=some i)
 (v:Value) (n:Nat) (xs:List Value) (hown:w.ownsRow base e size v n xs) (c:Nat):(Builtin.append_ #[t,t] ty #[v,.slice none 0 c]).run P w = .ok v w:=by
 rcases hown.2 with ⟨rfl,rfl⟩ | ⟨g,cap,cur,rfl,_,_,hnc,_⟩
 ·simp[Builtin.append_,run_underlying ht,sizeOf,typeInfo,hi,Builtin.lenOf,Builtin.firstCells]
 ·simp[Builtin.append_,run_underlying ht,sizeOf,typeInfo,hi,Builtin.lenOf,Builtin.firstCells,hnc,storeCells]
theorem zl5 (base:Nat) (t ty e:TypeId) (i:TypeInfo) (z:Value) (size bytes:Nat) (ht:P.underlying t=some (.slice e)) (hi:P.info? e=some i) (hz:i.zero=some z)
 (hsize:i.size=size) (hby:i.bytes=bytes) (hzs:z.cells.size=size) (hsz:0<size)
 (v:Value) (n:Nat) (xs:List Value) (hown:w.ownsRow base e size v n xs)
 (B:Nat) (A:Option Addr) (m c:Nat) (news:List Value) (hr:Reads w B size A m news) (h1:∀u∈news,u.oneCell'=true)
 (h63:n+m≤maxLen) (hbytes:(n+m)*bytes≤140737488355328) (hbase:base≤w.heap.size) :
 ∃v' w',(Builtin.append_ #[t,t] ty #[v,.slice A m c]).run P w = .ok v' w'∧w'.ownsRow base e size v' (n+m) (xs++news)∧w.grownBy w' v.ownBlock∧
  (v'.ownBlock=v.ownBlock∨v'.ownBlock=some w.heap.size):=by
 rcases A with _ | ad
 ·have hm:m=0:=by
   rcases Nat.eq_zero_or_pos m with h0 | h0
   ·exact h0
   ·obtain ⟨ad,h,_⟩:=hr.2 h0;cases h
  subst hm;have hn:news=[]:=List.eq_nil_of_length_eq_zero (by simpa using hr.1);subst hn;exact ⟨v,w,zit w base t ty e i size ht hi v n xs hown c,by simpa using hown,World.grownBy.refl w _,.inl rfl⟩
 ·have hcells:∀j u,news[j]?=some u→w.cell? (ad.add j)=some u:=by
   intro j u hu;rcases Nat.eq_zero_or_pos m with h0 | h0
   ·subst h0;have hn:news=[]:=List.eq_nil_of_length_eq_zero (by simpa using hr.1);subst hn;simp at hu
   ·obtain ⟨ad',h,_,hc⟩:=hr.2 h0;injection h with h;subst h;exact hc j u hu
  obtain ⟨v',w',hrun,h2,h3,_,h5⟩:=run_append_own_at (P:=P) w base t ty e i z size bytes ht hi hz hsize hby hzs hsz v n xs hown ad m c news hr.1 hcells h1 h63 hbytes hbase;exact ⟨v',w',hrun,h2,h3,h5⟩
theorem zh0 {o:Oper} {a:Act} {K:Act→World→Prop} {Q:Exit→Act→World→Prop} (s x:Operand) (t:TypeId)
 (ho:o.op = .call { callee:=.builtin .append,args:=#[s,x],argTypes:=#[t,t] })
 (base:Nat) (e:TypeId) (i:TypeInfo) (z:Value) (size bytes:Nat) (ht:P.underlying t=some (.slice e)) (hi:P.info? e=some i) (hz:i.zero=some z)
 (hsize:i.size=size) (hby:i.bytes=bytes) (hzs:z.cells.size=size) (hsz:0<size)
 (v:Value) (n:Nat) (xs:List Value) (hs:a.eval s=v) (hown:w.ownsRow base e size v n xs)
 (B:Nat) (A:Option Addr) (m c:Nat) (news:List Value) (hx:a.eval x = .slice A m c) (hr:Reads w B size A m news) (h1:∀u∈news,u.oneCell'=true)
 (h63:n+m≤maxLen) (hbytes:(n+m)*bytes≤140737488355328) (hbase:base≤w.heap.size)
 (h:∀v' w',w'.ownsRow base e size v' (n+m) (xs++news)→w.grownBy w' v.ownBlock→(v'.ownBlock=v.ownBlock∨v'.ownBlock=some w.heap.size)→K (a.put o.dst v') w'):o.wp P a w K Q:=by
 obtain ⟨v',w',hrun,h2,h3,h4⟩:=zl5 (P:=P) w base t o.type e i z size bytes ht hi hz hsize hby hzs hsz v n xs hown B A m c news hr h1 h63 hbytes hbase;unfold Oper.wp execOp;simp only[ho,resolve,invoke,builtin,Sem.run_bind,Sem.run_pure,Result.andThen_ok,List.map_toArray,List.map_cons,List.map_nil,hs,hx,hrun];exact h v' w' h2 h3 h4
theorem zan {ops:Array Oper} {rest:List Oper} {o:Oper} {a:Act} {Q:Exit→Act→World→Prop} (hgd:o.guard=none) (s x:Operand) (t:TypeId)
 (ho:o.op = .call { callee:=.builtin .append,args:=#[s,x],argTypes:=#[t,t] })
 (base:Nat) (e:TypeId) (i:TypeInfo) (z:Value) (size bytes:Nat) (ht:P.underlying t=some (.slice e)) (hi:P.info? e=some i) (hz:i.zero=some z)
 (hsize:i.size=size) (hby:i.bytes=bytes) (hzs:z.cells.size=size) (hsz:0<size)
 (v:Value) (n:Nat) (xs:List Value) (hs:a.eval s=v) (hown:w.ownsRow base e size v n xs)
 (B:Nat) (A:Option Addr) (m c:Nat) (news:List Value) (hx:a.eval x = .slice A m c) (hr:Reads w B size A m news) (h1:∀u∈news,u.oneCell'=true)
 (h63:n+m≤maxLen) (hbytes:(n+m)*bytes≤140737488355328) (hbase:base≤w.heap.size)
 (h:∀v' w',w'.ownsRow base e size v' (n+m) (xs++news)→w.grownBy w' v.ownBlock→(v'.ownBlock=v.ownBlock∨v'.ownBlock=some w.heap.size)→wpList P ops Q rest (a.put o.dst v') w'):wpList P ops Q (o::rest) a w:=
 wpList_plain hgd fun _ hK=>zh0 w s x t ho base e i z size bytes ht hi hz hsize hby hzs hsz v n xs hs hown B A m c news hx hr h1 h63 hbytes hbase fun v' w' h2 h3 h4=>hK _ _ (h v' w' h2 h3 h4)
theorem zkb {ops:Array Oper} {o:Oper} {a:Act} {K:Act→World→Prop} {Q:Exit→Act→World→Prop} {E:Prop} (hgd:o.guard=none) (s x:Operand) (t:TypeId)
 (ho:o.op = .call { callee:=.builtin .append,args:=#[s,x],argTypes:=#[t,t] })
 (base:Nat) (e:TypeId) (i:TypeInfo) (z:Value) (size bytes:Nat) (ht:P.underlying t=some (.slice e)) (hi:P.info? e=some i) (hz:i.zero=some z)
 (hsize:i.size=size) (hby:i.bytes=bytes) (hzs:z.cells.size=size) (hsz:0<size)
 (v:Value) (n:Nat) (xs:List Value) (hs:a.eval s=v) (hown:w.ownsRow base e size v n xs)
 (B:Nat) (A:Option Addr) (m c:Nat) (news:List Value) (hx:a.eval x = .slice A m c) (hr:Reads w B size A m news) (h1:∀u∈news,u.oneCell'=true)
 (h63:n+m≤maxLen) (hbytes:(n+m)*bytes≤140737488355328) (hbase:base≤w.heap.size)
 (h:∀v' w',w'.ownsRow base e size v' (n+m) (xs++news)→w.grownBy w' v.ownBlock→(v'.ownBlock=v.ownBlock∨v'.ownBlock=some w.heap.size)→K (a.put o.dst v') w') :
 if Region.wanted o (yielded ops a.tmps)=true then Oper.wp P o a w K Q else E:=by
 have hw:Region.wanted o (yielded ops a.tmps)=true:=by simp[Region.wanted,hgd]
 rw[if_pos hw];exact zh0 w s x t ho base e i z size bytes ht hi hz hsize hby hzs hsz v n xs hs hown B A m c news hx hr h1 h63 hbytes hbase h
end
theorem zaq {a w:World} {row:Option Nat} (h:a.grownBy w row) (n:Nat):a.grownBy (w.drewN n) row:=⟨h.os,h.tape,h.output,h.size,h.block⟩
theorem zak {a w:World} {g:Nat} (h:a.grownBy w (some g)) {p:Addr} (hp:p.block=g∨a.heap.size≤p.block) (u:Value):a.grownBy (w.setCell p u) (some g):=
 ⟨h.os,h.tape,h.output,by simpa [World.setCell] using h.size,fun i hi hne=>(Below.heap_setCell w p u i (by
  rintro rfl;rcases hp with hp | hp
  ·exact hne (by rw[hp])
  ·omega)).trans (h.block i hi hne)⟩
theorem only_of_below {a w:World} (h:Below a.heap.size a w) (row:Option Nat):a.grownBy w row:=⟨h.os,h.tape,h.output,h.size,fun i hi _=>h.block i hi⟩
section
variable {H:Type} {enc:TypeId × Value→H} {P:Program}
theorem zng {f:Func} {s:ChangeSpec} {apart fresh handsOn again:Bool} {W W':World} {args:Array Value} {v:Value} {ds gs:List (DataW H)} {before pa pv:List MemPlace}
 (hW:DataW.Whole enc P f.params.toList s.vars apart W args.toList ds gs before)
 (hres:∀(b:Nat) (sp:Nat→Bool) (hd:Bool),DataW.TrodAll enc P W' b sp hd f.resultTypes.toList (v.resultList f.resultTypes.size) (s.fn H (ds++gs)).results [])
 (hargs:∀sp:Nat→Bool,(∀p∈before,sp p.block=true)→DataW.TrodAll enc P W' 0 sp true f.params.toList args.toList (s.fn H (ds++gs)).args pa)
 (hvars:∀sp:Nat→Bool,(∀p∈before,sp p.block=true)→DataW.TrodVars enc P W' sp s.vars (s.fn H (ds++gs)).vars pv)
 (hps:before=pa++pv) (hb:Below W.heap.size W W')
 (hok:∀(j:Nat) (t:TypeId) (r:Value),f.resultTypes[j]?=some t→(v.resultList f.resultTypes.size)[j]?=some r→Value.okWide P W' .any 0 t r) :
 s.post enc P f apart fresh handsOn again W args v W':=by
 have hlt:∀p∈before,p.block<W.heap.size:=fun p hp=>hW.lt p hp;have hold:∀p∈before,(fun b=>decide (b<W.heap.size)) p.block=true:=fun p hp=>by simpa using hlt p hp
 refine ⟨ds,gs,before,[],pa,pv,hW,hres _ _ _,hargs _ hold,hvars _ hold,World.keptBut_mono (fun p hp=>⟨hp,?_⟩) (hb.frame (·∈before)),fun _=>?_⟩
 ·rw[hps,List.mem_append] at hp;exact Or.inr hp
 ·obtain ⟨_,_,_,_,_,hz,hn⟩:=hW;refine ⟨hok,_,_,([]++pa)++pv,⟨[]++pa,pv,trodAll_append (hargs _ (fun _ _=>rfl)) (hres _ _ _),hvars _ (fun _ _=>rfl),rfl,?_,?_⟩,?_⟩
  ·intro b off hp;have hin:MemPlace.cell b off∈before:=by rw[hps];simpa using hp
   rw[hb.frozen (hlt _ hin)];exact hz b off hin
  ·intro ha;have:=hn ha;rw[hps] at this;simpa using this
  ·intro p hp _;rw[hps];simpa using hp
end
end Go.Proofs.YtplkbdncgkgppaaGreatDoor.Words
end
section
namespace Go.Proofs.YtplkbdncgkgppaaGreatDoor.Kit
open Go.RowKit Go.Lib
theorem ydu {k:IntKind} {a b:Int} (h:a=b):Ending.returned (.int k a) = .returned (.int k b):=by rw[h]
theorem zgt {a b:Bool} (h:a=b):Ending.returned (.bool a) = .returned (.bool b):=by rw[h]
def str (l:List UInt8):ByteArray:=⟨l.toArray⟩
theorem yal {w:World} {B:Nat} {e:TypeId} {v:Value} {l:List UInt8} (h:w.ownsRow B e 1 v l.length (byteCells l)) {g:Nat} (hg:v.ownBlock=some g) (j:Nat) (hj:j<l.length) :
 w.cell? ⟨g,j,none⟩=some (.int .u8 (l[j].toNat:Int)):=by
 have:=h.cells hg j (.int .u8 (l[j].toNat:Int)) (by simp[byteCells,List.getElem?_eq_getElem hj]);have hadd:(⟨g,0,none⟩:Addr).add j=⟨g,j,none⟩:=by unfold Addr.add;split <;> simp_all
 rwa [hadd] at this
theorem zkc {P:Program} (w:World) (src dst e:TypeId) (hs:P.underlying src=some (.slice e)) (he:P.underlying e=some (.int .u8)) (hd:P.underlying dst=some .string)
 {B:Nat} {v:Value} {n:Nat} {l:List UInt8} (hn:n=l.length) (h:w.ownsRow B e 1 v n (byteCells l)) :
 (convert src dst v).run P w = .ok (.string (str l)) w:=by
 subst hn
 rcases h.2 with ⟨rfl,h0⟩ | ⟨g,cap,cur,rfl,_⟩
 ·have:l=[]:=List.eq_nil_of_length_eq_zero h0;subst this;rw[run_convert_bytes_string w src dst e _ _ _ hs he hd];rfl
 ·exact run_convert_bytes_back w src dst e ⟨g,0,none⟩ cap l hs he hd (fun j hj=>by
   have hadd:(⟨g,0,none⟩:Addr).add j=⟨g,j,none⟩:=by unfold Addr.add;split <;> simp_all
   rw[hadd];exact yal h rfl j hj)
theorem zkd (r:Int):runeCells r=byteCells (encodeRune r):=(byteCells_encodeRune r).symm
end Go.Proofs.YtplkbdncgkgppaaGreatDoor.Kit
end
section
namespace Go.Proofs.YtplkbdncgkgppaaGreatDoor.Law
open Go.RowKit Go.WideShapes Go.ChangeShapes Words
theorem yjd {n:Int} (h:(Lit.int .i64 n).wf=true) : -9223372036854775808≤n∧n≤9223372036854775807:=by
 have h2:=h;simp only[Lit.wf,Bool.and_eq_true,decide_eq_true_eq] at h2;exact h2
section
variable {H:Type} {enc:TypeId × Value→H} {P:Program}
theorem zh1 (hl:laidOutB P=true) {W W':World} {sp:Nat→Bool}:∀{ts:List TypeId} {vs:List Value} {ds:List (DataW H)} {ps:List MemPlace},(∀t∈ts,P.readableRec t=true∧t<P.types.size)→
 DataW.TrodAll enc P W 0 (fun _=>true) true ts vs ds ps→(∀p∈ps,W.sameAt W' p)→(∀p∈ps,sp p.block=true)→DataW.TrodAll enc P W' 0 sp true ts vs ds ps
 | [],_,_,_,_,h,_,_=>by obtain ⟨rfl,rfl,rfl⟩:=trodAll_nil h;rfl
 | t::ts,_,_,_,hr,h,hs,hp=>by
  obtain ⟨v,vs,d,ds,p,q,rfl,rfl,rfl,h0,h1⟩:=trodAll_cons h
  exact ⟨p,q,WideElems.Trod_stays hl (hr t (by simp)).1 (hr t (by simp)).2 h0 (fun x hx=>hs x (by simp[hx])) (fun x hx=>hp x (by simp[hx])),
   zh1 hl (fun t ht=>hr t (by simp[ht])) h1 (fun x hx=>hs x (by simp[hx])) (fun x hx=>hp x (by simp[hx])),rfl⟩
theorem yam {f:Func} {s:ChangeSpec} {tb:TypeId} {W W':World} {args:Array Value} {ds:List (DataW H)} {before:List MemPlace} (hl:laidOutB P=true) (hr:∀t∈f.params.toList,P.readableRec t=true∧t<P.types.size)
 (hB:P.underlying tb=some .bool) (hres:f.resultTypes=#[tb]) (hvars:s.vars=[]) (hs:s.fn H (ds++[])={ results:=[.lit (.bool true)],args:=ds })
 (hW:DataW.Whole enc P f.params.toList s.vars false W args.toList ds [] before) (hb:Below W.heap.size W W'):s.post enc P f false true false false W args (.bool true) W':=by
 have hW':=hW;obtain ⟨p,q,hA,hV,rfl,_,_⟩:=hW;rw[hvars] at hV;obtain ⟨_,rfl⟩:=trodVars_none hV;refine zng (pa:=p) (pv:=[]) hW' ?_ ?_ ?_ rfl hb (ok_one hres rfl (okWide_bool_mk hB _))
 ·intro b sp hd;rw[hs,hres];exact trodAll_cons_mk (shut_bool hB _) trodAll_mk0
 ·intro sp hsp;rw[hs];exact zh1 hl hr hA (fun x hx=>hb.same (hW'.lt x (by simp[hx]))) (fun x hx=>hsp x (by simp[hx]))
 ·intro sp _;rw[hvars,hs];rfl
end
end Go.Proofs.YtplkbdncgkgppaaGreatDoor.Law
end
section
namespace QryP
open Go
inductive QT where
 | mk (kind occur:Int) (field text upto:ByteArray) (low high:List Int) (boost op:Int) (kids:List QT)
noncomputable def QT.sz (q:QT):Nat:=SizeOf.sizeOf q
theorem QT.sz_pos (q:QT):0<q.sz:=by cases q;simp only[QT.sz,QT.mk.sizeOf_spec];omega
theorem QT.sz_kid {kd oc:Int} {f t u:ByteArray} {lo hi:List Int} {b op:Int} {ks:List QT} {k:QT} (h:k∈ks):k.sz<(QT.mk kd oc f t u lo hi b op ks).sz:=by
 have:=List.sizeOf_lt_of_mem h;simp only[QT.sz,QT.mk.sizeOf_spec];omega
end QryP
end
section
namespace SchP
def zor (i:Nat) (c:UInt8):Bool:=decide (97≤c.toNat∧c.toNat≤122) || decide (c.toNat=95) || (decide (0<i) && decide (48≤c.toNat∧c.toNat≤57))
def zf7:Nat→List UInt8→Bool
 | _,[]=>true
 | i,c::l=>zor i c && zf7 (i+1) l
def zb4 (s:ByteArray):Bool:=zf7 0 s.data.toList && decide (1≤s.size) && decide (s.size≤24)
theorem zq6 {l:List UInt8} {k:Nat} (h:k<l.length):zf7 k (l.drop k)=(zor k l[k] && zf7 (k+1) (l.drop (k+1))):=by
 rw[List.drop_eq_getElem_cons h,zf7]
end SchP
end
section
namespace QryP
open SchP
def kd:QT→Int | .mk k _ _ _ _ _ _ _ _ _=>k
def oc:QT→Int | .mk _ o _ _ _ _ _ _ _ _=>o
def fd:QT→ByteArray | .mk _ _ f _ _ _ _ _ _ _=>f
def tx:QT→ByteArray | .mk _ _ _ t _ _ _ _ _ _=>t
def up:QT→ByteArray | .mk _ _ _ _ u _ _ _ _ _=>u
def lo:QT→List Int | .mk _ _ _ _ _ l _ _ _ _=>l
def hi:QT→List Int | .mk _ _ _ _ _ _ h _ _ _=>h
def bo:QT→Int | .mk _ _ _ _ _ _ _ b _ _=>b
def op:QT→Int | .mk _ _ _ _ _ _ _ _ o _=>o
def kids:QT→List QT | .mk _ _ _ _ _ _ _ _ _ k=>k
def zf2 (q:QT) (under:Int):Bool:=
 (if under=8 then decide (1≤oc q∧oc q≤4) else decide (oc q=0)) && decide (1≤kd q∧kd q≤10)
 && (if 3≤kd q∧kd q≤7∨kd q=10 then zb4 (fd q) else decide ((fd q).size=0))
 && (decide (3≤kd q∧kd q≤6) || decide ((tx q).size=0)) && (decide (kd q=6) || decide ((up q).size=0))
 && (if kd q=7 then decide (1≤(lo q).length∧(lo q).length≤4∧(hi q).length=(lo q).length) else if kd q=10 then decide ((lo q).length=1∧(hi q).length=0) else decide ((lo q).length=0∧(hi q).length=0))
 && (if kd q=9 then decide (0≤bo q∧bo q≤1048576) else decide (bo q=0))
 && (if kd q=10 then decide (1≤op q∧op q≤3) else decide (op q=0))
 && (if kd q=9∨kd q=10 then decide ((kids q).length=1) else decide (kd q=8) || decide ((kids q).length=0))
mutual
def za0 (under:Int):QT→Bool
 | .mk k o f t u l h b p ks=>zf2 (.mk k o f t u l h b p ks) under && zat k ks
def zat (under:Int):List QT→Bool
 | []=>true
 | q::qs=>za0 under q && zat under qs
end
mutual
def zhc:QT→Nat
 | .mk _ _ _ _ _ _ _ _ _ ks=>zec ks+1
def zec:List QT→Nat
 | []=>0
 | q::qs=>max (zhc q) (zec qs)
end
theorem ze6 (under:Int) (q:QT):za0 under q=(zf2 q under && zat (kd q) (kids q)):=by cases q;rw[za0];rfl
theorem zos {u:Int} {ks:List QT} {k:Nat} (h:k<ks.length):zat u (ks.drop k)=(za0 u ks[k] && zat u (ks.drop (k+1))):=by rw[List.drop_eq_getElem_cons h,zat]
def yan (n:Nat):UInt8:=if n<10 then UInt8.ofNat (48+n) else UInt8.ofNat (55+n)
def zb1 (c:UInt8):List UInt8:=if c=34∨c=92 then [92,c] else if c.toNat<32∨127≤c.toNat then [92,120,yan (c.toNat / 16),yan (c.toNat % 16)] else [c]
def zcw (s:ByteArray):List UInt8:=34::(s.data.toList.flatMap zb1++[34])
def wordF:Int→List UInt8
 | 1=> "all".toUTF8.data.toList
 | 2=> "none".toUTF8.data.toList
 | 3=> "term".toUTF8.data.toList
 | 4=> "phrase".toUTF8.data.toList
 | 5=> "prefix".toUTF8.data.toList
 | 6=> "terms".toUTF8.data.toList
 | 7=> "range".toUTF8.data.toList
 | 8=> "bool".toUTF8.data.toList
 | 9=> "boost".toUTF8.data.toList
 | 10=> "weigh".toUTF8.data.toList
 | _=>[]
def opF:Int→List UInt8
 | 1=> "add".toUTF8.data.toList
 | 2=> "mul".toUTF8.data.toList
 | 3=> "max".toUTF8.data.toList
 | _=>[]
def markF:Int→List UInt8
 | 1=>[43]
 | 2=>[63]
 | 3=>[45]
 | 4=>[61]
 | _=>[]
def zby (sep:List UInt8):List (List UInt8)→List UInt8
 | []=>[]
 | [a]=>a
 | a::b::l=>a++sep++zby sep (b::l)
theorem ziu (sep:List UInt8):∀(l:List (List UInt8)) (x:List UInt8),zby sep (l++[x])=(if l=[] then x else zby sep l++sep++x)
 | [],x=>rfl
 | [a],x=>by simp[zby]
 | a::b::l,x=>by rw[List.cons_append,List.cons_append,zby,←List.cons_append,ziu sep (b::l) x];simp[zby,List.append_assoc]
section
variable (num:Int→List UInt8)
def zcu (l:List Int):List UInt8:=zby [32] (l.map num)
def zhh (q:QT):List (List UInt8):=
 if kd q=3∨kd q=4∨kd q=5 then [(fd q).data.toList,zcw (tx q)]
 else if kd q=6 then [(fd q).data.toList,zcw (tx q),zcw (up q)]
 else if kd q=7 then [(fd q).data.toList,zcu num (lo q),zcu num (hi q)]
 else if kd q=9 then [num (bo q)]
 else if kd q=10 then [opF (op q),(fd q).data.toList,zcu num (lo q)]
 else []
mutual
def zbw:QT→List UInt8
 | .mk k o f t u l h b p ks=>if k=1∨k=2 then wordF k else wordF k++40::(zby [44,32] (zhh num (.mk k o f t u l h b p ks)++zbm ks)++[41])
def zbm:List QT→List (List UInt8)
 | []=>[]
 | q::qs=>(markF (oc q)++zbw q)::zbm qs
end
theorem zke:∀l:List QT,zbm num l=l.map fun q=>markF (oc q)++zbw num q
 | []=>by simp[zbm]
 | q::l=>by rw[zbm,zke l];rfl
def ziv (q:QT):List UInt8:=if za0 0 q then zbw num q else []
end
end QryP
end
section
namespace FoldP
def inB (r lo hi:Int):Bool:=decide (lo≤r) && decide (r≤hi)
def zf8 (r:Int):List Int→Bool
 | a::b::l=>inB r a b || zf8 r l
 | _=>false
def yje:List Int:=[0x41,0x5A,0xC0,0xD6,0xD8,0xDE,0x391,0x3A1,0x3A3,0x3AB,0x410,0x42F]
def yjf:List Int:=[0x100,0x12F,0x132,0x137,0x14A,0x177,0x460,0x481,0x48A,0x4BF,0x4D0,0x52F]
def yjg:List Int:=[0x139,0x148,0x179,0x17E,0x4C1,0x4CE]
def za7 (r:Int):Int:=
 if zf8 r yje then r+0x20
 else if zf8 r yjf then r - r % 2+1
 else if zf8 r yjg then r+r % 2
 else if inB r 0x388 0x38A then r+0x25
 else if inB r 0x38E 0x38F then r+0x3F
 else if inB r 0x400 0x40F then r+0x50
 else if r=0x178 then 0xFF
 else if r=0x4C0 then 0x4CF
 else if r=0x386 then 0x3AC
 else if r=0x38C then 0x3CC
 else r
def zwi:List Int:=[0x41,0x5A,0x61,0x7A,0xAA,0xAA,0xB5,0xB5,0xBA,0xBA,0xC0,0xD6,0xD8,0xF6,0xF8,0x2AF,0x370,0x373,0x376,0x377,0x37B,0x37D,0x37F,0x37F,0x386,0x386,0x388,0x38A,0x38C,0x38C,0x38E,0x3A1,0x3A3,0x3F5,0x3F7,0x481,0x48A,0x52F,0x5D0,0x5EA,0x620,0x64A,0x904,0x939,0x3041,0x3096,0x30A1,0x30FA,0x4E00,0x9FFF,0xAC00,0xD7A3]
def yc9:List Int:=[0x30,0x39,0x660,0x669,0x966,0x96F,0xFF10,0xFF19]
def yf3:List Int:=[0x300,0x36F,0x483,0x489,0x591,0x5BD,0x64B,0x65F,0x93C,0x93C,0x20D0,0x20F0,0xFE20,0xFE2F]
def zfh (r:Int):Bool:=zf8 r zwi
def zh2 (r:Int):Bool:=zf8 r yc9
def markF (r:Int):Bool:=zf8 r yf3
theorem yao {r lo hi:Int}:inB r lo hi=true↔lo≤r∧r≤hi:=by simp[inB]
theorem zot {r lo hi:Int}:inB r lo hi=false↔¬(lo≤r∧r≤hi):=by simp[inB]
theorem zdm (r:Int):za7 r =
 if (0x41≤r∧r≤0x5A)∨(0xC0≤r∧r≤0xD6)∨(0xD8≤r∧r≤0xDE)∨(0x391≤r∧r≤0x3A1)∨(0x3A3≤r∧r≤0x3AB)∨(0x410≤r∧r≤0x42F) then r+0x20
 else if (0x100≤r∧r≤0x12F)∨(0x132≤r∧r≤0x137)∨(0x14A≤r∧r≤0x177)∨(0x460≤r∧r≤0x481)∨(0x48A≤r∧r≤0x4BF)∨(0x4D0≤r∧r≤0x52F) then r - r % 2+1
 else if (0x139≤r∧r≤0x148)∨(0x179≤r∧r≤0x17E)∨(0x4C1≤r∧r≤0x4CE) then r+r % 2
 else if 0x388≤r∧r≤0x38A then r+0x25
 else if 0x38E≤r∧r≤0x38F then r+0x3F
 else if 0x400≤r∧r≤0x40F then r+0x50
 else if r=0x178 then 0xFF
 else if r=0x4C0 then 0x4CF
 else if r=0x386 then 0x3AC
 else if r=0x38C then 0x3CC
 else r:=by
 unfold za7;simp only[zf8,yje,yjf,yjg,inB,Bool.or_eq_true,Bool.and_eq_true,decide_eq_true_eq,Bool.false_eq_true,or_false]
def zq7 (r odd:Int):Int:=if r % 2=odd then r+1 else r
def isA (r:Int):Prop:=(0x41≤r∧r≤0x5A)∨(0xC0≤r∧r≤0xD6)∨(0xD8≤r∧r≤0xDE)∨(0x391≤r∧r≤0x3A1)∨(0x3A3≤r∧r≤0x3AB)∨(0x410≤r∧r≤0x42F)
def isB (r:Int):Prop:=(0x100≤r∧r≤0x12F)∨(0x132≤r∧r≤0x137)∨(0x14A≤r∧r≤0x177)∨(0x460≤r∧r≤0x481)∨(0x48A≤r∧r≤0x4BF)∨(0x4D0≤r∧r≤0x52F)
def isC (r:Int):Prop:=(0x139≤r∧r≤0x148)∨(0x179≤r∧r≤0x17E)∨(0x4C1≤r∧r≤0x4CE)
theorem yh8 (r:Int) (h:isA r):r+0x20=za7 r:=by
 simp only[isA] at *;rw[zdm,if_pos h]
theorem yh9 (r:Int) (h:isB r):zq7 r 0=za7 r:=by
 have a:¬isA r:=by unfold isA isB at *;omega
 simp only[isA,isB] at *;rw[zdm,if_neg a,if_pos h,zq7];split <;> omega
theorem yia (r:Int) (h:isC r):zq7 r 1=za7 r:=by
 have a:¬isA r:=by unfold isA isC at *;omega
 have b:¬isB r:=by unfold isB isC at *;omega
 simp only[isA,isB,isC] at *;rw[zdm,if_neg a,if_neg b,if_pos h,zq7];split <;> omega
theorem yib (r:Int) (h:0x388≤r∧r≤0x38A):r+0x25=za7 r:=by
 have a:¬isA r:=by unfold isA;omega
 have b:¬isB r:=by unfold isB;omega
 have c:¬isC r:=by unfold isC;omega
 simp only[isA,isB,isC] at *;rw[zdm,if_neg a,if_neg b,if_neg c,if_pos h]
theorem yic (r:Int) (h:0x38E≤r∧r≤0x38F):r+0x3F=za7 r:=by
 have a:¬isA r:=by unfold isA;omega
 have b:¬isB r:=by unfold isB;omega
 have c:¬isC r:=by unfold isC;omega
 simp only[isA,isB,isC] at *;rw[zdm,if_neg a,if_neg b,if_neg c,if_neg (by omega),if_pos h]
theorem yid (r:Int) (h:0x400≤r∧r≤0x40F):r+0x50=za7 r:=by
 have a:¬isA r:=by unfold isA;omega
 have b:¬isB r:=by unfold isB;omega
 have c:¬isC r:=by unfold isC;omega
 simp only[isA,isB,isC] at *;rw[zdm,if_neg a,if_neg b,if_neg c,if_neg (by omega),if_neg (by omega),if_pos h]
theorem ydv:za7 0x178=0xFF:=by decide
theorem ydw:za7 0x4C0=0x4CF:=by decide
theorem ydx:za7 0x386=0x3AC:=by decide
theorem ydy:za7 0x38C=0x3CC:=by decide
theorem yf4 (r:Int) (a:¬isA r) (b:¬isB r) (c:¬isC r) (d:¬(0x388≤r∧r≤0x38A)) (e:¬(0x38E≤r∧r≤0x38F)) (f:¬(0x400≤r∧r≤0x40F))
 (g1:¬r=0x178) (g2:¬r=0x4C0) (g3:¬r=0x386) (g4:¬r=0x38C):r=za7 r:=by
 simp only[isA,isB,isC] at *;rw[zdm,if_neg a,if_neg b,if_neg c,if_neg d,if_neg e,if_neg f,if_neg g1,if_neg g2,if_neg g3,if_neg g4]
def zgu (r:Int):Prop:=(0x41≤r∧r≤0x5A)∨(0x61≤r∧r≤0x7A)∨(0xAA≤r∧r≤0xAA)∨(0xB5≤r∧r≤0xB5)∨(0xBA≤r∧r≤0xBA)∨(0xC0≤r∧r≤0xD6)∨(0xD8≤r∧r≤0xF6)∨(0xF8≤r∧r≤0x2AF)∨(0x370≤r∧r≤0x373)∨(0x376≤r∧r≤0x377)∨(0x37B≤r∧r≤0x37D)∨(0x37F≤r∧r≤0x37F)∨(0x386≤r∧r≤0x386)∨(0x388≤r∧r≤0x38A)∨(0x38C≤r∧r≤0x38C)∨(0x38E≤r∧r≤0x3A1)∨(0x3A3≤r∧r≤0x3F5)∨(0x3F7≤r∧r≤0x481)∨(0x48A≤r∧r≤0x52F)∨(0x5D0≤r∧r≤0x5EA)∨(0x620≤r∧r≤0x64A)∨(0x904≤r∧r≤0x939)∨(0x3041≤r∧r≤0x3096)∨(0x30A1≤r∧r≤0x30FA)∨(0x4E00≤r∧r≤0x9FFF)∨(0xAC00≤r∧r≤0xD7A3)
theorem zmf (r:Int):zfh r=true↔zgu r:=by
 unfold zfh zgu;simp only[zf8,zwi,inB,Bool.or_eq_true,Bool.and_eq_true,decide_eq_true_eq,Bool.false_eq_true,or_false]
theorem zq8 (r:Int) (h:zgu r):zfh r=true:=(zmf r).2 h
theorem zou (r:Int) (h:¬zgu r):zfh r=false:=by
 cases e:zfh r
 ·rfl
 ·exact absurd ((zmf r).1 e) h
def ziw (r:Int):Prop:=(0x30≤r∧r≤0x39)∨(0x660≤r∧r≤0x669)∨(0x966≤r∧r≤0x96F)∨(0xFF10≤r∧r≤0xFF19)
theorem zov (r:Int):zh2 r=true↔ziw r:=by
 unfold zh2 ziw;simp only[zf8,yc9,inB,Bool.or_eq_true,Bool.and_eq_true,decide_eq_true_eq,Bool.false_eq_true,or_false]
theorem zud (r:Int) (h:ziw r):zh2 r=true:=(zov r).2 h
theorem zq9 (r:Int) (h:¬ziw r):zh2 r=false:=by
 cases e:zh2 r
 ·rfl
 ·exact absurd ((zov r).1 e) h
def zmg (r:Int):Prop:=(0x300≤r∧r≤0x36F)∨(0x483≤r∧r≤0x489)∨(0x591≤r∧r≤0x5BD)∨(0x64B≤r∧r≤0x65F)∨(0x93C≤r∧r≤0x93C)∨(0x20D0≤r∧r≤0x20F0)∨(0xFE20≤r∧r≤0xFE2F)
theorem zsw (r:Int):markF r=true↔zmg r:=by
 unfold markF zmg;simp only[zf8,yf3,inB,Bool.or_eq_true,Bool.and_eq_true,decide_eq_true_eq,Bool.false_eq_true,or_false]
theorem zwj (r:Int) (h:zmg r):markF r=true:=(zsw r).2 h
theorem zue (r:Int) (h:¬zmg r):markF r=false:=by
 cases e:markF r
 ·rfl
 ·exact absurd ((zsw r).1 e) h
end FoldP
end
section
namespace FoldP
open Go.Lib Go
def odd:Nat × Nat:=(65533,1)
def acc (l:List UInt8) (r0:Int):Nat→Int
 | 0=>r0
 | k+1=>acc l r0 k*64+((l.getD (k+1) 0).toNat % 64:Nat)
def good (l:List UInt8) (r:Int) (n:Nat):Bool:=Lib.validRune r && decide (encodeRune r=l.take n)
def zwk (l:List UInt8) (at_:Int):Int × Int:=
 if 0≤at_∧at_<l.length then (((decodeL (l.drop at_.toNat)).1:Int),((decodeL (l.drop at_.toNat)).2:Int)) else (0,0)
end FoldP
end
section
namespace FoldP
open Go.Lib Go
def zf9:Nat→Nat→List UInt8→List (Nat × Int)
 | 0,_,_=>[]
 | f+1,p,l=>if l=[] then [] else (p,((decodeL l).1:Int))::zf9 f (p+(decodeL l).2) (l.drop (decodeL l).2)
def zbb (p:Nat) (l:List UInt8):List (Nat × Int):=zf9 l.length p l
def zbe (l:List UInt8):List (Nat × Int):=zbb 0 l
theorem zdb:∀f p,zf9 f p []=[]
 | 0,_=>rfl
 | _+1,_=>by simp[zf9]
theorem zjf:∀(n m p:Nat) (l:List UInt8),l.length≤n→l.length≤m→zf9 n p l=zf9 m p l
 | 0,m,p,l,hn,_=>by have:l=[]:=List.eq_nil_of_length_eq_zero (by omega);subst this;rw[zdb,zdb]
 | n+1,0,p,l,_,hm=>by have:l=[]:=List.eq_nil_of_length_eq_zero (by omega);subst this;rw[zdb,zdb]
 | n+1,m+1,p,l,hn,hm=>by
  by_cases hne:l=[]
  ·subst hne;rw[zdb,zdb]
  ·have hw:=decodeL_width l;have hl:0<l.length:=List.length_pos_iff.2 hne;simp only[zf9,if_neg hne];rw[zjf n m _ _ (by rw[List.length_drop];omega) (by rw[List.length_drop];omega)]
theorem zl6 (p:Nat) (l:List UInt8) (hne:l≠[]):zbb p l=(p,((decodeL l).1:Int))::zbb (p+(decodeL l).2) (l.drop (decodeL l).2):=by
 have hw:=decodeL_width l;have hl:0<l.length:=List.length_pos_iff.2 hne;unfold zbb
 obtain ⟨n,hn⟩:∃n,l.length=n+1:=⟨l.length - 1,by omega⟩
 rw[hn];simp only[zf9,if_neg hne];rw[zjf n _ _ _ (by rw[List.length_drop];omega) (Nat.le_refl _)]
theorem zhi (l:List UInt8) (k:Nat) (h:k<l.length) :
 zbb k (l.drop k)=(k,((decodeL (l.drop k)).1:Int))::zbb (k+(decodeL (l.drop k)).2) (l.drop (k+(decodeL (l.drop k)).2)):=by
 rw[zl6 _ _ (by intro e;have:=congrArg List.length e;simp at this;omega),List.drop_drop]
theorem zcx (l:List UInt8) (k:Nat) (h:l.length≤k):zbb k (l.drop k)=[]:=by
 rw[List.drop_eq_nil_of_le h];rfl
theorem zga (l:List UInt8) (k:Nat) (h:k<l.length):1≤(decodeL (l.drop k)).2∧k+(decodeL (l.drop k)).2≤l.length:=by
 have hne:l.drop k≠[]:=by intro e;have:=congrArg List.length e;simp at this;omega
 have h1:=decodeL_le _ hne;rw[List.length_drop] at h1;exact ⟨decodeL_width _,by omega⟩
theorem zh3 (l:List UInt8):∀(f k:Nat),l.length - k≤f→∀x∈zbb k (l.drop k),k≤x.1∧x.1<l.length∧x.2=((decodeL (l.drop x.1)).1:Int)
 | 0,k,hf,x,hx=>by rw[zcx l k (by omega)] at hx;cases hx
 | f+1,k,hf,x,hx=>by
  by_cases h:k<l.length
  ·rw[zhi l k h] at hx;have hs:=zga l k h;rcases List.mem_cons.1 hx with rfl | hx
   ·exact ⟨Nat.le_refl _,h,rfl⟩
   ·have:=zh3 l f _ (by omega) x hx;exact ⟨by omega,this.2⟩
  ·rw[zcx l k (by omega)] at hx;cases hx
theorem zgv {l:List UInt8} {x:Nat × Int} (h:x∈zbe l):x.1<l.length∧x.2=((decodeL (l.drop x.1)).1:Int):=by
 have:=zh3 l l.length 0 (by omega) x (by simpa [zbe] using h);exact this.2
theorem zfw (l:List UInt8):∀(f k:Nat),l.length - k≤f→(zbb k (l.drop k)).length≤l.length - k
 | 0,k,hf=>by rw[zcx l k (by omega)];simp
 | f+1,k,hf=>by
  by_cases h:k<l.length
  ·rw[zhi l k h];have hs:=zga l k h;have:=zfw l f (k+(decodeL (l.drop k)).2) (by omega);simp only[List.length_cons];omega
  ·rw[zcx l k (by omega)];simp
theorem zd3 (l:List UInt8):(zbe l).length≤l.length:=by
 have:=zfw l l.length 0 (by omega);simpa [zbe] using this
def zjg:Nat→List UInt8→List UInt8
 | 0,_=>[]
 | f+1,l=>if l=[] then [] else (if za7 (decodeL l).1=(decodeL l).1 then l.take (decodeL l).2 else encodeRune (za7 (decodeL l).1))++zjg f (l.drop (decodeL l).2)
def ze7 (l:List UInt8):List UInt8:=zjg l.length l
theorem zd9:∀f,zjg f []=[]
 | 0=>rfl
 | _+1=>by simp[zjg]
theorem zkf:∀(n m:Nat) (l:List UInt8),l.length≤n→l.length≤m→zjg n l=zjg m l
 | 0,m,l,hn,_=>by have:l=[]:=List.eq_nil_of_length_eq_zero (by omega);subst this;rw[zd9,zd9]
 | n+1,0,l,_,hm=>by have:l=[]:=List.eq_nil_of_length_eq_zero (by omega);subst this;rw[zd9,zd9]
 | n+1,m+1,l,hn,hm=>by
  by_cases hne:l=[]
  ·subst hne;rw[zd9,zd9]
  ·have hw:=decodeL_width l;have hl:0<l.length:=List.length_pos_iff.2 hne;simp only[zjg,if_neg hne];rw[zkf n m _ (by rw[List.length_drop];omega) (by rw[List.length_drop];omega)]
def zhj (l:List UInt8):List UInt8:=if za7 (decodeL l).1=(decodeL l).1 then l.take (decodeL l).2 else encodeRune (za7 (decodeL l).1)
theorem zix (l:List UInt8) (hne:l≠[]):ze7 l=zhj l++ze7 (l.drop (decodeL l).2):=by
 have hw:=decodeL_width l;have hl:0<l.length:=List.length_pos_iff.2 hne;unfold ze7 zhj
 obtain ⟨n,hn⟩:∃n,l.length=n+1:=⟨l.length - 1,by omega⟩
 rw[hn];simp only[zjg,if_neg hne];rw[zkf n _ _ (by rw[List.length_drop];omega) (Nat.le_refl _)]
theorem yf5 (l:List UInt8) (k:Nat) (h:k<l.length):ze7 (l.drop k)=zhj (l.drop k)++ze7 (l.drop (k+(decodeL (l.drop k)).2)):=by
 rw[zix _ (by intro e;have:=congrArg List.length e;simp at this;omega),List.drop_drop]
theorem zwl (l:List UInt8) (k:Nat) (h:l.length≤k):ze7 (l.drop k)=[]:=by rw[List.drop_eq_nil_of_le h];rfl
theorem zhk (r:Int) (h0:0≤r) (h:za7 r≠r):(r<128∧0≤za7 r∧za7 r<128)∨(128≤r∧r<2048∧128≤za7 r∧za7 r<2048):=by
 revert h;rw[zdm];repeat' split
 all_goals (intro h;omega)
theorem zwm (l:List UInt8) (h:(decodeL l).1≠65533):((decodeL l).1<128→(decodeL l).2=1)∧(128≤(decodeL l).1→(decodeL l).1<2048→(decodeL l).2=2):=by
 have hr:=runeLen_decode l h;unfold runeLen at hr;constructor
 ·intro h1;rw[if_neg (by omega),if_pos (by omega)] at hr;omega
 ·intro h1 h2;rw[if_neg (by omega),if_neg (by omega),if_pos (by omega)] at hr;omega
theorem zwn (l:List UInt8) (hne:l≠[]):(zhj l).length=(decodeL l).2:=by
 have hle:=decodeL_le l hne;unfold zhj;by_cases h:za7 (decodeL l).1=(decodeL l).1
 ·rw[if_pos h,List.length_take];omega
 ·rw[if_neg h];have hm:=zhk _ (by omega) h;have hodd:(decodeL l).1≠65533:=by omega
  have hw:=zwm l hodd;have e:(encodeRune (za7 ((decodeL l).1:Int))).length=(encodeRuneZ (za7 ((decodeL l).1:Int))).length:=by simp[encodeRune]
  rw[e];rcases hm with hm | hm
  ·rw[encodeRuneZ_one (by omega) (by omega)];have:=hw.1 (by omega);simp;omega
  ·rw[encodeRuneZ_two (by omega) (by omega)];have:=hw.2 (by omega) (by omega);simp;omega
end FoldP
end
