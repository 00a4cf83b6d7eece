/- Lemmas that the last text leans on. -/
import Derived.WalkKit
import Derived.Deep.AppendLies
import Derived.Deep.Draws
import Derived.Deep.OwnRows
import Derived.Maps.AppendAt
import Derived.RegionTactic
import Derived.OwnWalk
import Derived.ChangeSame
import Derived.Laws.Rows
import Derived.WalkLawsBesides
import Derived.WalkSpells
import Derived.Lib.Hide
import Derived.Lib.UnsafeStr
import Derived.Lib.RuneBytes
import Derived.Lib.Small
import Derived.Deep.Light
import Derived.Test.YtplkbdncgkgppaaGreatDoorRows
import Derived.Carry
import Derived.OpenShut
import Derived.ProofKit
import Derived.SizedLaws
set_option linter.all false
section
namespace Go.Proofs.YtplkbdncgkgppaaGreatDoor.Words
open Go.RowKit Go.WideShapes Go.ChangeShapes
theorem zab (a:Addr) (n:Nat):(a.add n).block=a.block:=by unfold Addr.add;split <;> rfl
theorem zdj (a:Addr) (i j:Nat):(a.add i).add j=a.add (i+j):=by
 unfold Addr.add;by_cases hi:i=0 <;> by_cases hj:j=0 <;> simp[hi,hj,Nat.add_assoc]
def Reads (w:World) (B size:Nat) (A:Option Addr) (n:Nat) (xs:List Value):Prop:=
 xs.length=n*size∧(0<n→∃ad,A=some ad∧ad.block<B∧∀j u,xs[j]?=some u→w.cell? (ad.add j)=some u)
section
variable {w w':World} {B B' size n:Nat} {A:Option Addr} {xs:List Value}
theorem Reads.none_:Reads w B size A 0 []:=⟨by simp,fun h=>absurd h (by omega)⟩
theorem Reads.at_ {k:Nat} (h:Reads w B 1 A n xs) (hk:k<n):∃ad u,A=some ad∧ad.block<B∧xs[k]?=some u∧w.cell? (ad.add k)=some u:=by
 obtain ⟨ad,e,hb,hc⟩:=h.2 (by omega);have hl:k<xs.length:=by have:=h.1;omega
 exact ⟨ad,xs[k],e,hb,List.getElem?_eq_getElem hl,hc k _ (List.getElem?_eq_getElem hl)⟩
theorem Reads.keep (h:Reads w B size A n xs) (hk:∀p:Addr,p.block<B→w'.cell? p=w.cell? p):Reads w' B size A n xs:=
 ⟨h.1,fun hn=>by
  obtain ⟨ad,e,hb,hc⟩:=h.2 hn
  exact ⟨ad,e,hb,fun j u hu=>(hk _ (by rw[zab];exact hb)).trans (hc j u hu)⟩⟩
theorem Reads.more (h:Reads w B size A n xs) (hB:B≤B'):Reads w B' size A n xs:=
 ⟨h.1,fun hn=>by
  obtain ⟨ad,e,hb,hc⟩:=h.2 hn
  exact ⟨ad,e,by omega,hc⟩⟩
theorem Reads.below (h:Reads w B size A n xs) (hb:Below B w w'):Reads w' B size A n xs:=h.keep fun _ hp=>hb.cell hp
theorem Reads.alloc (h:Reads w B size A n xs) (hB:B≤w.heap.size) (o:Obj):Reads (w.alloc o) B size A n xs:=h.keep fun p hp=>World.cell?_alloc_lt w o p (by omega)
theorem Reads.of_own {base:Nat} {e:TypeId} {c:Nat} (h:w.ownsRow base e size (.slice A n c) n xs):Reads w w.heap.size size A n xs:=by
 refine ⟨h.1,fun hn=>?_⟩;obtain ⟨g,cap,hv,_,hlt⟩:=h.form hn;have hA:A=some ⟨g,0,none⟩:=by injection hv
 subst hA;exact ⟨_,rfl,hlt,h.cells (g:=g) rfl⟩
end
def Blk (w:World) (g:Nat) (t:TypeId) (cs:Array Value):Prop:=w.heap[g]?=some (.cells cs t (0,0))
section
variable {w w':World} {g:Nat} {t:TypeId} {cs:Array Value}
theorem Blk.lt (h:Blk w g t cs):g<w.heap.size:=by
 rcases Nat.lt_or_ge g w.heap.size with hlt | hge
 ·exact hlt
 ·unfold Blk at h;rw[Array.getElem?_eq_none hge] at h;cases h
theorem Blk.cell (h:Blk w g t cs) (i:Nat):w.cell? ⟨g,i,none⟩=cs[i]?:=cell_of_row w g i cs t (0,0) h
theorem Blk.frozen (h:Blk w g t cs) (i:Nat):w.frozen? ⟨g,i,none⟩=false:=by
 unfold Blk at h;simp[World.frozen?,h]
theorem Blk.new (w:World) (t:TypeId) (cs:Array Value):Blk (w.alloc (.cells cs t)) w.heap.size t cs:=heap_alloc_new w _
theorem Blk.drew (h:Blk w g t cs):Blk w.drew g t cs:=h
theorem Blk.drewN (h:Blk w g t cs) (n:Nat):Blk (w.drewN n) g t cs:=h
theorem Blk.alloc (h:Blk w g t cs) (o:Obj):Blk (w.alloc o) g t cs:=(Below.heap_alloc w o g h.lt).trans h
theorem Blk.set_ (h:Blk w g t cs) (i:Nat) (u:Value):Blk (w.setCell ⟨g,i,none⟩ u) g t (cs.setIfInBounds i u):=by
 unfold Blk at h ⊢;simp[World.setCell,Array.getElem?_modify,h]
theorem Blk.far (h:Blk w g t cs) {p:Addr} (hp:g≠p.block) (u:Value):Blk (w.setCell p u) g t cs:=(Below.heap_setCell w p u g hp).trans h
theorem Blk.below {B:Nat} (h:Blk w g t cs) (hb:Below B w w') (hg:g<B):Blk w' g t cs:=(hb.block g hg).trans h
theorem Blk.grown {row:Option Nat} (h:Blk w g t cs) (hb:w.grownBy w' row) (hg:some g≠row):Blk w' g t cs:=(hb.block g h.lt hg).trans h
theorem Blk.ne_ {g':Nat} {t':TypeId} {cs':Array Value} (h:Blk w g t cs) (h':Blk w g' t' cs') (hne:t≠t'):g≠g':=by
 rintro rfl;unfold Blk at h h';rw[h] at h';injection h' with h';injection h' with _ ht;exact hne ht
theorem zfv {base:Nat} {e:TypeId} {size n:Nat} {v:Value} {xs:List Value} (h:w.ownsRow base e size v n xs) (hg:Blk w g t cs) (hne:e≠t):v.ownBlock≠some g:=by
 rcases h.2 with ⟨rfl,_⟩ | ⟨g',cap,cur,rfl,_,hh,_⟩
 ·simp[Value.ownBlock]
 ·intro he;have:g'=g:=by simpa [Value.ownBlock] using he
  subst this;exact Blk.ne_ (t:=e) hh hg hne rfl
end
section
variable {P:Program} (w:World)
theorem zh4 (base:Nat) (t ty e:TypeId) (i:TypeInfo) (size:Nat) (ht:P.underlying t=some (.slice e)) (hi:P.info? e=some i)
 (v:Value) (n:Nat) (xs:List Value) (hown:w.ownsRow base e size v n xs) (c:Nat):(Builtin.append_ #[t,t] ty #[v,.slice none 0 c]).run P w = .ok v w:=by
 rcases hown.2 with ⟨rfl,rfl⟩ | ⟨g,cap,cur,rfl,_,_,hnc,_⟩
 ·simp[Builtin.append_,run_underlying ht,sizeOf,typeInfo,hi,Builtin.lenOf,Builtin.firstCells]
 ·simp[Builtin.append_,run_underlying ht,sizeOf,typeInfo,hi,Builtin.lenOf,Builtin.firstCells,hnc,storeCells]
theorem zk7 (base:Nat) (t ty e:TypeId) (i:TypeInfo) (z:Value) (size bytes:Nat) (ht:P.underlying t=some (.slice e)) (hi:P.info? e=some i) (hz:i.zero=some z)
 (hsize:i.size=size) (hby:i.bytes=bytes) (hzs:z.cells.size=size) (hsz:0<size)
 (v:Value) (n:Nat) (xs:List Value) (hown:w.ownsRow base e size v n xs)
 (B:Nat) (A:Option Addr) (m c:Nat) (news:List Value) (hr:Reads w B size A m news) (h1:∀u∈news,u.oneCell'=true)
 (h63:n+m≤maxLen) (hbytes:(n+m)*bytes≤140737488355328) (hbase:base≤w.heap.size) :
 ∃v' w',(Builtin.append_ #[t,t] ty #[v,.slice A m c]).run P w = .ok v' w'∧w'.ownsRow base e size v' (n+m) (xs++news)∧w.grownBy w' v.ownBlock∧
  (v'.ownBlock=v.ownBlock∨v'.ownBlock=some w.heap.size):=by
 rcases A with _ | ad
 ·have hm:m=0:=by
   rcases Nat.eq_zero_or_pos m with h0 | h0
   ·exact h0
   ·obtain ⟨ad,h,_⟩:=hr.2 h0;cases h
  subst hm;have hn:news=[]:=List.eq_nil_of_length_eq_zero (by simpa using hr.1);subst hn;exact ⟨v,w,zh4 w base t ty e i size ht hi v n xs hown c,by simpa using hown,World.grownBy.refl w _,.inl rfl⟩
 ·have hcells:∀j u,news[j]?=some u→w.cell? (ad.add j)=some u:=by
   intro j u hu;rcases Nat.eq_zero_or_pos m with h0 | h0
   ·subst h0;have hn:news=[]:=List.eq_nil_of_length_eq_zero (by simpa using hr.1);subst hn;simp at hu
   ·obtain ⟨ad',h,_,hc⟩:=hr.2 h0;injection h with h;subst h;exact hc j u hu
  obtain ⟨v',w',hrun,h2,h3,_,h5⟩:=run_append_own_at (P:=P) w base t ty e i z size bytes ht hi hz hsize hby hzs hsz v n xs hown ad m c news hr.1 hcells h1 h63 hbytes hbase;exact ⟨v',w',hrun,h2,h3,h5⟩
theorem zhc {o:Oper} {a:Act} {K:Act→World→Prop} {Q:Exit→Act→World→Prop} (s x:Operand) (t:TypeId)
 (ho:o.op = .call { callee:=.builtin .append,args:=#[s,x],argTypes:=#[t,t] })
 (base:Nat) (e:TypeId) (i:TypeInfo) (z:Value) (size bytes:Nat) (ht:P.underlying t=some (.slice e)) (hi:P.info? e=some i) (hz:i.zero=some z)
 (hsize:i.size=size) (hby:i.bytes=bytes) (hzs:z.cells.size=size) (hsz:0<size)
 (v:Value) (n:Nat) (xs:List Value) (hs:a.eval s=v) (hown:w.ownsRow base e size v n xs)
 (B:Nat) (A:Option Addr) (m c:Nat) (news:List Value) (hx:a.eval x = .slice A m c) (hr:Reads w B size A m news) (h1:∀u∈news,u.oneCell'=true)
 (h63:n+m≤maxLen) (hbytes:(n+m)*bytes≤140737488355328) (hbase:base≤w.heap.size)
 (h:∀v' w',w'.ownsRow base e size v' (n+m) (xs++news)→w.grownBy w' v.ownBlock→(v'.ownBlock=v.ownBlock∨v'.ownBlock=some w.heap.size)→K (a.put o.dst v') w'):o.wp P a w K Q:=by
 obtain ⟨v',w',hrun,h2,h3,h4⟩:=zk7 (P:=P) w base t o.type e i z size bytes ht hi hz hsize hby hzs hsz v n xs hown B A m c news hr h1 h63 hbytes hbase;unfold Oper.wp execOp;simp only[ho,resolve,invoke,builtin,Sem.run_bind,Sem.run_pure,Result.andThen_ok,List.map_toArray,List.map_cons,List.map_nil,hs,hx,hrun];exact h v' w' h2 h3 h4
theorem zao {ops:Array Oper} {rest:List Oper} {o:Oper} {a:Act} {Q:Exit→Act→World→Prop} (hgd:o.guard=none) (s x:Operand) (t:TypeId)
 (ho:o.op = .call { callee:=.builtin .append,args:=#[s,x],argTypes:=#[t,t] })
 (base:Nat) (e:TypeId) (i:TypeInfo) (z:Value) (size bytes:Nat) (ht:P.underlying t=some (.slice e)) (hi:P.info? e=some i) (hz:i.zero=some z)
 (hsize:i.size=size) (hby:i.bytes=bytes) (hzs:z.cells.size=size) (hsz:0<size)
 (v:Value) (n:Nat) (xs:List Value) (hs:a.eval s=v) (hown:w.ownsRow base e size v n xs)
 (B:Nat) (A:Option Addr) (m c:Nat) (news:List Value) (hx:a.eval x = .slice A m c) (hr:Reads w B size A m news) (h1:∀u∈news,u.oneCell'=true)
 (h63:n+m≤maxLen) (hbytes:(n+m)*bytes≤140737488355328) (hbase:base≤w.heap.size)
 (h:∀v' w',w'.ownsRow base e size v' (n+m) (xs++news)→w.grownBy w' v.ownBlock→(v'.ownBlock=v.ownBlock∨v'.ownBlock=some w.heap.size)→wpList P ops Q rest (a.put o.dst v') w'):wpList P ops Q (o::rest) a w:=
 wpList_plain hgd fun _ hK=>zhc w s x t ho base e i z size bytes ht hi hz hsize hby hzs hsz v n xs hs hown B A m c news hx hr h1 h63 hbytes hbase fun v' w' h2 h3 h4=>hK _ _ (h v' w' h2 h3 h4)
theorem ze8 {ops:Array Oper} {o:Oper} {a:Act} {K:Act→World→Prop} {Q:Exit→Act→World→Prop} {E:Prop} (hgd:o.guard=none) (s x:Operand) (t:TypeId)
 (ho:o.op = .call { callee:=.builtin .append,args:=#[s,x],argTypes:=#[t,t] })
 (base:Nat) (e:TypeId) (i:TypeInfo) (z:Value) (size bytes:Nat) (ht:P.underlying t=some (.slice e)) (hi:P.info? e=some i) (hz:i.zero=some z)
 (hsize:i.size=size) (hby:i.bytes=bytes) (hzs:z.cells.size=size) (hsz:0<size)
 (v:Value) (n:Nat) (xs:List Value) (hs:a.eval s=v) (hown:w.ownsRow base e size v n xs)
 (B:Nat) (A:Option Addr) (m c:Nat) (news:List Value) (hx:a.eval x = .slice A m c) (hr:Reads w B size A m news) (h1:∀u∈news,u.oneCell'=true)
 (h63:n+m≤maxLen) (hbytes:(n+m)*bytes≤140737488355328) (hbase:base≤w.heap.size)
 (h:∀v' w',w'.ownsRow base e size v' (n+m) (xs++news)→w.grownBy w' v.ownBlock→(v'.ownBlock=v.ownBlock∨v'.ownBlock=some w.heap.size)→K (a.put o.dst v') w') :
 if Region.wanted o (yielded ops a.tmps)=true then Oper.wp P o a w K Q else E:=by
 have hw:Region.wanted o (yielded ops a.tmps)=true:=by simp[Region.wanted,hgd]
 rw[if_pos hw];exact zhc w s x t ho base e i z size bytes ht hi hz hsize hby hzs hsz v n xs hs hown B A m c news hx hr h1 h63 hbytes hbase h
end
theorem zaq {a w:World} {row:Option Nat} (h:a.grownBy w row) (n:Nat):a.grownBy (w.drewN n) row:=⟨h.os,h.tape,h.output,h.size,h.block⟩
theorem zac {a w:World} {g:Nat} (h:a.grownBy w (some g)) {p:Addr} (hp:p.block=g∨a.heap.size≤p.block) (u:Value):a.grownBy (w.setCell p u) (some g):=
 ⟨h.os,h.tape,h.output,by simpa [World.setCell] using h.size,fun i hi hne=>(Below.heap_setCell w p u i (by
  rintro rfl;rcases hp with hp | hp
  ·exact hne (by rw[hp])
  ·omega)).trans (h.block i hi hne)⟩
theorem only_of_below {a w:World} (h:Below a.heap.size a w) (row:Option Nat):a.grownBy w row:=⟨h.os,h.tape,h.output,h.size,fun i hi _=>h.block i hi⟩
section
variable {H:Type} {enc:TypeId × Value→H} {P:Program}
theorem zmd {f:Func} {s:ChangeSpec} {apart fresh handsOn again:Bool} {W W':World} {args:Array Value} {v:Value} {ds gs:List (DataW H)} {before pa pv:List MemPlace}
 (hW:DataW.Whole enc P f.params.toList s.vars apart W args.toList ds gs before)
 (hres:∀(b:Nat) (sp:Nat→Bool) (hd:Bool),DataW.TrodAll enc P W' b sp hd f.resultTypes.toList (v.resultList f.resultTypes.size) (s.fn H (ds++gs)).results [])
 (hargs:∀sp:Nat→Bool,(∀p∈before,sp p.block=true)→DataW.TrodAll enc P W' 0 sp true f.params.toList args.toList (s.fn H (ds++gs)).args pa)
 (hvars:∀sp:Nat→Bool,(∀p∈before,sp p.block=true)→DataW.TrodVars enc P W' sp s.vars (s.fn H (ds++gs)).vars pv)
 (hps:before=pa++pv) (hb:Below W.heap.size W W')
 (hok:∀(j:Nat) (t:TypeId) (r:Value),f.resultTypes[j]?=some t→(v.resultList f.resultTypes.size)[j]?=some r→Value.okWide P W' .any 0 t r) :
 s.post enc P f apart fresh handsOn again W args v W':=by
 have hlt:∀p∈before,p.block<W.heap.size:=fun p hp=>hW.lt p hp;have hold:∀p∈before,(fun b=>decide (b<W.heap.size)) p.block=true:=fun p hp=>by simpa using hlt p hp
 refine ⟨ds,gs,before,[],pa,pv,hW,hres _ _ _,hargs _ hold,hvars _ hold,World.keptBut_mono (fun p hp=>⟨hp,?_⟩) (hb.frame (·∈before)),fun _=>?_⟩
 ·rw[hps,List.mem_append] at hp;exact Or.inr hp
 ·obtain ⟨_,_,_,_,_,hz,hn⟩:=hW;refine ⟨hok,_,_,([]++pa)++pv,⟨[]++pa,pv,trodAll_append (hargs _ (fun _ _=>rfl)) (hres _ _ _),hvars _ (fun _ _=>rfl),rfl,?_,?_⟩,?_⟩
  ·intro b off hp;have hin:MemPlace.cell b off∈before:=by rw[hps];simpa using hp
   rw[hb.frozen (hlt _ hin)];exact hz b off hin
  ·intro ha;have:=hn ha;rw[hps] at this;simpa using this
  ·intro p hp _;rw[hps];simpa using hp
end
end Go.Proofs.YtplkbdncgkgppaaGreatDoor.Words
end
section
namespace Go.Proofs.YtplkbdncgkgppaaGreatDoor.Kit
open Go.RowKit Go.Lib
theorem yba {k:IntKind} {a b:Int} (h:a=b):Ending.returned (.int k a) = .returned (.int k b):=by rw[h]
theorem zfw {a b:Bool} (h:a=b):Ending.returned (.bool a) = .returned (.bool b):=by rw[h]
def str (l:List UInt8):ByteArray:=⟨l.toArray⟩
theorem zjo (r:Int):runeCells r=byteCells (encodeRune r):=(byteCells_encodeRune r).symm
end Go.Proofs.YtplkbdncgkgppaaGreatDoor.Kit
end
section
namespace Go.Proofs.YtplkbdncgkgppaaGreatDoor.Law
open Go.RowKit Go.WideShapes Go.ChangeShapes Words
theorem ygd {n:Int} (h:(Lit.int .i64 n).wf=true) : -9223372036854775808≤n∧n≤9223372036854775807:=by
 have h2:=h;simp only[Lit.wf,Bool.and_eq_true,decide_eq_true_eq] at h2;exact h2
section
variable {H:Type} {enc:TypeId × Value→H} {P:Program}
theorem zhd (hl:laidOutB P=true) {W W':World} {sp:Nat→Bool}:∀{ts:List TypeId} {vs:List Value} {ds:List (DataW H)} {ps:List MemPlace},(∀t∈ts,P.readableRec t=true∧t<P.types.size)→
 DataW.TrodAll enc P W 0 (fun _=>true) true ts vs ds ps→(∀p∈ps,W.sameAt W' p)→(∀p∈ps,sp p.block=true)→DataW.TrodAll enc P W' 0 sp true ts vs ds ps
 | [],_,_,_,_,h,_,_=>by obtain ⟨rfl,rfl,rfl⟩:=trodAll_nil h;rfl
 | t::ts,_,_,_,hr,h,hs,hp=>by
  obtain ⟨v,vs,d,ds,p,q,rfl,rfl,rfl,h0,h1⟩:=trodAll_cons h
  exact ⟨p,q,WideElems.Trod_stays hl (hr t (by simp)).1 (hr t (by simp)).2 h0 (fun x hx=>hs x (by simp[hx])) (fun x hx=>hp x (by simp[hx])),
   zhd hl (fun t ht=>hr t (by simp[ht])) h1 (fun x hx=>hs x (by simp[hx])) (fun x hx=>hp x (by simp[hx])),rfl⟩
theorem zyd {f:Func} {s:ChangeSpec} {tb:TypeId} {W W':World} {args:Array Value} {ds:List (DataW H)} {before:List MemPlace} (hl:laidOutB P=true) (hr:∀t∈f.params.toList,P.readableRec t=true∧t<P.types.size)
 (hB:P.underlying tb=some .bool) (hres:f.resultTypes=#[tb]) (hvars:s.vars=[]) (hs:s.fn H (ds++[])={ results:=[.lit (.bool true)],args:=ds })
 (hW:DataW.Whole enc P f.params.toList s.vars false W args.toList ds [] before) (hb:Below W.heap.size W W'):s.post enc P f false true false false W args (.bool true) W':=by
 have hW':=hW;obtain ⟨p,q,hA,hV,rfl,_,_⟩:=hW;rw[hvars] at hV;obtain ⟨_,rfl⟩:=trodVars_none hV;refine zmd (pa:=p) (pv:=[]) hW' ?_ ?_ ?_ rfl hb (ok_one hres rfl (okWide_bool_mk hB _))
 ·intro b sp hd;rw[hs,hres];exact trodAll_cons_mk (shut_bool hB _) trodAll_mk0
 ·intro sp hsp;rw[hs];exact zhd hl hr hA (fun x hx=>hb.same (hW'.lt x (by simp[hx]))) (fun x hx=>hsp x (by simp[hx]))
 ·intro sp _;rw[hvars,hs];rfl
end
end Go.Proofs.YtplkbdncgkgppaaGreatDoor.Law
end
section
namespace QryP
open Go
inductive QT where
 | mk (kind occur:Int) (field text upto:ByteArray) (low high:List Int) (boost op:Int) (kids:List QT)
noncomputable def QT.sz (q:QT):Nat:=SizeOf.sizeOf q
theorem QT.sz_pos (q:QT):0<q.sz:=by cases q;simp only[QT.sz,QT.mk.sizeOf_spec];omega
theorem QT.sz_kid {kd oc:Int} {f t u:ByteArray} {lo hi:List Int} {b op:Int} {ks:List QT} {k:QT} (h:k∈ks):k.sz<(QT.mk kd oc f t u lo hi b op ks).sz:=by
 have:=List.sizeOf_lt_of_mem h;simp only[QT.sz,QT.mk.sizeOf_spec];omega
end QryP
end
section
namespace SchP
def zno (i:Nat) (c:UInt8):Bool:=decide (97≤c.toNat∧c.toNat≤122) || decide (c.toNat=95) || (decide (0<i) && decide (48≤c.toNat∧c.toNat≤57))
def ze9:Nat→List UInt8→Bool
 | _,[]=>true
 | i,c::l=>zno i c && ze9 (i+1) l
def zbx (s:ByteArray):Bool:=ze9 0 s.data.toList && decide (1≤s.size) && decide (s.size≤24)
theorem zpw {l:List UInt8} {k:Nat} (h:k<l.length):ze9 k (l.drop k)=(zno k l[k] && ze9 (k+1) (l.drop (k+1))):=by
 rw[List.drop_eq_getElem_cons h,ze9]
end SchP
end
section
namespace QryP
open SchP
def kd:QT→Int | .mk k _ _ _ _ _ _ _ _ _=>k
def oc:QT→Int | .mk _ o _ _ _ _ _ _ _ _=>o
def fd:QT→ByteArray | .mk _ _ f _ _ _ _ _ _ _=>f
def tx:QT→ByteArray | .mk _ _ _ t _ _ _ _ _ _=>t
def up:QT→ByteArray | .mk _ _ _ _ u _ _ _ _ _=>u
def lo:QT→List Int | .mk _ _ _ _ _ l _ _ _ _=>l
def hi:QT→List Int | .mk _ _ _ _ _ _ h _ _ _=>h
def bo:QT→Int | .mk _ _ _ _ _ _ _ b _ _=>b
def op:QT→Int | .mk _ _ _ _ _ _ _ _ o _=>o
def kids:QT→List QT | .mk _ _ _ _ _ _ _ _ _ k=>k
def zja (q:QT) (under:Int):Bool:=
 (if under=8 then decide (1≤oc q∧oc q≤4) else decide (oc q=0)) && decide (1≤kd q∧kd q≤10)
 && (if 3≤kd q∧kd q≤7∨kd q=10 then zbx (fd q) else decide ((fd q).size=0))
 && (decide (3≤kd q∧kd q≤6) || decide ((tx q).size=0)) && (decide (kd q=6) || decide ((up q).size=0))
 && (if kd q=7 then decide (1≤(lo q).length∧(lo q).length≤4∧(hi q).length=(lo q).length) else if kd q=10 then decide ((lo q).length=1∧(hi q).length=0) else decide ((lo q).length=0∧(hi q).length=0))
 && (if kd q=9 then decide (0≤bo q∧bo q≤1048576) else decide (bo q=0))
 && (if kd q=10 then decide (1≤op q∧op q≤3) else decide (op q=0))
 && (if kd q=9∨kd q=10 then decide ((kids q).length=1) else decide (kd q=8) || decide ((kids q).length=0))
mutual
def zba (under:Int):QT→Bool
 | .mk k o f t u l h b p ks=>zja (.mk k o f t u l h b p ks) under && za5 k ks
def za5 (under:Int):List QT→Bool
 | []=>true
 | q::qs=>zba under q && za5 under qs
end
mutual
def zgq:QT→Nat
 | .mk _ _ _ _ _ _ _ _ _ ks=>zdn ks+1
def zdn:List QT→Nat
 | []=>0
 | q::qs=>max (zgq q) (zdn qs)
end
theorem zfx (under:Int) (q:QT):zba under q=(zja q under && za5 (kd q) (kids q)):=by cases q;rw[zba];rfl
theorem znp {u:Int} {ks:List QT} {k:Nat} (h:k<ks.length):za5 u (ks.drop k)=(zba u ks[k] && za5 u (ks.drop (k+1))):=by rw[List.drop_eq_getElem_cons h,za5]
def zye (n:Nat):UInt8:=if n<10 then UInt8.ofNat (48+n) else UInt8.ofNat (55+n)
def zbs (c:UInt8):List UInt8:=if c=34∨c=92 then [92,c] else if c.toNat<32∨127≤c.toNat then [92,120,zye (c.toNat / 16),zye (c.toNat % 16)] else [c]
def zcf (s:ByteArray):List UInt8:=34::(s.data.toList.flatMap zbs++[34])
def wordF:Int→List UInt8
 | 1=> "all".toUTF8.data.toList
 | 2=> "none".toUTF8.data.toList
 | 3=> "term".toUTF8.data.toList
 | 4=> "phrase".toUTF8.data.toList
 | 5=> "prefix".toUTF8.data.toList
 | 6=> "terms".toUTF8.data.toList
 | 7=> "range".toUTF8.data.toList
 | 8=> "bool".toUTF8.data.toList
 | 9=> "boost".toUTF8.data.toList
 | 10=> "weigh".toUTF8.data.toList
 | _=>[]
def opF:Int→List UInt8
 | 1=> "add".toUTF8.data.toList
 | 2=> "mul".toUTF8.data.toList
 | 3=> "max".toUTF8.data.toList
 | _=>[]
def markF:Int→List UInt8
 | 1=>[43]
 | 2=>[63]
 | 3=>[45]
 | 4=>[61]
 | _=>[]
def zbq (sep:List UInt8):List (List UInt8)→List UInt8
 | []=>[]
 | [a]=>a
 | a::b::l=>a++sep++zbq sep (b::l)
theorem zh5 (sep:List UInt8):∀(l:List (List UInt8)) (x:List UInt8),zbq sep (l++[x])=(if l=[] then x else zbq sep l++sep++x)
 | [],x=>rfl
 | [a],x=>by simp[zbq]
 | a::b::l,x=>by rw[List.cons_append,List.cons_append,zbq,←List.cons_append,zh5 sep (b::l) x];simp[zbq,List.append_assoc]
section
variable (num:Int→List UInt8)
def zce (l:List Int):List UInt8:=zbq [32] (l.map num)
def zgv (q:QT):List (List UInt8):=
 if kd q=3∨kd q=4∨kd q=5 then [(fd q).data.toList,zcf (tx q)]
 else if kd q=6 then [(fd q).data.toList,zcf (tx q),zcf (up q)]
 else if kd q=7 then [(fd q).data.toList,zce num (lo q),zce num (hi q)]
 else if kd q=9 then [num (bo q)]
 else if kd q=10 then [opF (op q),(fd q).data.toList,zce num (lo q)]
 else []
mutual
def zbp:QT→List UInt8
 | .mk k o f t u l h b p ks=>if k=1∨k=2 then wordF k else wordF k++40::(zbq [44,32] (zgv num (.mk k o f t u l h b p ks)++zbj ks)++[41])
def zbj:List QT→List (List UInt8)
 | []=>[]
 | q::qs=>(markF (oc q)++zbp q)::zbj qs
end
theorem zjp:∀l:List QT,zbj num l=l.map fun q=>markF (oc q)++zbp num q
 | []=>by simp[zbj]
 | q::l=>by rw[zbj,zjp l];rfl
def zh6 (q:QT):List UInt8:=if zba 0 q then zbp num q else []
end
end QryP
end
section
namespace QryP
open SchP
abbrev R:=List UInt8
abbrev E (α:Type):=Except (Nat × Int) α
def zrj (c:UInt8):Bool:=decide (c=9∨c=10∨c=13∨c=32)
def digB (c:UInt8):Bool:=decide (48≤c.toNat∧c.toNat≤57)
def zco (c:UInt8):Bool:=decide (97≤c.toNat∧c.toNat≤122) || digB c || decide (c=95)
def zaf (r:R):R:=r.dropWhile zrj
def zaj (c:UInt8) (r:R):E R:=match zaf r with
 | []=>.error (0,180)
 | x::t=>if x=c then .ok t else .error (t.length+1,180)
def bytes (l:R):ByteArray:=⟨l.toArray⟩
def zdo (r:R):E (ByteArray × R):=if zbx (bytes ((zaf r).takeWhile zco)) then .ok (bytes ((zaf r).takeWhile zco),(zaf r).dropWhile zco) else .error ((zaf r).length,180)
section
variable (num:Int→R) (par:R→Option Int)
def zhe (f:R):R:=if f.head?=some 45 then [45] else []
def zjq (f:R):R:=if f.head?=some 45 then f.drop 1 else f
def zgp (r:R):E (Int × R):=match par (zhe (zaf r)++(zjq (zaf r)).takeWhile digB) with
 | none=>.error ((zaf r).length,180)
 | some n=>if num n=zhe (zaf r)++(zjq (zaf r)).takeWhile digB then .ok (n,(zjq (zaf r)).dropWhile digB) else .error ((zaf r).length,180)
def zgw:Nat→R→E (List Int × R)
 | 0,_=>.error (0,0)
 | m+1,r=>match zgp num par r with
  | .error e=>.error e
  | .ok (n,r1)=>match zaf r1 with
    | []=>.ok ([n],[])
    | c::t=>if ¬(c=45∨digB c=true) then .ok ([n],c::t) else if (c::t).length=r1.length then .error (r1.length,180) else match zgw m (c::t) with
     | .error e=>.error e
     | .ok (l,r2)=>.ok (n::l,r2)
end
def znq (c:UInt8):Option Nat:=if digB c then some (c.toNat - 48) else if 65≤c.toNat∧c.toNat≤70 then some (c.toNat - 55) else none
def zfa (c:UInt8):E (R × R)→E (R × R)
 | .error e=>.error e
 | .ok (b,r)=>.ok (c::b,r)
def zed (at_:Nat):R→E (R × R)
 | []=>.error (at_,180)
 | c::t=>
  if c=34 then .ok ([],t)
  else if c=10 then .error (at_,180)
  else if c≠92 then zfa c (zed at_ t)
  else match t with
   | []=>.error (at_,180)
   | d::t'=>if d=34∨d=92 then zfa d (zed at_ t')
    else match t' with
     | a::b::t''=>match znq a,znq b with
      | some x,some y=>if d=120 then zfa (UInt8.ofNat (16*x+y)) (zed at_ t'') else .error (at_,180)
      | _,_=>.error (at_,180)
     | _=>.error (at_,180)
def zee (r:R):E (ByteArray × R):=match zaj 34 r with
 | .error e=>.error e
 | .ok t=>match zed (zaf r).length t with
  | .error e=>.error e
  | .ok (b,r')=>.ok (bytes b,r')
def zcq (f:Int→R) (w:R):Nat→Option Int
 | 0=>none
 | k+1=>match zcq f w k with
  | some i=>some i
  | none=>if f (k+1:Nat)=w then some ((k+1:Nat):Int) else none
def zc0 (d:Nat) (r:R):E (Int × R):=match zcq wordF ((zaf r).takeWhile zco) 10 with
 | none=>.error ((zaf r).length,180)
 | some k=>if d=0 then .error ((zaf r).length,182) else .ok (k,(zaf r).dropWhile zco)
def opS (r:R):E (Int × R):=match zcq opF ((zaf r).takeWhile zco) 3 with
 | none=>.error ((zaf r).length,180)
 | some k=>.ok (k,(zaf r).dropWhile zco)
def zc7 (c:UInt8):Int:=if c=43 then 1 else if c=63 then 2 else if c=45 then 3 else if c=61 then 4 else 0
def zcp (o:Int):QT→QT | .mk k _ f t u l h b p ks=>.mk k o f t u l h b p ks
def zbk (qs:R→E (QT × R)):Nat→R→E (List QT × R)
 | 0,_=>.error (0,0)
 | m+1,r=>match zaf r with
  | []=>.error (0,180)
  | c::t=>if zc7 c=0 then .error (t.length+1,180) else match qs t with
   | .error e=>.error e
   | .ok (k,r1)=>match zaf r1 with
     | 44::r3=>(match zbk qs m r3 with
      | .error e=>.error e
      | .ok (ks,r4)=>.ok (zcp (zc7 c) k::ks,r4))
     | r2=>.ok ([zcp (zc7 c) k],r2)
def emp:ByteArray:=⟨#[]⟩
section
variable (num:Int→R) (par:R→Option Int)
def ze6 (qs:R→E (QT × R)) (k:Int) (r:R):E (QT × R):=
 if k=8 then (match zaf r with
  | 41::t=>.ok (.mk 8 0 emp emp emp [] [] 0 0 [],t)
  | _=>do
   let (ks,r1) ←zbk qs (r.length+1) r;let r2 ←zaj 41 r1
   pure (.mk 8 0 emp emp emp [] [] 0 0 ks,r2))
 else if k=9 then do
  let (b,r1) ←zgp num par r;if b<0∨1048576<b then .error ((zaf r).length,180)
  let r2 ←zaj 44 r1;let (q,r3) ←qs r2;let r4 ←zaj 41 r3;pure (.mk 9 0 emp emp emp [] [] b 0 [q],r4)
 else if k=10 then do
  let (o,r1) ←opS r;let r2 ←zaj 44 r1;let (f,r3) ←zdo r2;let r4 ←zaj 44 r3;let (n,r5) ←zgp num par r4;let r6 ←zaj 44 r5;let (q,r7) ←qs r6;let r8 ←zaj 41 r7;pure (.mk 10 0 f emp emp [n] [] 0 o [q],r8)
 else if k=7 then do
  let (f,r1) ←zdo r;let r2 ←zaj 44 r1;let (lo,r3) ←zgw num par (r2.length+1) r2;let r4 ←zaj 44 r3;let (hi,r5) ←zgw num par (r4.length+1) r4;if lo.length≠hi.length∨4<lo.length then .error ((zaf r5).length,180)
  let r6 ←zaj 41 r5;pure (.mk 7 0 f emp emp lo hi 0 0 [],r6)
 else do
  let (f,r1) ←zdo r;let r2 ←zaj 44 r1;let (t,r3) ←zee r2
  if k=6 then
   let r4 ←zaj 44 r3;let (u,r5) ←zee r4;let r6 ←zaj 41 r5;pure (.mk 6 0 f t u [] [] 0 0 [],r6)
  else
   let r4 ←zaj 41 r3;pure (.mk k 0 f t emp [] [] 0 0 [],r4)
def zaz:Nat→R→E (QT × R)
 | 0,r=>match zc0 0 r with
  | .error e=>.error e
  | .ok _=>.error (0,0)
 | d+1,r=>match zc0 (d+1) r with
  | .error e=>.error e
  | .ok (k,r1)=>if k=1∨k=2 then .ok (.mk k 0 emp emp emp [] [] 0 0 [],r1) else match zaj 40 r1 with
    | .error e=>.error e
    | .ok r2=>ze6 num par (zaz d) k r2
def zbf (r:R):E QT:=if 4096<r.length then .error (r.length,3) else match zaz num par 6 r with
 | .error e=>.error e
 | .ok (q,r1)=>match zaf r1 with
   | []=>.ok q
   | _::t=>.error (t.length+1,180)
end
end QryP
end
