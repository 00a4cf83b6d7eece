/- Lemmas that the last text leans on. -/
import Derived.Deep.RegionHeld
import Derived.Test.YtplkbdncgkgppaaGreatDoorTake
import Derived.Test.YtplkbdncgkgppaaGreatDoorPack2
import Derived.Test.YtplkbdncgkgppaaGreatDoorPack14
import Derived.Test.YtplkbdncgkgppaaGreatDoorPack4
import Derived.Test.YtplkbdncgkgppaaGreatDoorPack10
import Derived.Deep.QuietTactic
import Derived.BigQuiet
import Derived.StillTailTactics
set_option linter.all false
set_option maxRecDepth 100000
section
namespace Go.Proofs.YtplkbdncgkgppaaGreatDoor.HeldU
open Go
section
variable {P:Program} {ops:Array Oper} {Q:Exit→Act→World→Prop} {md:Region.Mode} {S:World→Prop} {m:Array Bool}
def zcs (P:Program) (md:Region.Mode) (ops:Array Oper) (Q:Exit→Act→World→Prop) (S:World→Prop) (m:Array Bool):Nat→Array Bool→Act→World→Prop
 | 0,listed,a,w=>Region.ready md ops listed=[]∧Q .normal a w
 | fuel+1,listed,a,w=>if listed=m then wpAny P md ops Q (fuel+1) listed a w else
  (Region.ready md ops listed=[]→Q .normal a w)∧
  ∀i∈Region.ready md ops listed,wpOp P ops Q i (fun a' w'=>S w'∧zcs P md ops Q S m fuel (listed.setIfInBounds i true) a' w') a w
theorem zhg:∀(fuel:Nat) (listed:Array Bool) (a:Act) (w:World),zcs P md ops Q S m fuel listed a w→wpAny P md ops Q fuel listed a w
 | 0,_,_,_,h=>h
 | fuel+1,listed,a,w,h=>by
  rw[zcs] at h;split at h
  ·exact h
  ·exact ⟨h.1,fun i hi=>wpOp_mono (fun a' w' h'=>zhg fuel _ a' w' h'.2) (h.2 i hi)⟩
def ygr (listed m:Array Bool):Bool:=listed.size == m.size && (List.range m.size).all fun j=>!listed.getD j true || m.getD j true
theorem ygs {listed:Array Bool} (h:ygr listed m=true):listed.size=m.size∧∀j,j<m.size→listed.getD j true=true→m.getD j true=true:=by
 unfold ygr at h;rw[Bool.and_eq_true,beq_iff_eq,List.all_eq_true] at h;refine ⟨h.1,fun j hj hl=>?_⟩;have:=h.2 j (List.mem_range.2 hj);rw[hl] at this;simpa using this
theorem zk5 {l:Array Bool} {j:Nat} (h:j<l.size) (d d':Bool):l.getD j d=l.getD j d':=by simp[Array.getD,h]
theorem zjr {l:Array Bool} {i j:Nat} (h:j≠i) (u d:Bool):(l.setIfInBounds i u).getD j d=l.getD j d:=by
 rw[Array.getD_eq_getD_getElem?,Array.getD_eq_getD_getElem?,Array.getElem?_setIfInBounds_ne (Ne.symm h)]
theorem zxp {listed:Array Bool} {i j:Nat} (hs:listed.size=m.size) (hsub:∀j,j<m.size→listed.getD j true=true→m.getD j true=true) (him:m.getD i false=true) (hck:∀j∈Region.ready md ops (m.setIfInBounds i false),j=i)
 (hi:listed.getD i true=false) (hj:j∈Region.ready md ops listed) (hji:j≠i):j<m.size∧m.getD j true=true:=by
 rw[mem_ready] at hj;obtain ⟨h0,o,ho,hall⟩:=hj
 have hjs:j<m.size:=by
  rcases Nat.lt_or_ge j listed.size with h | h
  ·omega
  ·simp[Array.getD,Nat.not_lt.2 h] at h0
 refine ⟨hjs,?_⟩
 cases hm:m.getD j true with
 | true=>rfl
 | false=>
  refine absurd (hck j ?_) hji;rw[mem_ready];refine ⟨by rw[zjr hji];exact hm,o,ho,fun e he hb=>?_⟩;have h1:=hall e he hb
  have hne:e.on≠i:=fun h=>by
   rw[h] at h1
   have his:i<listed.size:=by
    rcases Nat.lt_or_ge i listed.size with h | h
    ·exact h
    ·simp[Array.getD,Nat.not_lt.2 h] at hi
   rw[zk5 his false true,hi] at h1;cases h1
  rw[zjr hne]
  have hes:e.on<listed.size:=by
   rcases Nat.lt_or_ge e.on listed.size with h | h
   ·exact h
   ·simp[Array.getD,Nat.not_lt.2 h] at h1
  rw[zk5 (by omega:e.on<m.size) false true];exact hsub _ (by omega) (by rw[zk5 hes true false];exact h1)
theorem zpj {i:Nat} {oi:Oper} {v:Value} (hi:ops[i]?=some oi) (hsel:∀(j:Nat) (o:Oper) cs b,ops[j]?=some o→o.op≠.select cs b)
 (hQ:∀c a w,Q (.panic c) (a.put oi.dst v) w→Q (.panic c) a w) (him:m.getD i false=true) (hck:∀j∈Region.ready md ops (m.setIfInBounds i false),j=i) :
 ∀(fuel:Nat) (listed:Array Bool) (a:Act) (w:World),
  (∀j oj,ops[j]?=some oj→j≠i→listed.getD j true=false→(∀e∈oj.after,Region.binds md e=true→e.on≠i)→oi.apart ops oj=true)→
  listed.size=m.size→(∀j,j<m.size→listed.getD j true=true→m.getD j true=true)→
  i∈Region.ready md ops listed→YieldsIf P ops S oi v a→S w→
  zcs P md ops Q S m fuel (listed.setIfInBounds i true) (a.put oi.dst v) w→zcs P md ops Q S m (fuel+1) listed a w:=by
 have hne:∀{listed:Array Bool},i∈Region.ready md ops listed→¬listed=m:=fun hr e=>by
  have h0:=(mem_ready.1 hr).1;rw[e] at h0
  have his:i<m.size:=by
   rcases Nat.lt_or_ge i m.size with h | h
   ·exact h
   ·simp[Array.getD,Nat.not_lt.2 h] at him
  rw[zk5 his true false,him] at h0;cases h0
 intro fuel
 induction fuel with
 | zero=>
  intro listed a w _ _ _ hr hy hS H;rw[zcs,if_neg (hne hr)];refine ⟨fun h=>(by rw[h] at hr;cases hr),fun j hj=>?_⟩;by_cases hji:j=i
  ·subst hji;exact hy.wpOp hi hS ⟨hS,H⟩
  ·have:=ready_mono hj hji;rw[H.1] at this;cases this
 | succ fuel ih=>
  intro listed a w hfree hs hsub hr hy hS H;rw[zcs,if_neg (hne hr)];refine ⟨fun h=>(by rw[h] at hr;cases hr),fun j hj=>?_⟩;by_cases hji:j=i
  ·subst hji;exact hy.wpOp hi hS ⟨hS,H⟩
  ·have h0i:=(mem_ready.1 hr).1;obtain ⟨hjs,hjm⟩:=zxp hs hsub him hck h0i hj hji;rw[zcs] at H;split at H
   ·rename_i hm
    exfalso;have h1:=(mem_ready.1 hj).1;have:(listed.setIfInBounds i true).getD j true=true:=by rw[hm];exact hjm
    rw[getD_set_ne true (Ne.symm hji),h1] at this;cases this
   ·have h1:=H.2 j (ready_mono hj hji);obtain ⟨hjun,oj,hoj,hall⟩:=mem_ready.1 hj
    have hnot:∀e∈oj.after,Region.binds md e=true→e.on≠i:=fun e he hb heq=>by
     have h1:=hall e he hb;have h0:=h0i;rw[heq] at h1;rcases Nat.lt_or_ge i listed.size with h' | h'
     ·rw[zk5 h' false true,h0] at h1;cases h1
     ·simp[Array.getD,Nat.not_lt.2 h'] at h1
    have h2:=wpOp_putIf hoj (hfree j oj hoj hji hjun hnot) (fun cs b=>hsel i oi cs b hi) (fun cs b=>hsel j oj cs b hoj) hQ hy h1
    have hfree':∀k ok,ops[k]?=some ok→k≠i→(listed.setIfInBounds j true).getD k true=false→
     (∀e∈ok.after,Region.binds md e=true→e.on≠i)→oi.apart ops ok=true:=fun k ok hk hki hun hno=>by
     refine hfree k ok hk hki ?_ hno;by_cases hjk:j=k
     ·subst hjk;exact hjun
     ·rw[getD_set_ne true hjk] at hun;exact hun
    refine wpOp_mono (fun a' w' h3=>⟨h3.2.1,ih (listed.setIfInBounds j true) a' w' hfree' (by simpa using hs) (fun k hk hl=>?_) (ready_mono hr (Ne.symm hji)) h3.1 h3.2.1 ?_⟩) h2
    ·by_cases hjk:j=k
     ·subst hjk;exact hjm
     ·rw[getD_set_ne true hjk] at hl;exact hsub k hk hl
    ·rw[Array.setIfInBounds_comm _ _ hji];exact h3.2.2
theorem zk6 {i:Nat} {oi:Oper} {v:Value} {fuel:Nat} {listed:Array Bool} {a:Act} {w:World} (hi:ops[i]?=some oi)
 (hs:Region.noSelect ops=true) (hf:Region.free md ops listed i=true) (hr:(Region.ready md ops listed).contains i=true)
 (hc:(m.getD i false && (Region.ready md ops (m.setIfInBounds i false)).all (fun j=>j == i) && ygr listed m)=true)
 (hQ:∀c a w,Q (.panic c) (a.put oi.dst v) w→Q (.panic c) a w) (hy:YieldsIf P ops S oi v a) (hS:S w)
 (h:zcs P md ops Q S m fuel (listed.setIfInBounds i true) (a.put oi.dst v) w):zcs P md ops Q S m (fuel+1) listed a w:=by
 rw[Bool.and_eq_true,Bool.and_eq_true,List.all_eq_true] at hc;obtain ⟨⟨h1,h2⟩,h3⟩:=hc;obtain ⟨h4,h5⟩:=ygs h3;exact zpj hi (Region.noSelect_spec hs) hQ h1 (fun j hj=>by simpa using h2 j hj) fuel listed a w (Region.free_spec hi hf) h4 h5 (by simpa using hr) hy hS h
theorem tkU {oi:Oper} {v:Value} {fuel:Nat} {listed:Array Bool} {a:Act} {w:World} (i:Nat) (hi:ops[i]?=some oi)
 (hk:(Region.noSelect ops && Region.free md ops listed i && (Region.ready md ops listed).contains i && (m.getD i false && (Region.ready md ops (m.setIfInBounds i false)).all (fun j=>j == i) && ygr listed m))=true)
 (hQ:∀c a w,Q (.panic c) (a.put oi.dst v) w→Q (.panic c) a w) (hw:Region.wanted oi (yielded ops a.tmps)=true) (hS:S w) (hy:∀w,S w→(execOp a.eval oi).run P w = .ok (.value v) w)
 (h:zcs P md ops Q S m fuel (listed.setIfInBounds i true) (a.put oi.dst v) w):zcs P md ops Q S m (fuel+1) listed a w:=by
 rw[Bool.and_eq_true,Bool.and_eq_true,Bool.and_eq_true] at hk;exact zk6 hi hk.1.1.1 hk.1.1.2 hk.1.2 hk.2 hQ (.inl ⟨hw,hy⟩) hS h
theorem tkS {oi:Oper} {fuel:Nat} {listed:Array Bool} {a:Act} {w:World} (i:Nat) (hi:ops[i]?=some oi)
 (hk:(Region.noSelect ops && Region.free md ops listed i && (Region.ready md ops listed).contains i && (m.getD i false && (Region.ready md ops (m.setIfInBounds i false)).all (fun j=>j == i) && ygr listed m))=true)
 (hQ:∀c a w,Q (.panic c) (a.put oi.dst undef) w→Q (.panic c) a w) (hw:Region.wanted oi (yielded ops a.tmps)=false) (hS:S w)
 (h:zcs P md ops Q S m fuel (listed.setIfInBounds i true) (a.put oi.dst undef) w):zcs P md ops Q S m (fuel+1) listed a w:=by
 rw[Bool.and_eq_true,Bool.and_eq_true,Bool.and_eq_true] at hk;exact zk6 hi hk.1.1.1 hk.1.1.2 hk.1.2 hk.2 hQ (.inr ⟨hw,rfl⟩) hS h
theorem zdh {i:Nat} {o:Oper} {fuel:Nat} {listed:Array Bool} {a:Act} {w:World} (hr:Region.ready md ops listed=[i]) (hm:(listed == m)=false) (ho:ops[i]?=some o)
 (h:∀K':Act→World→Prop,Shut (∀a w,S w→(S w→zcs P md ops Q S m fuel (listed.setIfInBounds i true) a w)→K' a w)→if Region.wanted o (yielded ops a.tmps)=true then Oper.wp P o a w K' Q else K' (a.put o.dst undef) w) :
 zcs P md ops Q S m (fuel+1) listed a w:=by
 rw[zcs,if_neg (by simpa using hm)];refine ⟨fun h0=>(by rw[hr] at h0;cases h0),fun j hj=>?_⟩;rw[hr,List.mem_singleton] at hj;subst hj;exact wpOp_step ho (fun K' hK=>h K' (fun a w hS hW=>hK a w ⟨hS,hW hS⟩))
theorem zg0 {fuel:Nat} {listed:Array Bool} {a:Act} {w:World} (hm:(listed == m)=true) (h:wpAnyH P md ops Q (fun _=>True) (fuel+1) listed a w):zcs P md ops Q S m (fuel+1) listed a w:=by
 rw[zcs,if_pos (by simpa using hm)];exact wpAny_of_held _ _ _ _ h
theorem zc3 {id:Nat} {a:Act} {w:World} (m:Array Bool) (S:World→Prop) (hm:P.follows .mixedOrders=true) (hS:S w.drew)
 (h:S w.drew→zcs P .any ops Q S m ops.size (Array.replicate ops.size false) a w.drew):(Code.region id ops true).wp P Q a w:=
 wp_region_any hm (zhg _ _ _ _ (h hS))
end
end Go.Proofs.YtplkbdncgkgppaaGreatDoor.HeldU
end
section
namespace Go.Proofs.YtplkbdncgkgppaaGreatDoor.Sch
open Go.RowKit Go.WideShapes Go.ChangeShapes Words Tree SchP
def zf0 (f:FT):List T:=[.lit (.string f.name),.lit (.int .i64 f.kind),zf5 .i64 f.chain,.lit (.int .i64 f.scale),.lit (.int .i64 f.dims),.lit (.bool f.many),.lit (.bool f.stored)]
theorem zct (f:FT):(zf0 f).length=7:=rfl
abbrev zbg (l:List FT):T:=ybb 7 zf0 l
def I64 (n:Int):Prop:=-9223372036854775808≤n∧n≤9223372036854775807
def ygt (l:List Int):Prop:=l.length*8≤140737488351232∧∀z∈l,I64 z
structure FOk (f:FT):Prop where
 name:f.name.size≤140737488351232
 kind:I64 f.kind
 chain:ygt f.chain
 scale:I64 f.scale
 dims:I64 f.dims
section
variable {sent:Nat→List (List Value)} {w:World} {S:Nat→Prop}
theorem zc4 {f:FT} {vs:List Value} (h:T.AtL sent w S (zf0 f) vs):∃v,vs=[.string f.name,.int .i64 f.kind,v,.int .i64 f.scale,.int .i64 f.dims,.bool f.many,.bool f.stored]∧T.At sent w S (zf5 .i64 f.chain) v:=by
 rw[zf0] at h;obtain ⟨v0,r,rfl,h0,h⟩:=AtL.cons_ h;obtain ⟨v1,r,rfl,h1,h⟩:=AtL.cons_ h;obtain ⟨v2,r,rfl,h2,h⟩:=AtL.cons_ h;obtain ⟨v3,r,rfl,h3,h⟩:=AtL.cons_ h;obtain ⟨v4,r,rfl,h4,h⟩:=AtL.cons_ h;obtain ⟨v5,r,rfl,h5,h⟩:=AtL.cons_ h;obtain ⟨v6,r,rfl,h6,h⟩:=AtL.cons_ h;obtain rfl:=AtL.nil_ h;simp only[T.At] at h0 h1 h3 h4 h5 h6;subst h0 h1 h3 h4 h5 h6;exact ⟨v2,rfl,h2⟩
theorem zgm {f:FT} {v:Value} (h:T.At sent w S (zf5 .i64 f.chain) v):T.AtL sent w S (zf0 f) [.string f.name,.int .i64 f.kind,v,.int .i64 f.scale,.int .i64 f.dims,.bool f.many,.bool f.stored]:=by
 simp only[zf0,T.AtL,T.At,true_and,and_true];exact h
end
theorem i64_of {n:Int} (h:(Lit.int .i64 n).wf=true):I64 n:=Law.yjd h
theorem ybc {ts:List T} (h:Typed Tryz.prog 61 ts):∃f,ts=zf0 f∧FOk f:=by
 obtain ⟨parts,rfl,hl,hp⟩:=h.struct_inv Tryz.underlying61
 match parts,hl with
 | [p0,p1,p2,p3,p4,p5,p6],_=>
  obtain ⟨n,rfl,w0⟩:=(hp 0 _ _ rfl rfl).str_inv Tryz.underlying9;obtain ⟨kd,rfl,w1⟩:=(hp 1 _ _ rfl rfl).int_inv Tryz.underlying3;obtain ⟨ch,rfl,b2,w2⟩:=yeo (hp 2 _ _ rfl rfl) Tryz.underlying59 Tryz.underlying3 (by kernel_rfl);obtain ⟨sc,rfl,w3⟩:=(hp 3 _ _ rfl rfl).int_inv Tryz.underlying3;obtain ⟨di,rfl,w4⟩:=(hp 4 _ _ rfl rfl).int_inv Tryz.underlying3;obtain ⟨m,rfl⟩:=(hp 5 _ _ rfl rfl).bool_inv Tryz.underlying4;obtain ⟨s,rfl⟩:=(hp 6 _ _ rfl rfl).bool_inv Tryz.underlying4;rw[show Tryz.prog.bytesOf 3=8 from by kernel_rfl] at b2;exact ⟨⟨n,kd,ch,sc,di,m,s⟩,rfl,⟨w0,i64_of w1,⟨b2,fun z hz=>i64_of (w2 z hz)⟩,i64_of w3,i64_of w4⟩⟩
theorem zxq {ts:List T} (h:Typed Tryz.prog 24 ts):∃l,ts=[zbg l]∧l.length*72≤140737488351232∧∀f∈l,FOk f:=by
 obtain ⟨parts,rfl,hl,hp⟩:=h.struct_inv Tryz.underlying24
 match parts,hl with
 | [p0],_=>
  obtain ⟨l,rfl,hb,_,hC⟩:=ygq (hp 0 _ _ rfl rfl) Tryz.underlying22 (fun r hr=>ybc hr);rw[show Tryz.prog.bytesOf 61=72 from by kernel_rfl] at hb;rw[show Tryz.prog.cellsOf 61=7 from by kernel_rfl];exact ⟨l,rfl,hb,hC⟩
section
variable {H:Type} {enc:TypeId × Value→H} {w:World} {r:Reach} {b0:Nat} {v:Value} {d:DataW H} {ps:List MemPlace}
end
end Go.Proofs.YtplkbdncgkgppaaGreatDoor.Sch
end
section
namespace Go.Proofs.YtplkbdncgkgppaaGreatDoor.Sch
open Go.RowKit Words Tree SchP Kit Owned
def markF:List Value:=[.string ⟨#[109,97,114,107]⟩,.int .i64 0,.slice none 0 0,.int .i64 0,.int .i64 0,.bool false,.bool false]
def yi0:List Value:=[.string ⟨#[109,97,114,107]⟩,.string ⟨#[]⟩,.slice none 0 0]
def lent:Nat→List (List Value):=fun s=>if s=1 then [[.int .i64 (-7171)]] else if s=7 then [markF] else if s=3 then [yi0] else []
theorem lent_one:lent 1=[[.int .i64 (-7171)]]:=rfl
theorem zu3:lent 7=[markF]:=rfl
theorem infoI64:(Tryz.prog.info? 2).map (fun i=>(i.zero,i.size,i.bytes))=some (some (.int .i64 0),1,8):=by kernel_rfl
theorem infoInt:(Tryz.prog.info? 3).map (fun i=>(i.zero,i.size,i.bytes))=some (some (.int .i64 0),1,8):=by kernel_rfl
theorem ygu:(Tryz.prog.info? 61).map (fun i=>(i.zero,i.size,i.bytes))=some (some (.agg #[.string ⟨#[]⟩,.int .i64 0,.slice none 0 0,.int .i64 0,.int .i64 0,.bool false,.bool false]),7,72):=by kernel_rfl
theorem cells_new (w:World) (l:List Value) (t:TypeId) (j:Nat) (u:Value) (h:l[j]?=some u):(w.alloc (.cells l.toArray t)).cell? ((⟨w.heap.size,0,none⟩:Addr).add j)=some u:=by
 have e:(⟨w.heap.size,0,none⟩:Addr).add j=⟨w.heap.size,j,none⟩:=by unfold Addr.add;split <;> simp_all
 rw[e,World.cell?_alloc_new];simpa using h
def LentT (t:T) (w:World) (e:Ending) (w':World):Prop:=∃v,e = .returned v∧T.At lent w' (fun g=>w.heap.size≤g∧g<w'.heap.size) t v∧Below w.heap.size w w'
theorem lent64_any (A:Option Addr) (c:Nat) (l:List Int) (w:World) (hr:Reads w w.heap.size 1 A l.length (l.map (Value.int .i64))) (hl:l.length*8≤140737488351232) :
 Calls Tryz.prog 24 #[.slice A l.length c] w (LentT (zf5 .i64 l) w):=by
 obtain ⟨i0,hi,hz0,hz1,hz2⟩:=info_parts infoI64;go_enter Tryz.func24,Tryz.ntmps24;go_wp2_with (at_builtin;refine zan _ rfl (.tmp 4) (.tmp 5) 25 rfl w.heap.size 2 i0 (.int .i64 0) 1 8 Tryz.underlying25 hi hz0 hz1 hz2 rfl (by decide) (.slice none 0 0) 0 [] rfl (World.ownsRow_nil _ _ _ _) w.heap.size A l.length c (l.map (Value.int .i64)) rfl hr ?c2 ?c3 ?c4 ?c5 ?_);case c2=>intro u hu;obtain ⟨z,_,rfl⟩:=List.mem_map.1 hu;rfl
 case c3=>unfold maxLen;omega
 case c4=>omega
 case c5=>exact Nat.le_refl _
 intro v1 w1 ho1 hg1 _;have hb1:Below w.heap.size w w1:=(Below.refl _ w).grown hg1 (Nat.le_refl _) (fun r e=>by cases e);replace ho1:w1.ownsRow w.heap.size 2 1 v1 l.length (l.map (Value.int .i64)):=by simpa using ho1
 have HB1:=hX hb1;have hsz1:=hb1.size;clear hg1 hb1;go_wp2_with (at_builtin;refine wpList_append_own _ rfl (.tmp 7) (.tmp 8) 25 rfl w.heap.size 2 i0 (.int .i64 0) 1 8 Tryz.underlying25 hi hz0 hz1 hz2 rfl (by decide) _ l.length (l.map (Value.int .i64)) rfl (ho1.alloc _) ⟨w1.heap.size,0,none⟩ 1 1 [.int .i64 (-7171)] rfl rfl ?d1 ?d2 ?d3 ?d4 ?d5 ?_);case d1=>intro j u hu;exact cells_new _ _ _ j u hu
 case d2=>intro u hu;simp at hu;subst hu;rfl
 case d3=>unfold maxLen;omega
 case d4=>omega
 case d5=>simp;omega
 intro v2 w2 ho2 hg2 _;have hb2:Below w.heap.size w w2:=(HB1.out.alloc HB1.out.size _).grown hg2 (by simp;omega) (fun r e=>(ho1.lt r e).1);have HB2:=hX hb2
 rcases ho2.2 with ⟨_,h0⟩ | ⟨g,cap,cur,rfl,hB,hgg,hn,hm,hcs,ht⟩
 ·omega
 ·have HOW:=hX (ho2.cells (g:=g) rfl);have HG:Hid (g<w2.heap.size):=hX (Array.getElem?_eq_some_iff.1 hgg).1;have hm':=hm;unfold maxLen at hm';clear hg2 hb2 ho1 hr hgg hcs ht ho2;go_wp2_with fail;go_ret;refine ⟨_,rfl,?_,HB2.out⟩;simp only[zf5,T.At];refine ⟨_,cap,l.map (Value.int .i64),rfl,by simp[lent_one];omega,hm,by simp,fun _=>⟨_,rfl,⟨hB,HG.out⟩,?_⟩,AtL.of_lits⟩;rw[lent_one];exact HOW.out
theorem zrs (A:Option Addr) (c:Nat) (l:List Int) (w:World) (hr:Reads w w.heap.size 1 A l.length (l.map (Value.int .i64))) (hl:l.length*8≤140737488351232) :
 Calls Tryz.prog 23 #[.slice A l.length c] w (LentT (zf5 .i64 l) w):=by
 obtain ⟨i0,hi,hz0,hz1,hz2⟩:=info_parts infoInt;go_enter Tryz.func23,Tryz.ntmps23;go_wp2_with (at_builtin;refine zan _ rfl (.tmp 4) (.tmp 5) 59 rfl w.heap.size 3 i0 (.int .i64 0) 1 8 Tryz.underlying59 hi hz0 hz1 hz2 rfl (by decide) (.slice none 0 0) 0 [] rfl (World.ownsRow_nil _ _ _ _) w.heap.size A l.length c (l.map (Value.int .i64)) rfl hr ?c2 ?c3 ?c4 ?c5 ?_);case c2=>intro u hu;obtain ⟨z,_,rfl⟩:=List.mem_map.1 hu;rfl
 case c3=>unfold maxLen;omega
 case c4=>omega
 case c5=>exact Nat.le_refl _
 intro v1 w1 ho1 hg1 _;have hb1:Below w.heap.size w w1:=(Below.refl _ w).grown hg1 (Nat.le_refl _) (fun r e=>by cases e);replace ho1:w1.ownsRow w.heap.size 3 1 v1 l.length (l.map (Value.int .i64)):=by simpa using ho1
 have HB1:=hX hb1;have hsz1:=hb1.size;clear hg1 hb1;go_wp2_with (at_builtin;refine wpList_append_own _ rfl (.tmp 7) (.tmp 8) 59 rfl w.heap.size 3 i0 (.int .i64 0) 1 8 Tryz.underlying59 hi hz0 hz1 hz2 rfl (by decide) _ l.length (l.map (Value.int .i64)) rfl (ho1.alloc _) ⟨w1.heap.size,0,none⟩ 1 1 [.int .i64 (-7171)] rfl rfl ?d1 ?d2 ?d3 ?d4 ?d5 ?_);case d1=>intro j u hu;exact cells_new _ _ _ j u hu
 case d2=>intro u hu;simp at hu;subst hu;rfl
 case d3=>unfold maxLen;omega
 case d4=>omega
 case d5=>simp;omega
 intro v2 w2 ho2 hg2 _;have hb2:Below w.heap.size w w2:=(HB1.out.alloc HB1.out.size _).grown hg2 (by simp;omega) (fun r e=>(ho1.lt r e).1);have HB2:=hX hb2
 rcases ho2.2 with ⟨_,h0⟩ | ⟨g,cap,cur,rfl,hB,hgg,hn,hm,hcs,ht⟩
 ·omega
 ·have HOW:=hX (ho2.cells (g:=g) rfl);have HG:Hid (g<w2.heap.size):=hX (Array.getElem?_eq_some_iff.1 hgg).1;have hm':=hm;unfold maxLen at hm';clear hg2 hb2 ho1 hr hgg hcs ht ho2;go_wp2_with fail;go_ret;refine ⟨_,rfl,?_,HB2.out⟩;simp only[zf5,T.At];refine ⟨_,cap,l.map (Value.int .i64),rfl,by simp[lent_one];omega,hm,by simp,fun _=>⟨_,rfl,⟨hB,HG.out⟩,?_⟩,AtL.of_lits⟩;rw[lent_one];exact HOW.out
end Go.Proofs.YtplkbdncgkgppaaGreatDoor.Sch
end
section
namespace Go.Proofs.YtplkbdncgkgppaaGreatDoor.Sch
open Go.RowKit Words Tree SchP Kit Owned
end Go.Proofs.YtplkbdncgkgppaaGreatDoor.Sch
end
section
namespace Go.Proofs.YtplkbdncgkgppaaGreatDoor.Sch
open Go.RowKit Words Tree SchP Kit Owned
theorem below2 {w:World} (o1 o2:Obj):Below w.heap.size w ((w.alloc o1).alloc o2):=((Below.refl _ _).alloc (Nat.le_refl _) _).alloc (by simp) _
theorem blk_a (w:World) (cs ds:Array Value) (t t':TypeId):Blk ((w.alloc (.cells cs t)).alloc (.cells ds t')) w.heap.size t cs:=(Blk.new w t cs).alloc _
theorem blk_b (w:World) (cs ds:Array Value) (t t':TypeId):Blk ((w.alloc (.cells cs t)).alloc (.cells ds t')) (w.heap.size+1) t' ds:=by
 have:=Blk.new (w.alloc (.cells cs t)) t' ds;rwa [World.size_alloc] at this
theorem zu4 {w:World} {ad:Addr} {v0 v1 v2 v3 v4 v5 v6:Value} (h:zb6 w ad [v0,v1,v2,v3,v4,v5,v6]) :
 w.cell? ad=some v0∧w.cell? ⟨ad.block,ad.off+1,none⟩=some v1∧w.cell? ⟨ad.block,ad.off+2,none⟩=some v2∧w.cell? ⟨ad.block,ad.off+3,none⟩=some v3∧w.cell? ⟨ad.block,ad.off+4,none⟩=some v4∧
 w.cell? ⟨ad.block,ad.off+5,none⟩=some v5∧w.cell? ⟨ad.block,ad.off+6,none⟩=some v6:=
 ⟨h.zero,h.at_ 1 _ rfl (by omega),h.at_ 2 _ rfl (by omega),h.at_ 3 _ rfl (by omega),h.at_ 4 _ rfl (by omega),h.at_ 5 _ rfl (by omega),h.at_ 6 _ rfl (by omega)⟩
set_option maxHeartbeats 4000000 in
theorem zl9 (u:Value) (l:List FT) (w:World) (hu:T.At bare w (fun g=>g<w.heap.size) (zbg l) u) (hl:l.length*72≤140737488351232) (hf:∀f∈l,FOk f) :
 Calls Tryz.prog 8 #[.agg #[u]] w (fun e w'=>∃v,e = .returned (.agg #[v])∧T.At lent w' (fun g=>w.heap.size≤g∧g<w'.heap.size) (zbg l) v∧Below w.heap.size w w'):=by
 obtain ⟨A,cap,rfl,hc,hm,hel⟩:=zmz zct hu;have EL:=hX hel;clear hel hu;go_enter Tryz.func8,Tryz.ntmps8;go_wp2_with fail;have HB:=hX (below2 (w:=w) (.cells #[.slice A l.length cap] 24) (.cells #[.slice none 0 0] 24));have BA:=hX (blk_a w #[.slice A l.length cap] #[.slice none 0 0] 24 24);have BB:=hX (blk_b w #[.slice A l.length cap] #[.slice none 0 0] 24 24);have hzW:((w.alloc (Obj.cells #[.slice A l.length cap] 24)).alloc (Obj.cells #[.slice none 0 0] 24)).heap.size=w.heap.size+2:=by simp
 generalize (w.alloc (Obj.cells #[.slice A l.length cap] 24)).alloc (Obj.cells #[.slice none 0 0] 24)=W at *;go_loopw [3,4] (fun v i wr=>∃k:Nat,k≤l.length∧i = .int .i64 k∧Hid (LentRow lent 61 7 zf0 W wr v l k)) (fun _ i _=>l.length - (intOf i).toNat);case atStart=>exact ⟨0,by omega,rfl,hX (zpf _ W l)⟩
 case round=>
  obtain ⟨k,hkk,rfl,HK⟩:=hrel;have HKB:Hid (Below W.heap.size W wr):=hX (by obtain ⟨_,_,_,h⟩:=HK.out;exact h);have BW:=hX (BA.out.below HKB.out (by omega));have hzr:=HKB.out.size;have c0:wr.cell? ⟨w.heap.size,0,none⟩=some (.slice A l.length cap):=BW.out.cell 0;by_cases hlt:k<l.length
  ·obtain ⟨ad,us,rfl,hba,au,lu,cu⟩:=EL.out k hlt;have HWR:Hid (Below w.heap.size w wr):=hX (HB.out.trans (HKB.out.mono HB.out.size));replace cu:=cu.keep (w':=wr) (fun p hp=>HWR.out.cell (by rw[hp,zaa];exact hba));have hab:(ad.add (k*7)).block<wr.heap.size:=by rw[zaa];omega
   have HF:=hX (hf l[k] (List.getElem_mem hlt));have HFQ:Hid (∃f,l[k]=f):=hX ⟨_,rfl⟩;obtain ⟨f,hfk⟩:=HFQ.out;rw[hfk] at au HF;obtain ⟨vc,rfl,gc⟩:=zc4 au;obtain ⟨X,z,rfl,_,_,hrd⟩:=zc2 gc;obtain ⟨a0,a1,a2,a3,a4,a5,a6⟩:=zu4 cu;have HRD:=hX hrd;clear cu au lu gc hrd HFQ;go_wp2_with fail;have HWN:=hX ((Below.refl _ wr).alloc (Nat.le_refl _) (Obj.cells #[.string f.name,.int .i64 f.kind,.slice X f.chain.length z,.int .i64 f.scale,.int .i64 f.dims,.bool f.many,.bool f.stored] 61));have BF:=hX (Blk.new wr 61 #[.string f.name,.int .i64 f.kind,.slice X f.chain.length z,.int .i64 f.scale,.int .i64 f.dims,.bool f.many,.bool f.stored]);have hzn:(wr.alloc (Obj.cells #[.string f.name,.int .i64 f.kind,.slice X f.chain.length z,.int .i64 f.scale,.int .i64 f.dims,.bool f.many,.bool f.stored] 61)).heap.size=wr.heap.size+1:=by simp
   clear a0 a1 a2 a3 a4 a5 a6 c0;generalize wr.alloc (Obj.cells #[.string f.name,.int .i64 f.kind,.slice X f.chain.length z,.int .i64 f.scale,.int .i64 f.dims,.bool f.many,.bool f.stored] 61)=W1 at *;refine (zrs X z f.chain W1 (((HRD.out.below HWR.out).below (HWN.out.mono HWR.out.size)).more (by have:=HWR.out.size;omega)) HF.out.chain.1).mono ?_;rintro e w3 ⟨vl,rfl,al,b3⟩;obtain ⟨Y,z2,rfl,_,_⟩:=zar al;have hz3:=b3.size;have BF3:=hX (BF.out.below b3 BF.out.lt);have HB3:=hX (HWN.out.trans (b3.mono (by omega)):Below wr.heap.size wr w3);have AL3:=hX al;have c2:w3.cell? ⟨wr.heap.size,2,none⟩=some (.slice X f.chain.length z):=BF3.out.cell 2;have f2:w3.frozen? ⟨wr.heap.size,2,none⟩=false:=BF3.out.frozen 2;clear al b3;go_upto_region 7 with fail;have BF4:Hid (Blk (w3.setCell ⟨wr.heap.size,2,none⟩ (.slice Y f.chain.length z2)) wr.heap.size 61 #[.string f.name,.int .i64 f.kind,.slice Y f.chain.length z2,.int .i64 f.scale,.int .i64 f.dims,.bool f.many,.bool f.stored]):=hX (BF3.out.set_ 2 _);have HB4:Hid (Below wr.heap.size wr (w3.setCell ⟨wr.heap.size,2,none⟩ (.slice Y f.chain.length z2))):=hX (HB3.out.setCell (Nat.le_refl _) _);have hs4:(w3.setCell ⟨wr.heap.size,2,none⟩ (.slice Y f.chain.length z2)).heap.size=w3.heap.size:=by simp[World.setCell]
   have AL4:Hid (T.At lent (w3.setCell ⟨wr.heap.size,2,none⟩ (.slice Y f.chain.length z2)) (fun g=>wr.heap.size≤g∧g<w3.heap.size) (zf5 .i64 f.chain) (.slice Y f.chain.length z2)):=
    hX (At.keep (fun p hp=>World.cell?_setCell_other _ _ _ _ (by intro e;subst e;have:=hp.1;simp at this;omega)) (fun g h=>⟨by omega,h.2⟩) AL3.out)
   clear c2 f2 BF3 HB3 AL3 BF;generalize w3.setCell ⟨wr.heap.size,2,none⟩ (.slice Y f.chain.length z2)=W4 at *;have b0:=BF4.out.cell 0;have b1:=BF4.out.cell 1;have b2:=BF4.out.cell 2;have b3:=BF4.out.cell 3;have b4:=BF4.out.cell 4;have b5:=BF4.out.cell 5;have b6:=BF4.out.cell 6;obtain ⟨xs,hx,ha,hB⟩:=HK.out;have hown:=za2 hx HB4.out;have HX:=hX hx;have HA:=hX ha;have HFK:=hX hfk;have HS4:=hX hs4;obtain ⟨i0,hi1,hi2,hi3,hi4⟩:=info_parts ygu;clear hx ha hB hfk hs4;go_wp2_with (at_builtin;refine zan _ rfl (.tmp 22) (.tmp 24) 22 rfl W.heap.size 61 i0 _ 7 72 Tryz.underlying22 hi1 hi2 hi3 hi4 rfl (by decide) _ k xs rfl (hown.alloc _) (W4.heap.size+1) (some ⟨W4.heap.size,0,none⟩) 1 1 [.string f.name,.int .i64 f.kind,.slice Y f.chain.length z2,.int .i64 f.scale,.int .i64 f.dims,.bool f.many,.bool f.stored] rfl ?d1 ?d2 ?d3 ?d4 ?d5 ?_);all_goals have hs4:=HS4.out
   case d1=>exact ⟨rfl,fun _=>⟨_,rfl,Nat.lt_succ_self _,fun j u hu=>cells_new W4 _ _ j u hu⟩⟩
   case d2=>intro u hu;simp only[List.mem_cons,List.not_mem_nil,or_false] at hu;rcases hu with rfl | rfl | rfl | rfl | rfl | rfl | rfl <;> rfl
   case d3=>unfold maxLen;omega
   case d4=>omega
   case d5=>simp;omega
   intro v' w5 ho hg hv
   have HST:Hid (LentRow lent 61 7 zf0 W w5 v' l (k+1)):=hX (by
    rw[←hzW] at ho;refine zpg (us:=[.string f.name,.int .i64 f.kind,.slice Y f.chain.length z2,.int .i64 f.scale,.int .i64 f.dims,.bool f.many,.bool f.stored]) (w3:=W4.alloc (.cells #[.string f.name,.int .i64 f.kind,.slice Y f.chain.length z2,.int .i64 f.scale,.int .i64 f.dims,.bool f.many,.bool f.stored] 61)) hlt HX.out HA.out HKB.out ?_ (HB4.out.alloc HB4.out.size _) ho hg (by simpa using hv);rw[HFK.out]
    refine zgm (At.keep (fun p hp=>World.cell?_alloc_lt _ _ _ (by omega)) (fun g h=>⟨h.1,by simp;omega⟩) AL4.out))
   clear ho hg hv hown hi1 hi2 hi3 hi4 b0 b1 b2 b3 b4 b5 b6;go_wp2_with fail;go_roundw;case rel=>exact ⟨k+1,by omega,by go_num,HST⟩
   case measure=>simp[intOf];omega
  ·obtain rfl:k=l.length:=by omega
   obtain ⟨xs,hx,ha,hB⟩:=HK.out;have HX:=hX hx;have HA:=hX ha;obtain ⟨i0,hi1,hi2,hi3,hi4⟩:=info_parts ygu;have HZ:=hX hzW;have HZR:=hX hzr;clear ha hB hzW;go_wp2_with (at_builtin;refine wpList_append_own _ rfl (.tmp 26) (.tmp 28) 22 rfl W.heap.size 61 i0 _ 7 72 Tryz.underlying22 hi1 hi2 hi3 hi4 rfl (by decide) _ l.length xs rfl (hx.alloc _) ⟨wr.heap.size,0,none⟩ 1 1 markF rfl rfl ?d6 ?d7 ?d8 ?d9 ?d10 ?_);case d6=>intro j u hu;exact cells_new wr markF _ j u hu
   case d7=>intro u hu;simp only[markF,List.mem_cons,List.not_mem_nil,or_false] at hu;rcases hu with rfl | rfl | rfl | rfl | rfl | rfl | rfl <;> rfl
   case d8=>unfold maxLen;omega
   case d9=>omega
   case d10=>simp;omega
   intro v' w4 ho hg _
   rcases ho.2 with ⟨_,h0⟩ | ⟨g,cap',cur,rfl,hB',hgg,hn,hm',hcs,ht⟩
   ·omega
   have HE:=hX (zrq zct zu3 HX.out HA.out HKB.out (HKB.out.trans (Below.refl _ _) |> fun _=>(Below.refl _ wr).alloc (Nat.le_refl _) _) ho hn hm' hg);have hmm:=hm';unfold maxLen at hmm;have hzz:=HZ.out;have hne:∀b,b<W.heap.size→some b≠u3.ownBlock:=fun b hb e=>by have:=(HX.out.lt b e.symm).1;omega
   have BX:=hX ((BW.out.alloc _).grown hg (hne _ (by omega)));have BY:=hX (((BB.out.below HKB.out (by omega)).alloc _).grown hg (hne _ (by omega)));have x0:w4.cell? ⟨w.heap.size,0,none⟩=some (.slice A l.length cap):=BX.out.cell 0;have y0:w4.cell? ⟨w.heap.size+1,0,none⟩=some (.slice none 0 0):=BY.out.cell 0;have yf:w4.frozen? ⟨w.heap.size+1,0,none⟩=false:=BY.out.frozen 0;clear hne;clear ho hg hgg hcs ht hx hi1 hi2 hi3 hi4 hB' hm';go_wp2_with fail;have y1:(w4.setCell ⟨w.heap.size+1,0,none⟩ (.slice (some ⟨g,0,none⟩) l.length cap')).cell? ⟨w.heap.size+1,0,none⟩=some (.slice (some ⟨g,0,none⟩) l.length cap'):=(BY.out.set_ 0 (.slice (some ⟨g,0,none⟩) l.length cap')).cell 0;refine bodyPost_ret (v:=.agg #[.slice (some ⟨g,0,none⟩) l.length cap']) (by simp[results,Tryz.results8,go_sem,y1]) rfl ?_;refine ⟨_,rfl,At.keep (fun p hp=>World.cell?_setCell_other _ _ _ _ (by intro e;subst e;have:=hp.1;simp at this;omega)) (fun r hr=>⟨by omega,by have:=hr.2;simpa [World.setCell] using this⟩) HE.out.1,(HB.out.trans (HE.out.2.mono (by omega))).setCell (by simp) _⟩
end Go.Proofs.YtplkbdncgkgppaaGreatDoor.Sch
end
section
namespace Go.Proofs.YtplkbdncgkgppaaGreatDoor.Sch
open Go.RowKit Words Tree SchP Kit Owned
end Go.Proofs.YtplkbdncgkgppaaGreatDoor.Sch
end
section
namespace Go.Proofs.YtplkbdncgkgppaaGreatDoor.Sch
open Go.RowKit Words Tree SchP Kit Owned
theorem zk7 (a b:ByteArray):(a=b∧(a.toList == b.toList)=true)∨(a≠b∧(a.toList == b.toList)=false):=by
 by_cases h:a=b
 ·exact .inl ⟨h,by subst h;simp⟩
 ·refine .inr ⟨h,?_⟩;have:¬a.toList=b.toList:=fun e=>by rw[ByteArray.toList_eq,ByteArray.toList_eq] at e;exact h (ByteArray.ext (Array.toList_inj.1 e))
  rw[beq_eq_false_iff_ne];exact this
theorem zu5 {l:List FT} {s:ByteArray} {k:Nat} (h:k<l.length):zcz (l.drop k) s=if l[k].name=s then some 0 else (zcz (l.drop (k+1)) s).map (· + 1):=by
 rw[List.drop_eq_getElem_cons h,zcz]
def zOf:Option Nat→Int
 | some i=>i
 | none=>-1
theorem zfp (l:List FT) (s:ByteArray):zi1 l s=zOf (zcz l s):=by
 unfold zi1 zOf;cases zcz l s <;> rfl
def IntB (n:Int) (w:World) (e:Ending) (w':World):Prop:=e = .returned (.int .i64 n)∧Below w.heap.size w w'
end Go.Proofs.YtplkbdncgkgppaaGreatDoor.Sch
end
section
namespace Go.Proofs.YtplkbdncgkgppaaGreatDoor.Sch
open Go.RowKit Words Tree SchP Kit Owned
theorem zxr {w:World} {g:Nat} {t:TypeId} {v0 v1 v2 v3 v4 v5 v6:Value} (h:Blk w g t #[v0,v1,v2,v3,v4,v5,v6]) :
 w.cell? ⟨g,0,none⟩=some v0∧w.cell? ⟨g,1,none⟩=some v1∧w.cell? ⟨g,2,none⟩=some v2∧w.cell? ⟨g,3,none⟩=some v3∧w.cell? ⟨g,4,none⟩=some v4∧w.cell? ⟨g,5,none⟩=some v5∧w.cell? ⟨g,6,none⟩=some v6:=
 ⟨h.cell 0,h.cell 1,h.cell 2,h.cell 3,h.cell 4,h.cell 5,h.cell 6⟩
end Go.Proofs.YtplkbdncgkgppaaGreatDoor.Sch
end
section
namespace Go.Proofs.YtplkbdncgkgppaaGreatDoor.Tree
open Go.RowKit Go.WideShapes Go.ChangeShapes Words Owned
structure NumsIn (e:TypeId) (k:IntKind) (lo hi:Nat) (w:World) (l:List Int) (v:Value):Prop where
 own:w.ownsRow lo e 1 v l.length (l.map (Value.int k))
 lt:∀g,v.ownBlock=some g→g<hi
section
variable {e:TypeId} {k:IntKind} {lo hi:Nat} {w w':World} {l:List Int} {v:Value}
theorem NumsIn.none_:NumsIn e k lo hi w [] (.slice none 0 0):=⟨World.ownsRow_nil _ _ _ _,fun g h=>by cases h⟩
end
section
variable {X:Type} {e:TypeId} {k:IntKind} {nums:X→List Int} {w w':World} {N hi:Nat} {xs:List X} {vs:List Value}
end
section
variable {X:Type} {et e:TypeId} {k:IntKind} {pre:X→List Value} {nums:X→List Int} {w w':World} {N hi:Nat} {xs:List X} {vs:List Value}
end
end Go.Proofs.YtplkbdncgkgppaaGreatDoor.Tree
end
section
namespace Go.Proofs.YtplkbdncgkgppaaGreatDoor.Sch
open Go.RowKit Words Tree SchP Kit Owned
theorem ybd (n c:Nat) (w:World):(binOp .eql 25 (.slice none n c) (.slice none 0 0)).run Tryz.prog w = .ok (.bool true) w:=by rfl
theorem zxs (ad:Addr) (n c:Nat) (w:World):(binOp .eql 25 (.slice (some ad) n c) (.slice none 0 0)).run Tryz.prog w = .ok (.bool false) w:=by rfl
def ygv (l:List Int) (w:World) (e:Ending) (w':World):Prop:=∃v,e = .returned v∧NumsIn 2 .i64 w.heap.size w'.heap.size w' l v∧Below w.heap.size w w'
theorem zpk (v:Value) (l:List Int) (w:World) (hv:T.At bare w (fun g=>g<w.heap.size) (zf5 .i64 l) v) (hl:l.length*8≤140737488351232) :
 Calls Tryz.prog 45 #[v] w (ygv l w):=by
 obtain ⟨A,cap,rfl,hc,hm,hr⟩:=zc2 hv;clear hv;obtain ⟨i0,hi,hz0,hz1,hz2⟩:=info_parts infoI64
 cases A with
 | none=>
  have h0:l=[]:=by
   rcases Nat.eq_zero_or_pos l.length with h | h
   ·exact List.eq_nil_of_length_eq_zero h
   ·obtain ⟨ad,e,_⟩:=hr.2 h;cases e
  subst h0;clear hr;have hq:=ybd;go_enter Tryz.func45,Tryz.ntmps45;go_wp2_with fail;go_ret;exact ⟨_,rfl,NumsIn.none_,Below.refl _ _⟩
 | some ad=>
  have hq:=zxs;go_enter Tryz.func45,Tryz.ntmps45;go_wp2_with (at_builtin;refine zan _ rfl (.tmp 5) (.tmp 6) 25 rfl w.heap.size 2 i0 (.int .i64 0) 1 8 Tryz.underlying25 hi hz0 hz1 hz2 rfl (by decide) _ 0 [] rfl (zpi w _ _ _ (Nat.le_refl _)) w.heap.size (some ad) l.length cap (l.map (Value.int .i64)) rfl (hr.alloc (Nat.le_refl _) _) ?c2 ?c3 ?c4 ?c5 ?_);case c2=>intro u hu;obtain ⟨z,_,rfl⟩:=List.mem_map.1 hu;rfl
  case c3=>unfold maxLen;omega
  case c4=>omega
  case c5=>simp
  intro v1 w1 ho1 hg1 _;have hb1:Below w.heap.size w w1:=((Below.refl _ w).alloc (Nat.le_refl _) _).grown hg1 (by simp) (fun r e=>by simp[Value.ownBlock] at e;omega);replace ho1:w1.ownsRow w.heap.size 2 1 v1 l.length (l.map (Value.int .i64)):=by simpa using ho1
  have HB1:=hX hb1;have HO1:=hX ho1;clear hg1 hb1 ho1;go_wp2_with fail;go_ret;exact ⟨_,rfl,⟨HO1.out,fun g hg=>(HO1.out.lt g hg).2⟩,HB1.out⟩
end Go.Proofs.YtplkbdncgkgppaaGreatDoor.Sch
end
