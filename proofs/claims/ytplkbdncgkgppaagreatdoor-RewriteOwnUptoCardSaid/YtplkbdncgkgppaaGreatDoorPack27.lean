/- Lemmas that the last text leans on. -/
import Derived.Deep.RegionHeld
import Derived.Test.YtplkbdncgkgppaaGreatDoorTake
import Derived.Test.YtplkbdncgkgppaaGreatDoorPack2
import Derived.Test.YtplkbdncgkgppaaGreatDoorPack7
import Derived.Test.YtplkbdncgkgppaaGreatDoorPack25
import Derived.Test.YtplkbdncgkgppaaGreatDoorPack8
import Derived.Deep.QuietTactic
import Derived.BigQuiet
import Derived.StillTailTactics
set_option linter.all false
set_option maxRecDepth 100000
section
namespace Go.Proofs.YtplkbdncgkgppaaGreatDoor.HeldU
open Go
section
variable {P:Program} {ops:Array Oper} {Q:Exit→Act→World→Prop} {md:Region.Mode} {S:World→Prop} {m:Array Bool}
def zcd (P:Program) (md:Region.Mode) (ops:Array Oper) (Q:Exit→Act→World→Prop) (S:World→Prop) (m:Array Bool):Nat→Array Bool→Act→World→Prop
 | 0,listed,a,w=>Region.ready md ops listed=[]∧Q .normal a w
 | fuel+1,listed,a,w=>if listed=m then wpAny P md ops Q (fuel+1) listed a w else
  (Region.ready md ops listed=[]→Q .normal a w)∧
  ∀i∈Region.ready md ops listed,wpOp P ops Q i (fun a' w'=>S w'∧zcd P md ops Q S m fuel (listed.setIfInBounds i true) a' w') a w
theorem zgt:∀(fuel:Nat) (listed:Array Bool) (a:Act) (w:World),zcd P md ops Q S m fuel listed a w→wpAny P md ops Q fuel listed a w
 | 0,_,_,_,h=>h
 | fuel+1,listed,a,w,h=>by
  rw[zcd] at h;split at h
  ·exact h
  ·exact ⟨h.1,fun i hi=>wpOp_mono (fun a' w' h'=>zgt fuel _ a' w' h'.2) (h.2 i hi)⟩
def yeg (listed m:Array Bool):Bool:=listed.size == m.size && (List.range m.size).all fun j=>!listed.getD j true || m.getD j true
theorem yeh {listed:Array Bool} (h:yeg listed m=true):listed.size=m.size∧∀j,j<m.size→listed.getD j true=true→m.getD j true=true:=by
 unfold yeg at h;rw[Bool.and_eq_true,beq_iff_eq,List.all_eq_true] at h;refine ⟨h.1,fun j hj hl=>?_⟩;have:=h.2 j (List.mem_range.2 hj);rw[hl] at this;simpa using this
theorem zkp {l:Array Bool} {j:Nat} (h:j<l.size) (d d':Bool):l.getD j d=l.getD j d':=by simp[Array.getD,h]
theorem zi7 {l:Array Bool} {i j:Nat} (h:j≠i) (u d:Bool):(l.setIfInBounds i u).getD j d=l.getD j d:=by
 rw[Array.getD_eq_getD_getElem?,Array.getD_eq_getD_getElem?,Array.getElem?_setIfInBounds_ne (Ne.symm h)]
theorem zwl {listed:Array Bool} {i j:Nat} (hs:listed.size=m.size) (hsub:∀j,j<m.size→listed.getD j true=true→m.getD j true=true) (him:m.getD i false=true) (hck:∀j∈Region.ready md ops (m.setIfInBounds i false),j=i)
 (hi:listed.getD i true=false) (hj:j∈Region.ready md ops listed) (hji:j≠i):j<m.size∧m.getD j true=true:=by
 rw[mem_ready] at hj;obtain ⟨h0,o,ho,hall⟩:=hj
 have hjs:j<m.size:=by
  rcases Nat.lt_or_ge j listed.size with h | h
  ·omega
  ·simp[Array.getD,Nat.not_lt.2 h] at h0
 refine ⟨hjs,?_⟩
 cases hm:m.getD j true with
 | true=>rfl
 | false=>
  refine absurd (hck j ?_) hji;rw[mem_ready];refine ⟨by rw[zi7 hji];exact hm,o,ho,fun e he hb=>?_⟩;have h1:=hall e he hb
  have hne:e.on≠i:=fun h=>by
   rw[h] at h1
   have his:i<listed.size:=by
    rcases Nat.lt_or_ge i listed.size with h | h
    ·exact h
    ·simp[Array.getD,Nat.not_lt.2 h] at hi
   rw[zkp his false true,hi] at h1;cases h1
  rw[zi7 hne]
  have hes:e.on<listed.size:=by
   rcases Nat.lt_or_ge e.on listed.size with h | h
   ·exact h
   ·simp[Array.getD,Nat.not_lt.2 h] at h1
  rw[zkp (by omega:e.on<m.size) false true];exact hsub _ (by omega) (by rw[zkp hes true false];exact h1)
theorem zov {i:Nat} {oi:Oper} {v:Value} (hi:ops[i]?=some oi) (hsel:∀(j:Nat) (o:Oper) cs b,ops[j]?=some o→o.op≠.select cs b)
 (hQ:∀c a w,Q (.panic c) (a.put oi.dst v) w→Q (.panic c) a w) (him:m.getD i false=true) (hck:∀j∈Region.ready md ops (m.setIfInBounds i false),j=i) :
 ∀(fuel:Nat) (listed:Array Bool) (a:Act) (w:World),
  (∀j oj,ops[j]?=some oj→j≠i→listed.getD j true=false→(∀e∈oj.after,Region.binds md e=true→e.on≠i)→oi.apart ops oj=true)→
  listed.size=m.size→(∀j,j<m.size→listed.getD j true=true→m.getD j true=true)→
  i∈Region.ready md ops listed→YieldsIf P ops S oi v a→S w→
  zcd P md ops Q S m fuel (listed.setIfInBounds i true) (a.put oi.dst v) w→zcd P md ops Q S m (fuel+1) listed a w:=by
 have hne:∀{listed:Array Bool},i∈Region.ready md ops listed→¬listed=m:=fun hr e=>by
  have h0:=(mem_ready.1 hr).1;rw[e] at h0
  have his:i<m.size:=by
   rcases Nat.lt_or_ge i m.size with h | h
   ·exact h
   ·simp[Array.getD,Nat.not_lt.2 h] at him
  rw[zkp his true false,him] at h0;cases h0
 intro fuel
 induction fuel with
 | zero=>
  intro listed a w _ _ _ hr hy hS H;rw[zcd,if_neg (hne hr)];refine ⟨fun h=>(by rw[h] at hr;cases hr),fun j hj=>?_⟩;by_cases hji:j=i
  ·subst hji;exact hy.wpOp hi hS ⟨hS,H⟩
  ·have:=ready_mono hj hji;rw[H.1] at this;cases this
 | succ fuel ih=>
  intro listed a w hfree hs hsub hr hy hS H;rw[zcd,if_neg (hne hr)];refine ⟨fun h=>(by rw[h] at hr;cases hr),fun j hj=>?_⟩;by_cases hji:j=i
  ·subst hji;exact hy.wpOp hi hS ⟨hS,H⟩
  ·have h0i:=(mem_ready.1 hr).1;obtain ⟨hjs,hjm⟩:=zwl hs hsub him hck h0i hj hji;rw[zcd] at H;split at H
   ·rename_i hm
    exfalso;have h1:=(mem_ready.1 hj).1;have:(listed.setIfInBounds i true).getD j true=true:=by rw[hm];exact hjm
    rw[getD_set_ne true (Ne.symm hji),h1] at this;cases this
   ·have h1:=H.2 j (ready_mono hj hji);obtain ⟨hjun,oj,hoj,hall⟩:=mem_ready.1 hj
    have hnot:∀e∈oj.after,Region.binds md e=true→e.on≠i:=fun e he hb heq=>by
     have h1:=hall e he hb;have h0:=h0i;rw[heq] at h1;rcases Nat.lt_or_ge i listed.size with h' | h'
     ·rw[zkp h' false true,h0] at h1;cases h1
     ·simp[Array.getD,Nat.not_lt.2 h'] at h1
    have h2:=wpOp_putIf hoj (hfree j oj hoj hji hjun hnot) (fun cs b=>hsel i oi cs b hi) (fun cs b=>hsel j oj cs b hoj) hQ hy h1
    have hfree':∀k ok,ops[k]?=some ok→k≠i→(listed.setIfInBounds j true).getD k true=false→
     (∀e∈ok.after,Region.binds md e=true→e.on≠i)→oi.apart ops ok=true:=fun k ok hk hki hun hno=>by
     refine hfree k ok hk hki ?_ hno;by_cases hjk:j=k
     ·subst hjk;exact hjun
     ·rw[getD_set_ne true hjk] at hun;exact hun
    refine wpOp_mono (fun a' w' h3=>⟨h3.2.1,ih (listed.setIfInBounds j true) a' w' hfree' (by simpa using hs) (fun k hk hl=>?_) (ready_mono hr (Ne.symm hji)) h3.1 h3.2.1 ?_⟩) h2
    ·by_cases hjk:j=k
     ·subst hjk;exact hjm
     ·rw[getD_set_ne true hjk] at hl;exact hsub k hk hl
    ·rw[Array.setIfInBounds_comm _ _ hji];exact h3.2.2
theorem zkq {i:Nat} {oi:Oper} {v:Value} {fuel:Nat} {listed:Array Bool} {a:Act} {w:World} (hi:ops[i]?=some oi)
 (hs:Region.noSelect ops=true) (hf:Region.free md ops listed i=true) (hr:(Region.ready md ops listed).contains i=true)
 (hc:(m.getD i false && (Region.ready md ops (m.setIfInBounds i false)).all (fun j=>j == i) && yeg listed m)=true)
 (hQ:∀c a w,Q (.panic c) (a.put oi.dst v) w→Q (.panic c) a w) (hy:YieldsIf P ops S oi v a) (hS:S w)
 (h:zcd P md ops Q S m fuel (listed.setIfInBounds i true) (a.put oi.dst v) w):zcd P md ops Q S m (fuel+1) listed a w:=by
 rw[Bool.and_eq_true,Bool.and_eq_true,List.all_eq_true] at hc;obtain ⟨⟨h1,h2⟩,h3⟩:=hc;obtain ⟨h4,h5⟩:=yeh h3;exact zov hi (Region.noSelect_spec hs) hQ h1 (fun j hj=>by simpa using h2 j hj) fuel listed a w (Region.free_spec hi hf) h4 h5 (by simpa using hr) hy hS h
theorem tkU {oi:Oper} {v:Value} {fuel:Nat} {listed:Array Bool} {a:Act} {w:World} (i:Nat) (hi:ops[i]?=some oi)
 (hk:(Region.noSelect ops && Region.free md ops listed i && (Region.ready md ops listed).contains i && (m.getD i false && (Region.ready md ops (m.setIfInBounds i false)).all (fun j=>j == i) && yeg listed m))=true)
 (hQ:∀c a w,Q (.panic c) (a.put oi.dst v) w→Q (.panic c) a w) (hw:Region.wanted oi (yielded ops a.tmps)=true) (hS:S w) (hy:∀w,S w→(execOp a.eval oi).run P w = .ok (.value v) w)
 (h:zcd P md ops Q S m fuel (listed.setIfInBounds i true) (a.put oi.dst v) w):zcd P md ops Q S m (fuel+1) listed a w:=by
 rw[Bool.and_eq_true,Bool.and_eq_true,Bool.and_eq_true] at hk;exact zkq hi hk.1.1.1 hk.1.1.2 hk.1.2 hk.2 hQ (.inl ⟨hw,hy⟩) hS h
theorem tkS {oi:Oper} {fuel:Nat} {listed:Array Bool} {a:Act} {w:World} (i:Nat) (hi:ops[i]?=some oi)
 (hk:(Region.noSelect ops && Region.free md ops listed i && (Region.ready md ops listed).contains i && (m.getD i false && (Region.ready md ops (m.setIfInBounds i false)).all (fun j=>j == i) && yeg listed m))=true)
 (hQ:∀c a w,Q (.panic c) (a.put oi.dst undef) w→Q (.panic c) a w) (hw:Region.wanted oi (yielded ops a.tmps)=false) (hS:S w)
 (h:zcd P md ops Q S m fuel (listed.setIfInBounds i true) (a.put oi.dst undef) w):zcd P md ops Q S m (fuel+1) listed a w:=by
 rw[Bool.and_eq_true,Bool.and_eq_true,Bool.and_eq_true] at hk;exact zkq hi hk.1.1.1 hk.1.1.2 hk.1.2 hk.2 hQ (.inr ⟨hw,rfl⟩) hS h
theorem zcx {i:Nat} {o:Oper} {fuel:Nat} {listed:Array Bool} {a:Act} {w:World} (hr:Region.ready md ops listed=[i]) (hm:(listed == m)=false) (ho:ops[i]?=some o)
 (h:∀K':Act→World→Prop,Shut (∀a w,S w→(S w→zcd P md ops Q S m fuel (listed.setIfInBounds i true) a w)→K' a w)→if Region.wanted o (yielded ops a.tmps)=true then Oper.wp P o a w K' Q else K' (a.put o.dst undef) w) :
 zcd P md ops Q S m (fuel+1) listed a w:=by
 rw[zcd,if_neg (by simpa using hm)];refine ⟨fun h0=>(by rw[hr] at h0;cases h0),fun j hj=>?_⟩;rw[hr,List.mem_singleton] at hj;subst hj;exact wpOp_step ho (fun K' hK=>h K' (fun a w hS hW=>hK a w ⟨hS,hW hS⟩))
theorem zgk {fuel:Nat} {listed:Array Bool} {a:Act} {w:World} (hm:(listed == m)=true) (h:wpAnyH P md ops Q (fun _=>True) (fuel+1) listed a w):zcd P md ops Q S m (fuel+1) listed a w:=by
 rw[zcd,if_pos (by simpa using hm)];exact wpAny_of_held _ _ _ _ h
theorem zcl {id:Nat} {a:Act} {w:World} (m:Array Bool) (S:World→Prop) (hm:P.follows .mixedOrders=true) (hS:S w.drew)
 (h:S w.drew→zcd P .any ops Q S m ops.size (Array.replicate ops.size false) a w.drew):(Code.region id ops true).wp P Q a w:=
 wp_region_any hm (zgt _ _ _ _ (h hS))
end
end Go.Proofs.YtplkbdncgkgppaaGreatDoor.HeldU
end
section
namespace Go.Proofs.YtplkbdncgkgppaaGreatDoor.Sch
open Go.RowKit Go.WideShapes Go.ChangeShapes Words Tree SchP
def zgu (f:FT):List T:=[.lit (.string f.name),.lit (.int .i64 f.kind),zh8 .i64 f.chain,.lit (.int .i64 f.scale),.lit (.int .i64 f.dims),.lit (.bool f.many),.lit (.bool f.stored)]
theorem zem (f:FT):(zgu f).length=7:=rfl
abbrev zcm (l:List FT):T:=ybi 7 zgu l
def I64 (n:Int):Prop:=-9223372036854775808≤n∧n≤9223372036854775807
def yei (l:List Int):Prop:=l.length*8≤140737488351232∧∀z∈l,I64 z
structure FOk (f:FT):Prop where
 name:f.name.size≤140737488351232
 kind:I64 f.kind
 chain:yei f.chain
 scale:I64 f.scale
 dims:I64 f.dims
section
variable {sent:Nat→List (List Value)} {w:World} {S:Nat→Prop}
theorem zdx {f:FT} {vs:List Value} (h:T.AtL sent w S (zgu f) vs):∃v,vs=[.string f.name,.int .i64 f.kind,v,.int .i64 f.scale,.int .i64 f.dims,.bool f.many,.bool f.stored]∧T.At sent w S (zh8 .i64 f.chain) v:=by
 rw[zgu] at h;obtain ⟨v0,r,rfl,h0,h⟩:=AtL.cons_ h;obtain ⟨v1,r,rfl,h1,h⟩:=AtL.cons_ h;obtain ⟨v2,r,rfl,h2,h⟩:=AtL.cons_ h;obtain ⟨v3,r,rfl,h3,h⟩:=AtL.cons_ h;obtain ⟨v4,r,rfl,h4,h⟩:=AtL.cons_ h;obtain ⟨v5,r,rfl,h5,h⟩:=AtL.cons_ h;obtain ⟨v6,r,rfl,h6,h⟩:=AtL.cons_ h;obtain rfl:=AtL.nil_ h;simp only[T.At] at h0 h1 h3 h4 h5 h6;subst h0 h1 h3 h4 h5 h6;exact ⟨v2,rfl,h2⟩
theorem zhr {f:FT} {v:Value} (h:T.At sent w S (zh8 .i64 f.chain) v):T.AtL sent w S (zgu f) [.string f.name,.int .i64 f.kind,v,.int .i64 f.scale,.int .i64 f.dims,.bool f.many,.bool f.stored]:=by
 simp only[zgu,T.AtL,T.At,true_and,and_true];exact h
end
theorem i64_of {n:Int} (h:(Lit.int .i64 n).wf=true):I64 n:=Law.ygd h
theorem zzn {ts:List T} (h:Typed Tryz.prog 61 ts):∃f,ts=zgu f∧FOk f:=by
 obtain ⟨parts,rfl,hl,hp⟩:=h.struct_inv Tryz.underlying61
 match parts,hl with
 | [p0,p1,p2,p3,p4,p5,p6],_=>
  obtain ⟨n,rfl,w0⟩:=(hp 0 _ _ rfl rfl).str_inv Tryz.underlying9;obtain ⟨kd,rfl,w1⟩:=(hp 1 _ _ rfl rfl).int_inv Tryz.underlying3;obtain ⟨ch,rfl,b2,w2⟩:=ybj (hp 2 _ _ rfl rfl) Tryz.underlying59 Tryz.underlying3 (by kernel_rfl);obtain ⟨sc,rfl,w3⟩:=(hp 3 _ _ rfl rfl).int_inv Tryz.underlying3;obtain ⟨di,rfl,w4⟩:=(hp 4 _ _ rfl rfl).int_inv Tryz.underlying3;obtain ⟨m,rfl⟩:=(hp 5 _ _ rfl rfl).bool_inv Tryz.underlying4;obtain ⟨s,rfl⟩:=(hp 6 _ _ rfl rfl).bool_inv Tryz.underlying4;rw[show Tryz.prog.bytesOf 3=8 from by kernel_rfl] at b2;exact ⟨⟨n,kd,ch,sc,di,m,s⟩,rfl,⟨w0,i64_of w1,⟨b2,fun z hz=>i64_of (w2 z hz)⟩,i64_of w3,i64_of w4⟩⟩
theorem zwm {ts:List T} (h:Typed Tryz.prog 24 ts):∃l,ts=[zcm l]∧l.length*72≤140737488351232∧∀f∈l,FOk f:=by
 obtain ⟨parts,rfl,hl,hp⟩:=h.struct_inv Tryz.underlying24
 match parts,hl with
 | [p0],_=>
  obtain ⟨l,rfl,hb,_,hC⟩:=ydj (hp 0 _ _ rfl rfl) Tryz.underlying22 (fun r hr=>zzn hr);rw[show Tryz.prog.bytesOf 61=72 from by kernel_rfl] at hb;rw[show Tryz.prog.cellsOf 61=7 from by kernel_rfl];exact ⟨l,rfl,hb,hC⟩
section
variable {H:Type} {enc:TypeId × Value→H} {w:World} {r:Reach} {b0:Nat} {v:Value} {d:DataW H} {ps:List MemPlace}
end
end Go.Proofs.YtplkbdncgkgppaaGreatDoor.Sch
end
section
namespace Go.Proofs.YtplkbdncgkgppaaGreatDoor.Sch
open Go.RowKit Words Tree SchP Kit Owned
def markF:List Value:=[.string ⟨#[109,97,114,107]⟩,.int .i64 0,.slice none 0 0,.int .i64 0,.int .i64 0,.bool false,.bool false]
def yf7:List Value:=[.string ⟨#[109,97,114,107]⟩,.string ⟨#[]⟩,.slice none 0 0]
def lent:Nat→List (List Value):=fun s=>if s=1 then [[.int .i64 (-7171)]] else if s=7 then [markF] else if s=3 then [yf7] else []
theorem lent_one:lent 1=[[.int .i64 (-7171)]]:=rfl
theorem infoI64:(Tryz.prog.info? 2).map (fun i=>(i.zero,i.size,i.bytes))=some (some (.int .i64 0),1,8):=by kernel_rfl
def LentT (t:T) (w:World) (e:Ending) (w':World):Prop:=∃v,e = .returned v∧T.At lent w' (fun g=>w.heap.size≤g∧g<w'.heap.size) t v∧Below w.heap.size w w'
end Go.Proofs.YtplkbdncgkgppaaGreatDoor.Sch
end
section
namespace Go.Proofs.YtplkbdncgkgppaaGreatDoor.Sch
open Go.RowKit Words Tree SchP Kit Owned
end Go.Proofs.YtplkbdncgkgppaaGreatDoor.Sch
end
section
namespace Go.Proofs.YtplkbdncgkgppaaGreatDoor.Sch
open Go.RowKit Words Tree SchP Kit Owned
theorem below2 {w:World} (o1 o2:Obj):Below w.heap.size w ((w.alloc o1).alloc o2):=((Below.refl _ _).alloc (Nat.le_refl _) _).alloc (by simp) _
theorem blk_b (w:World) (cs ds:Array Value) (t t':TypeId):Blk ((w.alloc (.cells cs t)).alloc (.cells ds t')) (w.heap.size+1) t' ds:=by
 have:=Blk.new (w.alloc (.cells cs t)) t' ds;rwa [World.size_alloc] at this
theorem zzo {w:World} {ad:Addr} {v0 v1 v2 v3 v4 v5 v6:Value} (h:zbv w ad [v0,v1,v2,v3,v4,v5,v6]) :
 w.cell? ad=some v0∧w.cell? ⟨ad.block,ad.off+1,none⟩=some v1∧w.cell? ⟨ad.block,ad.off+2,none⟩=some v2∧w.cell? ⟨ad.block,ad.off+3,none⟩=some v3∧w.cell? ⟨ad.block,ad.off+4,none⟩=some v4∧
 w.cell? ⟨ad.block,ad.off+5,none⟩=some v5∧w.cell? ⟨ad.block,ad.off+6,none⟩=some v6:=
 ⟨h.zero,h.at_ 1 _ rfl (by omega),h.at_ 2 _ rfl (by omega),h.at_ 3 _ rfl (by omega),h.at_ 4 _ rfl (by omega),h.at_ 5 _ rfl (by omega),h.at_ 6 _ rfl (by omega)⟩
end Go.Proofs.YtplkbdncgkgppaaGreatDoor.Sch
end
section
namespace Go.Proofs.YtplkbdncgkgppaaGreatDoor.Sch
open Go.RowKit Words Tree SchP Kit Owned
end Go.Proofs.YtplkbdncgkgppaaGreatDoor.Sch
end
section
namespace Go.Proofs.YtplkbdncgkgppaaGreatDoor.Sch
open Go.RowKit Words Tree SchP Kit Owned
theorem zkr (a b:ByteArray):(a=b∧(a.toList == b.toList)=true)∨(a≠b∧(a.toList == b.toList)=false):=by
 by_cases h:a=b
 ·exact .inl ⟨h,by subst h;simp⟩
 ·refine .inr ⟨h,?_⟩;have:¬a.toList=b.toList:=fun e=>by rw[ByteArray.toList_eq,ByteArray.toList_eq] at e;exact h (ByteArray.ext (Array.toList_inj.1 e))
  rw[beq_eq_false_iff_ne];exact this
theorem ztm {l:List FT} {s:ByteArray} {k:Nat} (h:k<l.length):zcv (l.drop k) s=if l[k].name=s then some 0 else (zcv (l.drop (k+1)) s).map (· + 1):=by
 rw[List.drop_eq_getElem_cons h,zcv]
def zOf:Option Nat→Int
 | some i=>i
 | none=>-1
theorem zgl (l:List FT) (s:ByteArray):zjc l s=zOf (zcv l s):=by
 unfold zjc zOf;cases zcv l s <;> rfl
def IntB (n:Int) (w:World) (e:Ending) (w':World):Prop:=e = .returned (.int .i64 n)∧Below w.heap.size w w'
end Go.Proofs.YtplkbdncgkgppaaGreatDoor.Sch
end
section
namespace Go.Proofs.YtplkbdncgkgppaaGreatDoor.Sch
open Go.RowKit Words Tree SchP Kit Owned
theorem zwn {w:World} {g:Nat} {t:TypeId} {v0 v1 v2 v3 v4 v5 v6:Value} (h:Blk w g t #[v0,v1,v2,v3,v4,v5,v6]) :
 w.cell? ⟨g,0,none⟩=some v0∧w.cell? ⟨g,1,none⟩=some v1∧w.cell? ⟨g,2,none⟩=some v2∧w.cell? ⟨g,3,none⟩=some v3∧w.cell? ⟨g,4,none⟩=some v4∧w.cell? ⟨g,5,none⟩=some v5∧w.cell? ⟨g,6,none⟩=some v6:=
 ⟨h.cell 0,h.cell 1,h.cell 2,h.cell 3,h.cell 4,h.cell 5,h.cell 6⟩
end Go.Proofs.YtplkbdncgkgppaaGreatDoor.Sch
end
section
namespace Go.Proofs.YtplkbdncgkgppaaGreatDoor.Tree
open Go.RowKit Go.WideShapes Go.ChangeShapes Words Owned
structure NumsIn (e:TypeId) (k:IntKind) (lo hi:Nat) (w:World) (l:List Int) (v:Value):Prop where
 own:w.ownsRow lo e 1 v l.length (l.map (Value.int k))
 lt:∀g,v.ownBlock=some g→g<hi
section
variable {e:TypeId} {k:IntKind} {lo hi:Nat} {w w':World} {l:List Int} {v:Value}
theorem NumsIn.none_:NumsIn e k lo hi w [] (.slice none 0 0):=⟨World.ownsRow_nil _ _ _ _,fun g h=>by cases h⟩
end
section
variable {X:Type} {e:TypeId} {k:IntKind} {nums:X→List Int} {w w':World} {N hi:Nat} {xs:List X} {vs:List Value}
end
section
variable {X:Type} {et e:TypeId} {k:IntKind} {pre:X→List Value} {nums:X→List Int} {w w':World} {N hi:Nat} {xs:List X} {vs:List Value}
end
end Go.Proofs.YtplkbdncgkgppaaGreatDoor.Tree
end
section
namespace Go.Proofs.YtplkbdncgkgppaaGreatDoor.Sch
open Go.RowKit Words Tree SchP Kit Owned
theorem zzp (n c:Nat) (w:World):(binOp .eql 25 (.slice none n c) (.slice none 0 0)).run Tryz.prog w = .ok (.bool true) w:=by rfl
theorem zwo (ad:Addr) (n c:Nat) (w:World):(binOp .eql 25 (.slice (some ad) n c) (.slice none 0 0)).run Tryz.prog w = .ok (.bool false) w:=by rfl
def yej (l:List Int) (w:World) (e:Ending) (w':World):Prop:=∃v,e = .returned v∧NumsIn 2 .i64 w.heap.size w'.heap.size w' l v∧Below w.heap.size w w'
theorem zow (v:Value) (l:List Int) (w:World) (hv:T.At bare w (fun g=>g<w.heap.size) (zh8 .i64 l) v) (hl:l.length*8≤140737488351232) :
 Calls Tryz.prog 45 #[v] w (yej l w):=by
 obtain ⟨A,cap,rfl,hc,hm,hr⟩:=zmi hv;clear hv;obtain ⟨i0,hi,hz0,hz1,hz2⟩:=info_parts infoI64
 cases A with
 | none=>
  have h0:l=[]:=by
   rcases Nat.eq_zero_or_pos l.length with h | h
   ·exact List.eq_nil_of_length_eq_zero h
   ·obtain ⟨ad,e,_⟩:=hr.2 h;cases e
  subst h0;clear hr;have hq:=zzp;go_enter Tryz.func45,Tryz.ntmps45;go_wp2_with fail;go_ret;exact ⟨_,rfl,NumsIn.none_,Below.refl _ _⟩
 | some ad=>
  have hq:=zwo;go_enter Tryz.func45,Tryz.ntmps45;go_wp2_with (at_builtin;refine zao _ rfl (.tmp 5) (.tmp 6) 25 rfl w.heap.size 2 i0 (.int .i64 0) 1 8 Tryz.underlying25 hi hz0 hz1 hz2 rfl (by decide) _ 0 [] rfl (zny w _ _ _ (Nat.le_refl _)) w.heap.size (some ad) l.length cap (l.map (Value.int .i64)) rfl (hr.alloc (Nat.le_refl _) _) ?c2 ?c3 ?c4 ?c5 ?_);case c2=>intro u hu;obtain ⟨z,_,rfl⟩:=List.mem_map.1 hu;rfl
  case c3=>unfold maxLen;omega
  case c4=>omega
  case c5=>simp
  intro v1 w1 ho1 hg1 _;have hb1:Below w.heap.size w w1:=((Below.refl _ w).alloc (Nat.le_refl _) _).grown hg1 (by simp) (fun r e=>by simp[Value.ownBlock] at e;omega);replace ho1:w1.ownsRow w.heap.size 2 1 v1 l.length (l.map (Value.int .i64)):=by simpa using ho1
  have HB1:=hX hb1;have HO1:=hX ho1;clear hg1 hb1 ho1;go_wp2_with fail;go_ret;exact ⟨_,rfl,⟨HO1.out,fun g hg=>(HO1.out.lt g hg).2⟩,HB1.out⟩
end Go.Proofs.YtplkbdncgkgppaaGreatDoor.Sch
end
