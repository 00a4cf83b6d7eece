/- Lemmas that the last text leans on. -/
import Derived.Test.YtplkbdncgkgppaaGreatDoorPack5
import Derived.Test.YtplkbdncgkgppaaGreatDoorRows
import Derived.SizedLaws
import Derived.ChangeArms
import Derived.Test.YtplkbdncgkgppaaGreatDoorPack2
import Derived.Lib.ParseIntBCases
import Derived.Lib.IndexMore
import Derived.Lib.Repeat
import Derived.Lib.ItoaNum
import Derived.Test.YtplkbdncgkgppaaGreatDoorChecked
import Derived.WalkKit
import Derived.LoopTactic
import Derived.OwnWalk
import Derived.Deep.DeepCutAuto
set_option linter.all false
set_option maxRecDepth 100000
section
namespace Go.Proofs.YtplkbdncgkgppaaGreatDoor.Tree
open Go.RowKit Go.WideShapes Go.ChangeShapes Words
inductive Typed (P:Program):TypeId→List T→Prop where
 | bool {t:TypeId} (b:Bool) (h:P.underlying t=some .bool):Typed P t [.lit (.bool b)]
 | int {t:TypeId} {k:IntKind} (n:Int) (h:P.underlying t=some (.int k)) (hw:(Lit.int k n).wf=true):Typed P t [.lit (.int k n)]
 | str {t:TypeId} (s:ByteArray) (h:P.underlying t=some .string) (hs:s.size≤140737488351232):Typed P t [.lit (.string s)]
 | slice {t e:TypeId} (rows:List (List T)) (h:P.underlying t=some (.slice e)) (hr:∀r∈rows,Typed P e r) (hn:∀r∈rows,r.length=P.cellsOf e) (hb:rows.length*P.bytesOf e≤140737488351232) (hm:rows.length≤maxLen) :
    Typed P t [.arr (P.cellsOf e) rows.length rows.flatten]
 | struct {t:TypeId} {fs:Array Field} (parts:List (List T)) (h:P.underlying t=some (.struct fs)) (hl:parts.length=fs.size) (hp:∀(i:Nat) (f:Field) (p:List T),fs[i]?=some f→parts[i]?=some p→Typed P f.type p):Typed P t parts.flatten
section
variable {P:Program} {t e:TypeId} {ts:List T}
theorem Typed.bool_inv (h:Typed P t ts) (ht:P.underlying t=some .bool):∃b,ts=[.lit (.bool b)]:=by
 cases h <;> rename_i h' <;> first | exact ⟨_,rfl⟩ | (simp_all)
theorem Typed.int_inv {k:IntKind} (h:Typed P t ts) (ht:P.underlying t=some (.int k)):∃n,ts=[.lit (.int k n)]∧(Lit.int k n).wf=true:=by
 cases h with
 | int n h' hw=>
  rw[ht] at h';injection h' with h';injection h' with h';subst h';exact ⟨n,rfl,hw⟩
 | bool _ h'=>simp_all
 | str _ h'=>simp_all
 | slice _ h'=>simp_all
 | struct _ h'=>simp_all
theorem Typed.str_inv (h:Typed P t ts) (ht:P.underlying t=some .string):∃s,ts=[.lit (.string s)]∧s.size≤140737488351232:=by
 cases h with
 | str s h' hs=>exact ⟨s,rfl,hs⟩
 | bool _ h'=>simp_all
 | int _ h'=>simp_all
 | slice _ h'=>simp_all
 | struct _ h'=>simp_all
theorem Typed.slice_inv (h:Typed P t ts) (ht:P.underlying t=some (.slice e)):∃rows:List (List T),ts=[.arr (P.cellsOf e) rows.length rows.flatten]∧(∀r∈rows,Typed P e r)∧(∀r∈rows,r.length=P.cellsOf e)∧rows.length*P.bytesOf e≤140737488351232∧rows.length≤maxLen:=by
 cases h with
 | slice rows h' hr hn hb hm=>
  rw[ht] at h';injection h' with h';injection h' with h';subst h';exact ⟨rows,rfl,hr,hn,hb,hm⟩
 | bool _ h'=>simp_all
 | int _ h'=>simp_all
 | str _ h'=>simp_all
 | struct _ h'=>simp_all
theorem Typed.struct_inv {fs:Array Field} (h:Typed P t ts) (ht:P.underlying t=some (.struct fs)):∃parts:List (List T),ts=parts.flatten∧parts.length=fs.size∧∀(i:Nat) (f:Field) (p:List T),fs[i]?=some f→parts[i]?=some p→Typed P f.type p:=by
 cases h with
 | struct parts h' hl hp=>
  rw[ht] at h';injection h' with h';injection h' with h';subst h';exact ⟨parts,rfl,hl,hp⟩
 | bool _ h'=>simp_all
 | int _ h'=>simp_all
 | str _ h'=>simp_all
 | slice _ h'=>simp_all
end
mutual
def T.bulk:T→Nat
 | .lit (.string s)=>s.size+1
 | .lit _=>1
 | .arr _ _ xs=>T.bulkL xs+1
def T.bulkL:List T→Nat
 | []=>0
 | t::ts=>T.bulk t+T.bulkL ts
end
theorem zcc:∀l m:List T,T.bulkL (l++m)=T.bulkL l+T.bulkL m
 | [],m=>by simp[T.bulkL]
 | t::l,m=>by simp only[List.cons_append,T.bulkL,zcc l m];omega
def ydh (P:Program):Nat→List Field→Option Nat
 | off,[]=>some off
 | off,f::r=>if f.offset=off then ydh P (off+P.cellsOf f.type) r else none
def zyk (P:Program) (l:List TypeId):Bool:=l.all fun t=>match P.underlying t with
 | some .bool | some (.int _) | some .string=>P.cellsOf t == 1
 | some (.slice e)=>l.contains e && P.cellsOf t == 1 && decide (0<P.cellsOf e)
 | some (.struct fs)=>fs.toList.all (fun f=>l.contains f.type) && (ydh P 0 fs.toList == some (P.cellsOf t))
 | _=>false
section
variable {P:Program} {w:World}
theorem zbv.append {ad:Addr} {l m:List Value} (h:zbv w ad l) (h':zbv w (ad.add l.length) m):zbv w ad (l++m):=fun j u hu=>by
 rcases Nat.lt_or_ge j l.length with hj | hj
 ·rw[List.getElem?_append_left hj] at hu;exact h j u hu
 ·rw[List.getElem?_append_right hj] at hu;have:=h' _ u hu;rwa [zdj,Nat.add_sub_cancel' hj] at this
theorem zbv.flatten {k:Nat}:∀{vss:List (List Value)} {ad:Addr},(∀(i:Nat) (v:List Value),vss[i]?=some v→v.length=k∧zbv w (ad.add (i*k)) v)→zbv w ad vss.flatten
 | [],_,_=>fun j u hu=>by simp at hu
 | v::vss,ad,h=>by rw[List.flatten_cons];obtain ⟨h1,h2⟩:=h 0 v rfl;refine zbv.append (by simpa [Addr.add] using h2) (zbv.flatten (k:=k) fun i u hu=>?_);obtain ⟨h3,h4⟩:=h (i+1) u hu;refine ⟨h3,?_⟩;rw[zdj,h1,←Nat.add_comm,←Nat.succ_mul];exact h4
theorem AtL.flatten {sent:Nat→List (List Value)} {S:Nat→Prop}:∀{rows:List (List T)} {vss:List (List Value)},rows.length=vss.length→(∀(i:Nat) (r:List T) (v:List Value),rows[i]?=some r→vss[i]?=some v→T.AtL sent w S r v)→T.AtL sent w S rows.flatten vss.flatten
 | [],[],_,_=>by simp[T.AtL]
 | r::rows,v::vss,hl,h=>by rw[List.flatten_cons,List.flatten_cons];exact AtL.append (h 0 r v rfl rfl) (AtL.flatten (by simpa using hl) fun i=>h (i+1))
 | [],_::_,hl,_=>by simp at hl
 | _::_,[],hl,_=>by simp at hl
theorem ziu {α β:Type} {n:Nat} {Q:Nat→α→β→Prop} (h:∀i,i<n→∃a b,Q i a b):∃(l:List α) (m:List β),l.length=n∧m.length=n∧∀(i:Nat) (a:α) (b:β),l[i]?=some a→m[i]?=some b→Q i a b:=by
 induction n with
 | zero=>exact ⟨[],[],rfl,rfl,fun i a b hi=>by simp at hi⟩
 | succ n ih=>
  obtain ⟨l,m,hl,hm,hq⟩:=ih fun i hi=>h i (by omega);obtain ⟨a,b,hab⟩:=h n (by omega);refine ⟨l++[a],m++[b],by simp[hl],by simp[hm],fun i a' b' ha' hb'=>?_⟩;rcases Nat.lt_or_ge i n with h1 | h1
  ·rw[List.getElem?_append_left (by omega)] at ha' hb';exact hq i a' b' ha' hb'
  ·rw[List.getElem?_append_right (by omega)] at ha' hb'
   have hi:i=n:=(by have:=(List.getElem?_eq_some_iff.1 ha').1;simp at this;omega)
   subst hi;rw[hl] at ha';rw[hm] at hb';simp only[Nat.sub_self,List.getElem?_cons_zero,Option.some.injEq] at ha' hb';subst ha';subst hb';exact hab
variable {H:Type} {enc:TypeId × Value→H}
theorem zfd {d:DataW H} {e:TypeId}:∀{l:List (DataW H)},d∈l→∀n∈d.weights P e,n∈DataW.weightsAll P e l
 | [],h,_,_=>by simp at h
 | x::l,h,n,hn=>by
  simp only[DataW.weightsAll,List.mem_append];rcases List.mem_cons.1 h with rfl | h
  ·exact .inl hn
  ·exact .inr (zfd h n hn)
theorem zfe:∀{rows:List (List T)} {ds:List (DataW H)},rows.length=ds.length→(∀(i:Nat) (r:List T) (d:DataW H),rows[i]?=some r→ds[i]?=some d→T.bulkL r≤Rows.uptoBulk d)→T.bulkL rows.flatten≤Rows.uptoBulkAll ds
 | [],[],_,_=>by simp[T.bulkL]
 | r::rows,d::ds,hl,h=>by rw[List.flatten_cons,zcc,Rows.uptoBulkAll];have h1:=h 0 r d rfl rfl;have h2:=zfe (by simpa using hl) fun i=>h (i+1);omega
 | [],_::_,hl,_=>by simp at hl
 | _::_,[],hl,_=>by simp at hl
theorem zlj:∀{fs:List Field} {off n:Nat} {cs:List Value},ydh P off fs=some n→cs.length=n→cs.drop off=(fs.map fun f=>(cs.drop f.offset).take (P.cellsOf f.type)).flatten
 | [],off,n,cs,h,hl=>by simp only[ydh,Option.some.injEq] at h;subst h;rw[←hl];simp
 | f::fs,off,n,cs,h,hl=>by
  simp only[ydh] at h;split at h
  ·rename_i h0
   subst h0;have:=zlj h hl;rw[List.map_cons,List.flatten_cons,←this,←List.drop_drop,List.take_append_drop]
  ·cases h
theorem zu1 {n m:Nat} (h:(n == m)=true):n=m:=by simpa using h
theorem zrr:reachBytes=140737488351232:=rfl
theorem zss {l:List TypeId} (hl:zyk P l=true):∀(fuel:Nat) (t:TypeId) (cs:List Value) (d:DataW H) (ps:List MemPlace),t∈l→DataW.trod enc P w 0 (fun _=>true) true fuel t cs=some (d,ps)→(∀n∈d.weights P t,n≤reachBytes)→
 ∃ts,T.AtL bare w (fun g=>g<w.heap.size) ts cs∧Typed P t ts∧cs.length=P.cellsOf t∧T.bulkL ts≤Rows.uptoBulk d:=by
 intro fuel
 induction fuel with
 | zero=>intro t cs d ps _ h;simp[DataW.trod] at h
 | succ fuel ih=>
  intro t cs d ps hm h hw;have hf:=List.all_eq_true.1 hl t hm
  cases hu:P.underlying t with
  | none=>simp[hu] at hf
  | some u=>
   rw[hu] at hf;cases u <;> try (simp at hf;done)
   case bool=>
    obtain ⟨b,rfl,hx⟩:=DataW.trod_bool hu h;simp only[Prod.mk.injEq] at hx;obtain ⟨rfl,rfl⟩:=hx;exact ⟨[.lit (.bool b)],by simp[T.AtL,T.At],.bool _ hu,(zu1 hf).symm,by simp[T.bulkL,T.bulk,Rows.uptoBulk]⟩
   case int k=>
    obtain ⟨z,rfl,hx,hwf⟩:=DataW.trod_int hu h;simp only[Prod.mk.injEq] at hx;obtain ⟨rfl,rfl⟩:=hx;exact ⟨[.lit (.int k z)],by simp[T.AtL,T.At],.int _ hu hwf,(zu1 hf).symm,by simp[T.bulkL,T.bulk,Rows.uptoBulk]⟩
   case string=>
    obtain ⟨z,rfl,hx,_⟩:=DataW.trod_string hu h;simp only[Prod.mk.injEq] at hx;obtain ⟨rfl,rfl⟩:=hx;refine ⟨[.lit (.string z)],by simp[T.AtL,T.At],.str _ hu ?_,(zu1 hf).symm,by simp[T.bulkL,T.bulk,Rows.uptoBulk]⟩;have:=hw;simp only[DataW.weights,List.mem_singleton,forall_eq] at this;rw[zrr] at this;simpa using this
   case slice e=>
    simp only[Bool.and_eq_true,List.contains_iff_mem,beq_iff_eq,decide_eq_true_eq] at hf;obtain ⟨⟨he,hc1⟩,he0⟩:=hf
    rcases DataW.trod_slice hu h with ⟨rfl,hx⟩ | ⟨a,len,cap,elems,rest,n,hfu,rfl,hx,hb,hlc,hcm,hel,hei,-,-⟩
    ·simp only[Prod.mk.injEq] at hx;obtain ⟨rfl,rfl⟩:=hx;refine ⟨[.arr (P.cellsOf e) 0 []],?_,.slice [] hu (by simp) (by simp) (by simp) (by unfold maxLen;simp),by simp[hc1],by simp[T.bulkL,T.bulk,Rows.uptoBulk]⟩;simp only[T.AtL,T.At,and_true];exact ⟨none,0,[],rfl,by simp[bare],by unfold maxLen;omega,by simp,fun h=>by simp[bare] at h,trivial⟩
    ·obtain rfl:n=fuel:=by omega
     simp only[Prod.mk.injEq] at hx;obtain ⟨rfl,rfl⟩:=hx;simp only[DataW.weights,hu] at hw;have hw0:=hw _ (List.mem_cons_self ..);simp only[List.length_map] at hw0
     have hall:∀i,i<len→∃(r:List T) (v:List Value),T.AtL bare w (fun g=>g<w.heap.size) r v∧Typed P e r∧v.length=P.cellsOf e∧zbv w (a.add (i*P.cellsOf e)) v∧(∀d',(elems.map (·.1))[i]?=some d'→T.bulkL r≤Rows.uptoBulk d'):=by
      intro i hi;have h1:=hei i hi;rw[List.getElem?_eq_getElem (by omega)] at h1;obtain ⟨v,hv,hv2⟩:=Option.bind_eq_some_iff.1 h1;obtain ⟨_,hcl,hat⟩:=World.cells?_some hv
      obtain ⟨r,hr1,hr2,hr3,hr4⟩:=ih e v elems[i].1 elems[i].2 he hv2 (fun m hm'=>hw m (by
       refine List.mem_cons_of_mem _ (List.mem_append_left _ (zfd (d:=elems[i].1) ?_ m hm'))
       exact List.mem_map.2 ⟨_,List.getElem_mem _,rfl⟩))
      refine ⟨r,v,hr1,hr2,hcl,fun j u hu'=>?_,fun d' hd'=>?_⟩
      ·rw[hat j (by have:=(List.getElem?_eq_some_iff.1 hu').1;omega)];exact hu'
      ·rw[List.getElem?_map,List.getElem?_eq_getElem (by omega)] at hd';simp only[Option.map_some,Option.some.injEq] at hd';rw[←hd'];exact hr4
     obtain ⟨rows,vss,hrl,hvl,hq⟩:=ziu hall
     have hget:∀r∈rows,∃(i:Nat) (v:List Value),rows[i]?=some r∧vss[i]?=some v:=(by intro r hr;obtain ⟨i,hi,rfl⟩:=List.getElem_of_mem hr;exact ⟨i,vss[i]'(by omega),List.getElem?_eq_getElem hi,List.getElem?_eq_getElem (by omega)⟩)
     have hcf:zbv w a vss.flatten:=zbv.flatten (k:=P.cellsOf e) fun i v hv=>by have hi:=(List.getElem?_eq_some_iff.1 hv).1;obtain ⟨_,_,h3,h4,_⟩:=hq i (rows[i]'(by omega)) v (List.getElem?_eq_getElem (by omega)) hv;exact ⟨h3,h4⟩
     have hrlen:∀r∈rows,r.length=P.cellsOf e:=fun r hr=>by obtain ⟨i,v,h1,h2⟩:=hget r hr;obtain ⟨q1,_,q3,_⟩:=hq i r v h1 h2;rw[←AtL.length q1,q3]
     have hfl:∀(rr:List (List T)),(∀r∈rr,r.length=P.cellsOf e)→rr.flatten.length=rr.length*P.cellsOf e:=by
      intro rr
      induction rr with
      | nil=>intro _;simp
      | cons x rr ihr=>intro hh;rw[List.flatten_cons,List.length_append,ihr (fun r hr=>hh r (by simp[hr])),hh x (by simp),List.length_cons,Nat.succ_mul];omega
     have hat:T.AtL bare w (fun g=>g<w.heap.size) rows.flatten vss.flatten:=AtL.flatten (by omega) fun i r v h1 h2=>(hq i r v h1 h2).1;refine ⟨[.arr (P.cellsOf e) rows.length rows.flatten],?_,.slice rows hu (fun r hr=>?_) hrlen ?_ (by omega),by simp[hc1],?_⟩
     ·simp only[T.AtL,T.At,and_true];refine ⟨some a,cap,vss.flatten,by rw[hrl],by simp[bare];omega,hcm,hfl rows hrlen,fun hn=>⟨a,rfl,?_,by simpa [bare] using hcf⟩,hat⟩;simp only[bare,List.length_nil,Nat.add_zero] at hn
      have hpos:0<vss.flatten.length:=(by rw[AtL.length hat,hfl rows hrlen];exact Nat.mul_pos hn he0)
      have:=World.block_lt_of_cell? w _ (hcf 0 _ (List.getElem?_eq_getElem hpos));rwa [zab] at this
     ·obtain ⟨i,v,h1,h2⟩:=hget r hr;exact (hq i r v h1 h2).2.1
     ·rw[hrl,←hel,←zrr];exact Nat.le_trans (Nat.mul_le_mul_right _ (Nat.le_add_right _ _)) hw0
     ·have hbf:T.bulkL rows.flatten≤Rows.uptoBulkAll (elems.map (·.1)):=zfe (by simp;omega) fun i r d' h1 h2=>by
       have hi:=(List.getElem?_eq_some_iff.1 h1).1;exact (hq i r _ h1 (List.getElem?_eq_getElem (by omega:i<vss.length))).2.2.2.2 d' h2
      simp only[T.bulkL,T.bulk,Rows.uptoBulk];omega
   case struct fs=>
    simp only[Bool.and_eq_true,List.all_eq_true,List.contains_iff_mem,beq_iff_eq] at hf;obtain ⟨hfm,hlay⟩:=hf;obtain ⟨xs,n,hfu,hx,hcl,hxl,hfi⟩:=DataW.trod_struct hu h;obtain rfl:n=fuel:=by omega
    simp only[Prod.mk.injEq] at hx;obtain ⟨rfl,rfl⟩:=hx;simp only[DataW.weights,hu] at hw
    have hall:∀i,i<fs.size→∃(r:List T) (v:List Value),T.AtL bare w (fun g=>g<w.heap.size) r v∧(∀f,fs[i]?=some f→Typed P f.type r∧v=(cs.drop f.offset).take (P.cellsOf f.type))∧(∀d',(xs.map (·.1))[i]?=some d'→T.bulkL r≤Rows.uptoBulk d'):=by
     intro i hi;have h1:=hfi i fs[i] (Array.getElem?_eq_getElem hi);rw[List.getElem?_eq_getElem (by omega)] at h1
     obtain ⟨r,hr1,hr2,hr3,hr4⟩:=ih _ _ xs[i].1 xs[i].2 (hfm _ (by simp)) h1 (fun m hm'=>hw m (by
      refine DataW.weights_mem_each (j:=i) (t:=fs[i].type) (d:=xs[i].1) ?_ ?_ m hm'
      ·rw[List.getElem?_map];simp[hi]
      ·rw[List.getElem?_map,List.getElem?_eq_getElem (by omega)];rfl))
     refine ⟨r,_,hr1,fun f hf'=>?_,fun d' hd'=>?_⟩
     ·rw[Array.getElem?_eq_getElem hi,Option.some.injEq] at hf';subst hf';exact ⟨hr2,rfl⟩
     ·rw[List.getElem?_map,List.getElem?_eq_getElem (by omega)] at hd';simp only[Option.map_some,Option.some.injEq] at hd';rw[←hd'];exact hr4
    obtain ⟨rows,vss,hrl,hvl,hq⟩:=ziu hall
    have hcs:cs=vss.flatten:=by
     have h1:=zlj hlay hcl;rw[List.drop_zero] at h1;rw[h1];congr 1
     apply List.ext_getElem?;intro i;rcases Nat.lt_or_ge i fs.size with hi | hi
     ·have h2:=(hq i (rows[i]'(by omega)) (vss[i]'(by omega)) (List.getElem?_eq_getElem _) (List.getElem?_eq_getElem _)).2.1 _ (Array.getElem?_eq_getElem hi);rw[List.getElem?_eq_getElem (by omega:i<vss.length),h2.2,List.getElem?_map];simp[hi]
     ·rw[List.getElem?_eq_none (by simpa using hi),List.getElem?_eq_none (by omega)]
    refine ⟨rows.flatten,?_,.struct rows hu hrl fun i f p h1 h2=>?_,hcl,?_⟩
    ·rw[hcs];exact AtL.flatten (by omega) fun i r v h1 h2=>(hq i r v h1 h2).1
    ·have hi:=(List.getElem?_eq_some_iff.1 h2).1;exact ((hq i p _ h2 (List.getElem?_eq_getElem (by omega:i<vss.length))).2.1 f h1).1
    ·have hbf:T.bulkL rows.flatten≤Rows.uptoBulkAll (xs.map (·.1)):=zfe (by simp;omega) fun i r d' h1 h2=>by
      have hi:=(List.getElem?_eq_some_iff.1 h1).1;exact (hq i r _ h1 (List.getElem?_eq_getElem (by omega:i<vss.length))).2.2 d' h2
     simp only[Rows.uptoBulk];omega
theorem zj0 {l:List TypeId} (hl:zyk P l=true) {r:Reach} {b0:Nat} {t:TypeId} {fs:Array Field} {v:Value} {d:DataW H} {ps:List MemPlace} (ht:t∈l) (hs:P.underlying t=some (.struct fs)) (hv:Value.okWide P w r b0 t v)
 (h:DataW.Trod enc P w 0 (fun _=>true) true t v d ps) (hw:∀n∈d.weights P t,n≤reachBytes) :
 ∃ts vs,v = .agg vs.toArray∧T.AtL bare w (fun g=>g<w.heap.size) ts vs∧Typed P t ts∧T.bulkL ts≤Rows.uptoBulk d:=by
 obtain ⟨cs,rfl,hsz⟩:=okWide_struct hs hv;obtain ⟨fuel,hf⟩:=h;obtain ⟨ts,h1,h2,_,h4⟩:=zss hl fuel t _ d ps ht hf hw;exact ⟨ts,cs.toList,rfl,by simpa [Value.cells] using h1,h2,h4⟩
end
end Go.Proofs.YtplkbdncgkgppaaGreatDoor.Tree
end
section
namespace Go.Proofs.YtplkbdncgkgppaaGreatDoor.Qry
open Go.RowKit Go.WideShapes Go.ChangeShapes Words Tree QryP
def zc8 (k:IntKind) (l:List Int):T:=.arr 1 l.length (l.map fun z=>.lit (.int k z))
mutual
def cells:QT→List T
 | .mk kd oc f t u lo hi b op ks=>[.lit (.int .i64 kd),.lit (.int .i64 oc),.lit (.string f),.lit (.string t),.lit (.string u),zc8 .i64 lo,zc8 .i64 hi,.lit (.int .i64 b),.lit (.int .i64 op),.arr 10 ks.length (zaw ks)]
def zaw:List QT→List T
 | []=>[]
 | q::qs=>cells q++zaw qs
end
theorem zdq:∀qs:List QT,zaw qs=qs.flatMap cells
 | []=>by simp[zaw]
 | q::qs=>by rw[zaw,zdq qs,List.flatMap_cons]
theorem cells_len (q:QT):(cells q).length=10:=by cases q;simp[cells]
theorem zga (qs:List QT):(zaw qs).length=qs.length*10:=by rw[zdq];exact zjz cells cells_len qs
def I64 (n:Int):Prop:=-9223372036854775808≤n∧n≤9223372036854775807
inductive Ok:QT→Prop where
 | mk {kd oc:Int} {f t u:ByteArray} {lo hi:List Int} {b op:Int} {ks:List QT} (hkd:I64 kd) (hoc:I64 oc) (hf:f.size≤140737488351232) (ht:t.size≤140737488351232) (hu:u.size≤140737488351232)
    (hlo:lo.length*8≤140737488351232∧∀z∈lo,I64 z) (hhi:hi.length*8≤140737488351232∧∀z∈hi,I64 z) (hb:I64 b) (hop:I64 op) (hks:ks.length*152≤140737488351232) (hk:∀k∈ks,Ok k):Ok (.mk kd oc f t u lo hi b op ks)
section
variable {sent:Nat→List (List Value)} {w:World} {S:Nat→Prop}
theorem zal {kd oc:Int} {f t u:ByteArray} {lo hi:List Int} {b op:Int} {ks:List QT} {vs:List Value} (h:T.AtL sent w S (cells (.mk kd oc f t u lo hi b op ks)) vs) :
 ∃vl vh vk,vs=[.int .i64 kd,.int .i64 oc,.string f,.string t,.string u,vl,vh,.int .i64 b,.int .i64 op,vk]∧T.At sent w S (zc8 .i64 lo) vl∧T.At sent w S (zc8 .i64 hi) vh∧T.At sent w S (.arr 10 ks.length (zaw ks)) vk:=by
 rw[cells] at h;obtain ⟨v0,r,rfl,h0,h⟩:=AtL.cons_ h;obtain ⟨v1,r,rfl,h1,h⟩:=AtL.cons_ h;obtain ⟨v2,r,rfl,h2,h⟩:=AtL.cons_ h;obtain ⟨v3,r,rfl,h3,h⟩:=AtL.cons_ h;obtain ⟨v4,r,rfl,h4,h⟩:=AtL.cons_ h;obtain ⟨v5,r,rfl,h5,h⟩:=AtL.cons_ h;obtain ⟨v6,r,rfl,h6,h⟩:=AtL.cons_ h;obtain ⟨v7,r,rfl,h7,h⟩:=AtL.cons_ h;obtain ⟨v8,r,rfl,h8,h⟩:=AtL.cons_ h;obtain ⟨v9,r,rfl,h9,h⟩:=AtL.cons_ h;obtain rfl:=AtL.nil_ h;simp only[T.At] at h0 h1 h2 h3 h4 h7 h8;subst h0 h1 h2 h3 h4 h7 h8;exact ⟨v5,v6,v9,rfl,h5,h6,h9⟩
theorem zrs {kd oc:Int} {f t u:ByteArray} {lo hi:List Int} {b op:Int} {ks:List QT} {vl vh vk:Value} (h1:T.At sent w S (zc8 .i64 lo) vl) (h2:T.At sent w S (zc8 .i64 hi) vh) (h3:T.At sent w S (.arr 10 ks.length (zaw ks)) vk) :
 T.AtL sent w S (cells (.mk kd oc f t u lo hi b op ks)) [.int .i64 kd,.int .i64 oc,.string f,.string t,.string u,vl,vh,.int .i64 b,.int .i64 op,vk]:=by
 simp only[cells,T.AtL,T.At,true_and,and_true];exact ⟨h1,h2,h3⟩
theorem zau {B:Nat} {k:IntKind} {l:List Int} {v:Value} (h:T.At sent w (fun g=>g<B) (zc8 k l) v):∃A cap,v = .slice A l.length cap∧l.length≤cap∧cap≤maxLen∧Reads w B 1 A l.length (l.map (Value.int k)):=by
 obtain ⟨A,cap,vs,hv,h1,h2,h3,h4⟩:=At.reads h;obtain rfl:=AtL.lits h4;exact ⟨A,cap,hv,h1,h2,h3⟩
theorem zc9 {ks:List QT} {v:Value} (h:T.At sent w S (.arr 10 ks.length (zaw ks)) v) :
 ∃A cap,v = .slice A ks.length cap∧ks.length+(sent 10).length≤cap∧cap≤maxLen∧∀(i:Nat) (hi:i<ks.length),∃ad us,A=some ad∧S ad.block∧T.AtL sent w S (cells ks[i]) us∧us.length=10∧zbv w (ad.add (i*10)) us:=by
 simp only[T.At] at h;obtain ⟨A,cap,vs,hv,hc,hm,hl,ha,hx⟩:=h;refine ⟨A,cap,hv,hc,hm,fun i hi=>?_⟩;obtain ⟨ad,e,hs,hcs⟩:=ha (by omega);rw[zdq] at hx;obtain ⟨us,hul,hus,hj⟩:=AtL.elem cells_len hx i hi;exact ⟨ad,us,e,hs,hus,hul,(hcs.left).elem hj hul⟩
end
section
variable {P:Program}
theorem zrt {r:List T}:∀{rows:List (List T)},r∈rows→T.bulkL r≤T.bulkL rows.flatten
 | [],h=>by simp at h
 | x::rows,h=>by
  rw[List.flatten_cons,zcc];rcases List.mem_cons.1 h with rfl | h
  ·omega
  ·have:=zrt h;omega
theorem zp1 {α:Type} {f:α→List T} {C:α→Prop}:∀{rows:List (List T)},(∀r∈rows,∃a,r=f a∧C a)→∃l:List α,rows=l.map f∧∀a∈l,C a
 | [],_=>⟨[],rfl,by simp⟩
 | r::rows,h=>by obtain ⟨a,rfl,ha⟩:=h r (by simp);obtain ⟨l,rfl,hl⟩:=zp1 (rows:=rows) fun r hr=>h r (List.mem_cons_of_mem _ hr);exact ⟨a::l,rfl,by simpa using ⟨ha,hl⟩⟩
theorem zru {k:IntKind}:∀l:List Int,l.flatMap (fun z=>[T.lit (.int k z)])=l.map fun z=>T.lit (.int k z)
 | []=>rfl
 | z::l=>by rw[List.flatMap_cons,List.map_cons,zru l];rfl
theorem zu2 {t e:TypeId} {k:IntKind} {ts:List T} (h:Typed P t ts) (ht:P.underlying t=some (.slice e)) (he:P.underlying e=some (.int k)) (hc:P.cellsOf e=1) :
 ∃l:List Int,ts=[zc8 k l]∧l.length*P.bytesOf e≤140737488351232∧∀z∈l,(Lit.int k z).wf=true:=by
 obtain ⟨rows,rfl,hr,_,hb,_⟩:=h.slice_inv ht
 obtain ⟨l,rfl,hl⟩:=zp1 (f:=fun z=>[T.lit (.int k z)]) (C:=fun z=>(Lit.int k z).wf=true) (fun r hr'=>by
  obtain ⟨n,h1,h2⟩:=(hr r hr').int_inv he
  exact ⟨n,h1,h2⟩)
 refine ⟨l,?_,by simpa using hb,hl⟩;rw[hc,List.length_map,zc8];congr 2
 rw[←List.flatMap_def];exact zru l
end
def yau:List TypeId:=[28,26,25,2,3,9]
theorem yfh:zyk Tryz.prog yau=true:=by kernel_rfl
theorem i64_of {n:Int} (h:(Lit.int .i64 n).wf=true):I64 n:=Law.ygd h
theorem zrv:∀(n:Nat) (ts:List T),T.bulkL ts≤n→Typed Tryz.prog 28 ts→∃q,ts=cells q∧Ok q
 | n,ts,hn,h=>by
  obtain ⟨parts,rfl,hl,hp⟩:=h.struct_inv Tryz.underlying28
  match parts,hl with
  | [p0,p1,p2,p3,p4,p5,p6,p7,p8,p9],_=>
   obtain ⟨kd,rfl,w0⟩:=(hp 0 _ _ rfl rfl).int_inv Tryz.underlying3;obtain ⟨oc,rfl,w1⟩:=(hp 1 _ _ rfl rfl).int_inv Tryz.underlying3;obtain ⟨f,rfl,w2⟩:=(hp 2 _ _ rfl rfl).str_inv Tryz.underlying9;obtain ⟨t,rfl,w3⟩:=(hp 3 _ _ rfl rfl).str_inv Tryz.underlying9;obtain ⟨u,rfl,w4⟩:=(hp 4 _ _ rfl rfl).str_inv Tryz.underlying9;obtain ⟨lo,rfl,b5,w5⟩:=zu2 (hp 5 _ _ rfl rfl) Tryz.underlying25 Tryz.underlying2 (by kernel_rfl);obtain ⟨hi,rfl,b6,w6⟩:=zu2 (hp 6 _ _ rfl rfl) Tryz.underlying25 Tryz.underlying2 (by kernel_rfl);obtain ⟨b,rfl,w7⟩:=(hp 7 _ _ rfl rfl).int_inv Tryz.underlying2;obtain ⟨op,rfl,w8⟩:=(hp 8 _ _ rfl rfl).int_inv Tryz.underlying3;obtain ⟨rows,rfl,hr,_,hb,_⟩:=(hp 9 _ _ rfl rfl).slice_inv Tryz.underlying26
   have hlt:T.bulkL rows.flatten<n:=(by simp only[List.flatten_cons,List.flatten_nil,zcc,T.bulkL,T.bulk] at hn;omega)
   obtain ⟨ks,rfl,hk⟩:=zp1 (f:=cells) (C:=Ok) (fun r hr'=>zrv (n - 1) r (by have:=zrt hr';omega) (hr r hr'));rw[List.length_map,show Tryz.prog.bytesOf 28=152 from by kernel_rfl] at hb;rw[show Tryz.prog.bytesOf 2=8 from by kernel_rfl] at b5 b6;refine ⟨.mk kd oc f t u lo hi b op ks,?_,.mk (i64_of w0) (i64_of w1) w2 w3 w4 ⟨b5,fun z hz=>i64_of (w5 z hz)⟩ ⟨b6,fun z hz=>i64_of (w6 z hz)⟩ (i64_of w7) (i64_of w8) hb hk⟩;rw[List.length_map,show Tryz.prog.cellsOf 28=10 from by kernel_rfl,cells,zdq,List.flatMap_def];rfl
 termination_by n=>n
 decreasing_by omega
theorem zst {H:Type} {enc:TypeId × Value→H} {w:World} {r:Reach} {b0:Nat} {v:Value} {d:DataW H} {ps:List MemPlace} (hv:Value.okWide Tryz.prog w r b0 28 v)
 (h:DataW.Trod enc Tryz.prog w 0 (fun _=>true) true 28 v d ps) (hw:∀n∈d.weights Tryz.prog 28,n≤reachBytes) :
 ∃q vs,v = .agg vs.toArray∧T.AtL bare w (fun g=>g<w.heap.size) (cells q) vs∧Ok q∧T.bulkL (cells q)≤Rows.uptoBulk d:=by
 obtain ⟨ts,vs,rfl,h1,h2,h3⟩:=zj0 yfh (by simp[yau]) Tryz.underlying28 hv h hw;obtain ⟨q,rfl,hq⟩:=zrv _ ts (Nat.le_refl _) h2;exact ⟨q,vs,rfl,h1,hq,h3⟩
end Go.Proofs.YtplkbdncgkgppaaGreatDoor.Qry
end
section
namespace Go.Proofs.YtplkbdncgkgppaaGreatDoor.Owned
open Go.RowKit Kit Words
theorem zgb {w:World} {B B' n n' m m':Nat} {e e':TypeId} {v v':Value} {xs xs':List Value} (h:w.ownsRow B e m v n xs) (h':w.ownsRow B' e' m' v' n' xs') (hne:e≠e'):v.ownBlock=none∨v.ownBlock≠v'.ownBlock:=by
 rcases h.2 with ⟨rfl,_⟩ | ⟨g,cap,cur,rfl,_,hg,_⟩
 ·exact .inl rfl
 ·right
  rcases h'.2 with ⟨rfl,_⟩ | ⟨g',cap',cur',rfl,_,hg',_⟩
  ·simp[Value.ownBlock]
  ·intro hh;simp only[Value.ownBlock,Option.some.injEq] at hh;subst hh;rw[hg] at hg';injection hg' with hg';injection hg' with _ ht;exact hne ht
theorem zbb {w w':World} {B n m:Nat} {e:TypeId} {v:Value} {xs:List Value} (h:w.ownsRow B e m v n xs) (hb:Below w.heap.size w w'):w'.ownsRow B e m v n xs:=
 h.kept (only_of_below hb none) (by cases hv:v.ownBlock <;> simp)
theorem zav {w:World} {B n:Nat} {e:TypeId} {v:Value} {xs:List Value} (h:w.ownsRow B e 1 v n xs):∃ao cap,v = .slice ao n cap:=by
 rcases h.2 with ⟨rfl,h0⟩ | ⟨g,cap,cur,rfl,_⟩
 ·exact ⟨none,0,by rw[h0]⟩
 ·exact ⟨_,_,rfl⟩
theorem zjh {w:World} {B n:Nat} {e:TypeId} {ao:Option Addr} {cap:Nat} {xs:List Value} (h:w.ownsRow B e 1 (.slice ao n cap) n xs) {i:Nat} (hi:i<n):∃g,ao=some ⟨g,0,none⟩∧B≤g∧g<w.heap.size∧∀j u,xs[j]?=some u→w.cell? ⟨g,j,none⟩=some u:=by
 rcases h.2 with ⟨hv,h0⟩ | ⟨g,cap',cur,hv,hb,hg,_⟩
 ·omega
 ·injection hv with ha _ _;refine ⟨g,ha,hb,(Array.getElem?_eq_some_iff.1 hg).1,fun j u hu=>?_⟩;have:=h.cells (g:=g) (by rw[ha];rfl) j u hu;have hadd:(⟨g,0,none⟩:Addr).add j=⟨g,j,none⟩:=by unfold Addr.add;split <;> simp_all
  rwa [hadd] at this
theorem zgr {w w':World} {B n m:Nat} {e:TypeId} {v:Value} {xs:List Value} {row:Option Nat} (h:w.ownsRow B e m v n xs) (hg:w.grownBy w' row) (hr:∀r,row=some r→∃o:Obj,w.heap[r]?=some o∧(∀c t fz,o≠.cells c t fz)):w'.ownsRow B e m v n xs:=by
 refine h.kept hg ?_
 rcases h.2 with ⟨rfl,_⟩ | ⟨g,cap,cur,rfl,_,hh,_⟩
 ·exact .inl rfl
 ·refine .inr (fun e=>?_);obtain ⟨o,ho,hc⟩:=hr g e.symm;rw[hh] at ho;exact hc _ _ _ (Option.some.inj ho).symm
theorem zgy {w:World} {B n m:Nat} {e:TypeId} {v:Value} {xs:List Value} (h:w.ownsRow B e m v n xs) {a:Addr} (ha:a.block<B) (u:Value):(w.setCell a u).ownsRow B e m v n xs:=ownsRow_setCell_below h ha u
theorem zb6 {w:World} {B n m:Nat} {e:TypeId} {v:Value} {xs:List Value} (h:w.ownsRow B e m v n xs) {a:Addr} (ha:v.ownBlock≠some a.block) (u:Value):(w.setCell a u).ownsRow B e m v n xs:=by
 refine h.kept (row:=some a.block) ⟨rfl,rfl,rfl,by simp[World.setCell],fun k _ hk=>Below.heap_setCell _ _ _ _ (fun e=>hk (by rw[e]))⟩ (.inr ha)
end Go.Proofs.YtplkbdncgkgppaaGreatDoor.Owned
end
section
namespace OrdP
open Go.Lib Go
def digB (b:UInt8):Bool:=decide (48≤b.toNat∧b.toNat≤57)
def yge (acc:Nat):List UInt8→Nat
 | []=>acc
 | c::r=>yge (acc*10+(c.toNat - 48)) r
def val (l:List UInt8):Nat:=yge 0 l
def ygm (n:Nat):List UInt8:=List.replicate n 48
def fin (below:Bool) (ds:List UInt8):Option Int:=
 if below then (if val ds≤9223372036854775808 then some (-(val ds:Int)) else none) else if val ds<9223372036854775808 then some (val ds:Int) else none
def below (l:List UInt8):Bool:=decide (l.head?=some 45)
def size (l:List UInt8):List UInt8:=if below l then l.drop 1 else l
end OrdP
end
section
namespace OrdP
open Go.Lib Go
def wide (u scale:Nat):Nat:=max (scale+1) (nDigits u)
end OrdP
end
section
namespace Go.Proofs.YtplkbdncgkgppaaGreatDoor.OrdRef
open Go.RowKit Go.Lib OrdP Kit Words Owned
end Go.Proofs.YtplkbdncgkgppaaGreatDoor.OrdRef
end
