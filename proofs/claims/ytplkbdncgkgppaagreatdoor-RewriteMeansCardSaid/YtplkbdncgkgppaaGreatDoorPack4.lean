/- Lemmas that the last text leans on. -/
import Derived.Test.YtplkbdncgkgppaaGreatDoorPack3
import Derived.Test.YtplkbdncgkgppaaGreatDoorPack2
set_option linter.all false
section
namespace SchP
open AnaP
structure FT where
 name:ByteArray
 kind:Int
 chain:List Int
 scale:Int
 dims:Int
 many:Bool
 stored:Bool
structure ET where
 field:ByteArray
 text:ByteArray
 nums:List Int
def yf6 (f:FT):Bool:=if f.kind=1 then zer f.chain else if f.kind=2∨f.kind=3 then true else if f.kind=4 then decide (0≤f.scale∧f.scale≤9) else if f.kind=5 then decide (1≤f.dims∧f.dims≤4) else false
def mayB (f:FT):Bool:=zb4 f.name && (decide (f.kind=1) || decide (f.chain.length=0)) && (decide (f.kind=4) || decide (f.scale=0)) && (decide (f.kind=5) || decide (f.dims=0)) && yf6 f
def zcz:List FT→ByteArray→Option Nat
 | [],_=>none
 | f::l,s=>if f.name=s then some 0 else (zcz l s).map (· + 1)
def zi1 (l:List FT) (s:ByteArray):Int:=match zcz l s with
 | some i=>i
 | none=>-1
theorem zcq:∀{l:List FT} {s:ByteArray} {i:Nat},zcz l s=some i→∃h:i<l.length,l[i].name=s∧∀(k:Nat) (hk:k<i),(l[k]'(by omega)).name≠s
 | [],s,i,h=>by cases h
 | f::l,s,i,h=>by
  unfold zcz at h;split at h
  ·rename_i hf
   cases h;exact ⟨by simp,hf,fun k hk=>by omega⟩
  ·rename_i hf
   cases hl:zcz l s with
   | none=>rw[hl] at h;cases h
   | some j=>
    rw[hl] at h;cases h;obtain ⟨h1,h2,h3⟩:=zcq hl;refine ⟨by simp;omega,by simpa using h2,fun k hk=>?_⟩
    cases k with
    | zero=>simpa using hf
    | succ k=>
     have:=h3 k (Nat.lt_of_succ_lt_succ hk);simpa using this
theorem zi2:∀{l:List FT} {s:ByteArray},zcz l s=none→∀f∈l,f.name≠s
 | [],s,_,f,hf=>by cases hf
 | g::l,s,h,f,hf=>by
  unfold zcz at h;split at h
  ·cases h
  ·rename_i hg
   rw[Option.map_eq_none_iff] at h;rcases List.mem_cons.1 hf with rfl | hf
   ·exact hg
   ·exact zi2 h f hf
theorem yas {l:List FT} {s:ByteArray} {i:Nat} (h:i<l.length) (hs:l[i].name=s) (hk:∀(k:Nat) (hki:k<i),(l[k]'(by omega)).name≠s):zcz l s=some i:=by
 cases hf:zcz l s with
 | none=>exact absurd hs (zi2 hf _ (List.getElem_mem h))
 | some j=>
  obtain ⟨h1,h2,h3⟩:=zcq hf;rcases Nat.lt_trichotomy i j with h4 | rfl | h4
  ·exact absurd hs (h3 i h4)
  ·rfl
  ·exact absurd h2 (hk j h4)
def zjl (l:List FT) (i:Nat):Bool:=match l[i]? with
 | none=>true
 | some f=>(l.take i).all fun g=>decide (g.name≠f.name)
theorem zui {l:List FT} {i:Nat} (h:i<l.length):zjl l i=true↔∀(k:Nat) (hk:k<i),(l[k]'(by omega)).name≠l[i].name:=by
 unfold zjl;rw[List.getElem?_eq_getElem h];simp only[List.all_eq_true,decide_eq_true_eq];constructor
 ·intro ha k hk;exact ha _ (List.mem_take_iff_getElem.2 ⟨k,by omega,rfl⟩)
 ·intro ha g hg;obtain ⟨k,hk,rfl⟩:=List.mem_take_iff_getElem.1 hg;exact ha k (by omega)
theorem zuj {l:List FT} {i:Nat} (h:i<l.length):zjl l i=decide (zcz l l[i].name=some i):=by
 rw[Bool.eq_iff_iff,zui h,decide_eq_true_iff];exact ⟨fun hk=>yas h rfl hk,fun hf=>by obtain ⟨_,_,h3⟩:=zcq hf;exact h3⟩
def yf7 (l:List FT) (i:Nat):Bool:=match l[i]? with
 | none=>true
 | some f=>zjl l i && mayB f
theorem zws {l:List FT} {i:Nat} (h:i<l.length):yf7 l i=(zjl l i && mayB l[i]):=by unfold yf7;rw[List.getElem?_eq_getElem h]
def yak (l:List FT) (k:Nat):Bool:=(List.range k).all (yf7 l)
theorem zwt (l:List FT):yak l 0=true:=rfl
theorem zwu (l:List FT) (k:Nat):yak l (k+1)=(yak l k && yf7 l k):=by simp[yak,List.range_succ]
theorem yd0 {l:List FT} {k n:Nat} (h:yf7 l k=false) (hk:k<n):yak l n=false:=by
 rw[yak,List.all_eq_false];exact ⟨k,List.mem_range.2 hk,by simp[h]⟩
def zh6 (l:List FT):Bool:=decide (1≤l.length) && decide (l.length≤16) && yak l l.length
def yf8 (b:Bool):Int:=if b then 0 else 80
def keepB (l:List FT) (e:ET):Bool:=match zcz l e.field with
 | none=>false
 | some i=>match l[i]? with
  | none=>false
  | some f=>f.stored
end SchP
end
section
namespace QckP
open SchP QryP AnaP
structure SortT where
 field:ByteArray
 down:Bool
 first:Bool
structure KeyT where
 kind:Int
 num:Int
 text:ByteArray
inductive AggT where
 | mk (name:ByteArray) (kind:Int) (field:ByteArray) (size:Int) (bounds:List Int) (step:Int) (kids:List AggT)
structure ReqT where
 query:QT
 sort:List SortT
 after:List (List KeyT × Int)
 size:Int
 collapse:ByteArray
 aggs:List AggT
 fields:List ByteArray
def zbc (l:List FT) (s:ByteArray):Option FT:=(zcz l s).bind fun i=>l[i]?
def yat (f:FT):Bool:=decide (f.kind=3) || decide (f.kind=4)
def yd1 (q:QT) (f:FT):Bool:=
 if kd q=3∨kd q=5∨kd q=6 then decide (f.kind=1) || decide (f.kind=2)
 else if kd q=4 then decide (f.kind=1)
 else if kd q=7 then (yat f && decide ((lo q).length=1)) || (decide (f.kind=5) && decide (((lo q).length:Int)=f.dims))
 else if kd q=10 then yat f else false
def zo0 (q:QT) (f:FT):Int:=if yd1 q f then (if f.kind=1∧(kd q=3∨kd q=4) then (if (zf6 f.chain (tx q)).2=0 then 0 else 181) else 0) else 82
def yda (l:List FT) (q:QT):Int:=if (fd q).size=0 then 0 else match zbc l (fd q) with
 | none=>81
 | some f=>zo0 q f
def orE (a b:Int):Int:=if a=0 then b else a
def yau (l:List FT) (q:QT) (under:Int) (above:Nat):Int:=
 if 6≤above then 182 else if 32<(kids q).length then 84 else if zf2 q under then yda l q else 181
mutual
def zhm (l:List FT) (under:Int) (above:Nat):QT→Int
 | .mk k o f t u lo hi b p ks=>orE (yau l (.mk k o f t u lo hi b p ks) under above) (zf3 l k (above+1) ks)
def zf3 (l:List FT) (under:Int) (above:Nat):List QT→Int
 | []=>0
 | q::qs=>orE (zhm l under above q) (zf3 l under above qs)
end
def ydb (f:Nat→Int) (i:Nat):Nat→Int
 | 0=>0
 | n+1=>orE (f i) (ydb f (i+1) n)
def yie (l:List FT) (k:SortT) (before:List SortT):Int:=
 orE (if k.field.size=0∨k.field=⟨#[35]⟩ then 0 else match zbc l k.field with
  | none=>81
  | some f=>if f.kind=1∨f.kind=5 then 183 else 0) (if before.any fun b=>decide (b.field=k.field) then 183 else 0)
def yif (l:List FT) (ks:List SortT):Int:=if 4<ks.length then 183 else ydb (fun i=>match ks[i]? with
 | none=>0
 | some k=>yie l k (ks.take i)) 0 ks.length
def yig (l:List FT) (s:ByteArray):Int:=if s.size=0 then 0 else match zbc l s with
 | none=>81
 | some f=>if f.kind=2 then 0 else 82
def yf9 (k:KeyT):Bool:=(decide (k.kind=0) && decide (k.num=0) && decide (k.text.size=0)) || (decide (k.kind=1) && decide (k.text.size=0)) || (decide (k.kind=2) && decide (k.num=0))
def yih (size:Int) (n:Nat) (after:List (List KeyT × Int)):Int:=
 if size<0∨1000<size∨1<after.length then 185 else match after with
 | []=>0
 | c::_=>if c.1.length=max 1 n∧c.1.all yf9 then 0 else 185
def upB:List Int→Bool
 | a::b::l=>decide (a<b) && upB (b::l)
 | _=>true
def yd2:AggT→ByteArray | .mk n _ _ _ _ _ _=>n
def zl7:AggT→Int | .mk _ k _ _ _ _ _=>k
def ydc:AggT→ByteArray | .mk _ _ f _ _ _ _=>f
def yd3:AggT→Int | .mk _ _ _ s _ _ _=>s
def znj:AggT→List Int | .mk _ _ _ _ b _ _=>b
def yga:AggT→Int | .mk _ _ _ _ _ s _=>s
def kids_:AggT→List AggT | .mk _ _ _ _ _ _ k=>k
def yd4 (g:AggT) (before:List AggT):Bool:=zb4 (yd2 g) && !(before.any fun b=>decide (yd2 b=yd2 g)) && decide (1≤zl7 g) && decide (zl7 g≤8) && (decide (zl7 g≠4) || decide ((ydc g).size=0))
def yav (l:List FT) (g:AggT):Int:=if zl7 g=4 then 0 else match zbc l (ydc g) with
 | none=>81
 | some f=>if (if zl7 g=1 then decide (f.kind=2) else if zl7 g=8 then yat f || decide (f.kind=2) else yat f) then 0 else 82
def yd5 (g:AggT):Bool:=
 (if zl7 g=1 then decide (1≤yd3 g) && decide (yd3 g≤1000) else decide (yd3 g=0)) &&
 (if zl7 g=2 then decide (2≤(znj g).length) && decide ((znj g).length≤1000) && upB (znj g) else decide ((znj g).length=0)) &&
 (if zl7 g=3 then decide (1≤yga g) else decide (yga g=0)) && (decide (zl7 g≤3) || decide ((kids_ g).length=0))
def yjl (l:List FT) (g:AggT) (before:List AggT):Int:=if yd4 g before then orE (yav l g) (if yd5 g then 0 else 184) else 184
mutual
def yjm (l:List FT) (above:Nat) (before:List AggT):AggT→Int
 | .mk n k f s b t ks=>if 8≤before.length∨3≤above then 184 else orE (yjl l (.mk n k f s b t ks) before) (yd6 l (above+1) [] ks)
def yd6 (l:List FT) (above:Nat) (before:List AggT):List AggT→Int
 | []=>0
 | g::gs=>orE (yjm l above before g) (yd6 l above (before++[g]) gs)
end
def zwv (l:List FT):List ByteArray→Int
 | []=>0
 | s::ss=>orE (match zbc l s with
  | none=>81
  | some f=>if f.stored then 0 else 82) (zwv l ss)
def zgd (l:List FT) (r:ReqT):Int:=orE (yf8 (zh6 l)) (orE (zhm l 0 0 r.query) (orE (yif l r.sort) (orE (yig l r.collapse) (orE (yih r.size r.sort.length r.after) (orE (yd6 l 0 [] r.aggs) (zwv l r.fields))))))
end QckP
end
section
namespace RewP
open SchP QryP AnaP QckP
def zdv:QT:=.mk 2 0 ⟨#[]⟩ ⟨#[]⟩ ⟨#[]⟩ [] [] 0 0 []
def withO (o:Int):QT→QT | .mk k _ f t u l h b p ks=>.mk k o f t u l h b p ks
def withK (k:Int):QT→QT | .mk _ o f t u l h b p ks=>.mk k o f t u l h b p ks
def withB (b:Int):QT→QT | .mk k o f t u l h _ p ks=>.mk k o f t u l h b p ks
def withT:QT→QT | .mk _ o f t _ l h b p ks=>.mk 3 o f t ⟨#[]⟩ l h b p ks
def withKids (ks:List QT):QT→QT | .mk k o f t u l h b p _=>.mk k o f t u l h b p ks
def gtL:List UInt8→List UInt8→Bool
 | [],_=>false
 | _::_,[]=>true
 | a::l,b::r=>if b<a then true else if a<b then false else gtL l r
mutual
def zjx:QT→QT→Bool
 | .mk k o f t u l h b p ks,.mk k' o' f' t' u' l' h' b' p' ks'=>decide (k=k') && decide (o=o') && decide (f=f') && decide (t=t') && decide (u=u') && decide (l=l') && decide (h=h') && decide (b=b') && decide (p=p') && zrf ks ks'
def zrf:List QT→List QT→Bool
 | [],[]=>true
 | a::l,b::r=>zjx a b && zrf l r
 | [],_::_=>false
 | _::_,[]=>false
end
mutual
theorem zkl:∀a b:QT,zjx a b=true↔a=b
 | .mk k o f t u l h b p ks,.mk k' o' f' t' u' l' h' b' p' ks'=>by rw[zjx];simp only[Bool.and_eq_true,decide_eq_true_eq,zo2 ks ks',QT.mk.injEq,and_assoc]
theorem zo2:∀a b:List QT,zrf a b=true↔a=b
 | [],[]=>by rw[zrf];simp
 | a::l,b::r=>by rw[zrf];simp only[Bool.and_eq_true,zkl a b,zo2 l r,List.cons.injEq]
 | [],_::_=>by rw[zrf];simp
 | _::_,[]=>by rw[zrf];simp
end
mutual
def zww:QT→Nat
 | .mk _ _ _ _ _ _ _ _ _ ks=>zal ks+1
def zal:List QT→Nat
 | []=>0
 | q::qs=>zww q+zal qs
end
theorem znk (q:QT):zww q=zal (kids q)+1:=by cases q;rw[zww];rfl
theorem zfk:∀a b:List QT,zal (a++b)=zal a+zal b
 | [],b=>by rw[List.nil_append,zal,Nat.zero_add]
 | q::a,b=>by rw[List.cons_append,zal,zal,zfk a b,Nat.add_assoc]
def zl3 (l:List QT) (os:List Int):Bool:=l.any fun k=>os.contains (oc k)
def zb7 (k:QT):QT:=if oc k=1 then withO 4 k else k
def zc0 (l:List QT):List QT:=if zl3 (l.map zb7) [4] then (l.map zb7).filter fun k=>decide (oc k≠2) else l.map zb7
def opens (n:Nat) (k:QT):Bool:=decide (oc k=4) && decide (kd k=8) && decide (n - 1+(kids k).length≤32) && !(kids k).any fun x=>decide (oc x=2)
def zbt (n:Nat):List QT→Option (List QT)
 | []=>none
 | k::l=>if opens n k then some (kids k++l) else (zbt n l).map (k :: ·)
def zcf (out:List QT):List QT→List QT
 | []=>out
 | k::l=>if (oc k=4∨oc k=3)∧out.any (fun x=>zjx x k)=true then zcf out l else zcf (out++[k]) l
def zac (k:QT):Bool:=decide (oc k=1) || decide (oc k=4)
def zhn (k:QT):Bool:=decide (oc k=4) && decide (kd k=1)
def zjm (l:List QT):Option (List QT):=if l.any zhn=true∧2≤(l.filter zac).length then some (l.eraseP zhn) else none
def zda (l:List QT):List QT × Bool:=
 let a:=(zbt l.length l).getD l;let b:=zcf [] a
 ((zjm b).getD b,(zbt l.length l).isSome || decide (b.length<a.length) || (zjm b).isSome)
def zcv:Nat→List QT→List QT
 | 0,l=>l
 | n+1,l=>if (zda l).2 then zcv n (zda l).1 else (zda l).1
def zs3 (s:Bool) (q:QT) (l:List QT):QT:=if l.length=1∧(∀k∈l,oc k≠4∨s=false) then l.headD zdv else withKids l q
def zi3 (scored:Bool) (q:QT):QT:=
 if (kids q).any (fun k=>(zac k && decide (kd k=2)) || (decide (oc k=3) && decide (kd k=1))) then zdv else
  let l1:=(kids q).filter fun k=>decide (kd k≠2);let l2:=if scored then l1 else zc0 l1
  let l3:=zcv (zal l2+1) l2;if zl3 l3 [1,4,2] then zs3 scored q l3 else zdv
def zg8:List Int→List Int→Bool
 | a::l,b::r=>decide (b<a) || zg8 l r
 | _,_=>false
def zrg (l:List FT) (s:ByteArray):Int:=match zbc l s with
 | none=>0
 | some f=>f.kind
def zho (l:List FT) (scored:Bool) (q:QT):QT:=
 if kd q=3∨kd q=4 then (match zbc l (fd q) with
  | none=>q
  | some f=>if f.kind=1 then (if (zf6 f.chain (tx q)).1.length=0 then zdv else if (zf6 f.chain (tx q)).1.length=1 then withK 3 q else withK 4 q) else q)
 else if kd q=6 then (if gtL (tx q).data.toList (up q).data.toList then zdv else if tx q=up q∧zrg l (fd q)=2 then withT q else q)
 else if kd q=7 then (if zg8 (lo q) (hi q) then zdv else q)
 else if kd q=9∨kd q=10 then (match kids q with
  | []=>q
  | k::_=>if kd k=2∨scored=false∨(kd q=9∧bo q=1) then k else if kd q=9∧kd k=9∧bo q*bo k≤1048576 then withB (bo k*bo q) k else q)
 else if kd q=8 then zi3 scored q else q
mutual
def ze0 (l:List FT) (scored:Bool):QT→QT
 | .mk k o f t u lo hi b p ks=>withO o (zho l scored (.mk k o f t u lo hi b p (zb8 l scored ks)))
def zb8 (l:List FT) (scored:Bool):List QT→List QT
 | []=>[]
 | q::qs=>ze0 l (scored && decide (oc q≠4) && decide (oc q≠3)) q::zb8 l scored qs
end
theorem zkm:∀{n:Nat} {l m:List QT},zbt n l=some m→zal m<zal l
 | _,[],_,h=>by rw[zbt] at h;cases h
 | n,k::l,m,h=>by
  rw[zbt] at h;split at h
  ·injection h with h;subst h;rw[zfk,zal,znk];omega
  ·cases ho:zbt n l with
   | none=>rw[ho] at h;cases h
   | some x=>
    rw[ho] at h;injection h with h;subst h;have:=zkm ho;show zal (k::x)<zal (k::l);rw[zal,zal];omega
theorem zhp:∀(l out:List QT),zal (zcf out l)≤zal out+zal l∧((zcf out l).length<out.length+l.length→zal (zcf out l)<zal out+zal l)
 | [],out=>by rw[zcf,zal];exact ⟨by omega,fun h=>by simp at h⟩
 | k::l,out=>by
  rw[zcf];have hk:1≤zww k:=by rw[znk];omega
  split
  ·have:=zhp l out;rw[zal];exact ⟨by omega,fun _=>by omega⟩
  ·have:=zhp l (out++[k]);rw[zfk] at this;simp only[zal,Nat.add_zero,List.length_append,List.length_cons,List.length_nil] at this ⊢;exact ⟨by omega,fun h=>by have:=this.2 (by omega);omega⟩
theorem zjn {p:QT→Bool}:∀{l:List QT},l.any p=true→zal (l.eraseP p)<zal l
 | [],h=>by cases h
 | k::l,h=>by
  have hk:1≤zww k:=by rw[znk];omega
  rw[List.eraseP_cons]
  cases hp:p k with
  | true=>simp only[cond_true];rw[zal];omega
  | false=>
   rw[List.any_cons,hp,Bool.false_or] at h;have:=zjn h;simp only[cond_false];rw[zal,zal];omega
theorem zge (l:List QT):zal (zda l).1≤zal l∧((zda l).2=true→zal (zda l).1<zal l):=by
 unfold zda;dsimp only
 obtain ⟨a,ha⟩:∃a,(zbt l.length l).getD l=a:=⟨_,rfl⟩
 have h1:zal a≤zal l∧((zbt l.length l).isSome=true→zal a<zal l):=by
  cases ho:zbt l.length l with
  | none=>rw[ho] at ha;obtain rfl:l=a:=ha;exact ⟨Nat.le_refl _,fun h=>by cases h⟩
  | some x=>rw[ho] at ha;obtain rfl:x=a:=ha;have:=zkm ho;exact ⟨by omega,fun _=>this⟩
 rw[ha];have h2:=zhp a [];simp only[zal,Nat.zero_add,List.length_nil] at h2;generalize zcf [] a=b at *
 have h3:zal ((zjm b).getD b)≤zal b∧((zjm b).isSome=true→zal ((zjm b).getD b)<zal b):=by
  unfold zjm;split
  ·rename_i h
   have:=zjn h.1;exact ⟨by show zal (b.eraseP zhn)≤_;omega,fun _=>this⟩
  ·exact ⟨Nat.le_refl _,fun h=>by cases h⟩
 refine ⟨by omega,fun h=>?_⟩;simp only[Bool.or_eq_true,decide_eq_true_eq] at h;rcases h with (h | h) | h
 ·have:=h1.2 h;omega
 ·have:=h2.2 h;omega
 ·have:=h3.2 h;omega
theorem zmo:∀(n m:Nat) (l:List QT),zal l<n→n≤m→zcv m l=zcv n l
 | 0,_,_,h,_=>by omega
 | n+1,0,_,_,h=>by omega
 | n+1,m+1,l,h,hm=>by
  rw[zcv,zcv];split
  ·rename_i hc
   have:=(zge l).2 hc;exact zmo n m _ (by omega) (by omega)
  ·rfl
end RewP
end
section
namespace RewP
open SchP QryP AnaP QckP
def zd4 (n:Int):Int:=if 9223372036854775807<n then 9223372036854775807 else if n < -9223372036854775808 then -9223372036854775808 else n
theorem zkn (n a b:Int) (hb:0≤b):zd4 (zd4 (n*a)*b)=zd4 (n*(a*b)):=by
 have e:n*(a*b)=n*a*b:=by rw[Int.mul_assoc]
 rw[e];generalize n*a=m;by_cases hb0:b=0
 ·subst hb0;simp[zd4]
 have hb1:1≤b:=by omega
 unfold zd4;by_cases h1:9223372036854775807<m
 ·rw[if_pos h1]
  have h2:9223372036854775807<m*b:=(by have:m*1≤m*b:=Int.mul_le_mul_of_nonneg_left hb1 (by omega);omega)
  rw[if_pos h2];by_cases h3:b=1
  ·subst h3;decide
  ·have:(9223372036854775807:Int)*2≤9223372036854775807*b:=Int.mul_le_mul_of_nonneg_left (by omega) (by decide);rw[if_pos (by omega)]
 ·rw[if_neg h1];by_cases h2:m < -9223372036854775808
  ·rw[if_pos h2];have h3:m*b≤m*1:=Int.mul_le_mul_of_nonpos_left (by omega) hb1;have h4:(-9223372036854775808:Int)*b≤-9223372036854775808*1:=Int.mul_le_mul_of_nonpos_left (by decide) hb1;rw[if_neg (show ¬9223372036854775807<m*b by omega),if_pos (show m*b < -9223372036854775808 by omega),if_neg (show ¬(9223372036854775807:Int) < -9223372036854775808*b by omega)];by_cases h5:b=1
   ·subst h5;decide
   ·have:(-9223372036854775808:Int)*b≤-9223372036854775808*2:=Int.mul_le_mul_of_nonpos_left (by decide) (by omega);rw[if_pos (by omega)]
  ·rw[if_neg h2]
theorem zuk (n a b:Int) (_:0≤a) (hb:0≤b):zd4 (zd4 (n*a)*b)=zd4 (n*(a*b)):=zkn n a b hb
theorem zrh {n:Int} (h1 : -9223372036854775808≤n) (h2:n≤9223372036854775807):zd4 n=n:=by
 unfold zd4;rw[if_neg (by omega),if_neg (by omega)]
theorem zef (n:Int) : -9223372036854775808≤zd4 n∧zd4 n≤9223372036854775807:=by
 unfold zd4;split
 ·omega
 ·split <;> omega
section
variable (leaf:QT→Bool × Int) (wv:QT→Int→Int)
mutual
def zae:QT→Bool × Int
 | .mk k o f t u l h b p ks=>
  if k=1 then (true,65536) else if k=2 then (false,0)
  else if k=9 then ((zg9 ks).1,zd4 ((zg9 ks).2*b))
  else if k=10 then ((zg9 ks).1,wv (.mk k 0 f t u l h b p []) (zg9 ks).2)
  else if k=8 then (okM ks,scM 0 ks)
  else leaf (.mk k 0 f t u l h b p [])
def zg9:List QT→Bool × Int
 | []=>(false,0)
 | q::_=>zae q
def okM (ks:List QT):Bool:=zds ks && zdt ks && (ks.any zac || ze3 ks)
def zds:List QT→Bool
 | []=>true
 | q::qs=>(!zac q || (zae q).1) && zds qs
def zdt:List QT→Bool
 | []=>true
 | q::qs=>(decide (oc q≠3) || !(zae q).1) && zdt qs
def ze3:List QT→Bool
 | []=>false
 | q::qs=>(!zac q && decide (oc q≠3) && (zae q).1) || ze3 qs
def scM (s:Int):List QT→Int
 | []=>s
 | q::qs=>scM (if (zae q).1 && (decide (oc q=1) || decide (oc q=2)) then zd4 (s+(zae q).2) else s) qs
end
theorem zjo (o:Int) (q:QT):zae leaf wv (withO o q)=zae leaf wv q:=by
 cases q;rw[withO,zae,zae]
theorem zcl (q:QT) (h:kd q=2):zae leaf wv q=(false,0):=by
 cases q with
 | mk k o f t u l h b p ks=>
  obtain rfl:k=2:=h;rw[zae];rfl
theorem zgw (q:QT) (h:kd q=1):zae leaf wv q=(true,65536):=by
 cases q with
 | mk k o f t u l h b p ks=>
  obtain rfl:k=1:=h;rw[zae];rfl
theorem zde (q:QT) (h:kd q=8):zae leaf wv q=(okM leaf wv (kids q),scM leaf wv 0 (kids q)):=by
 cases q with
 | mk k o f t u l h b p ks=>
  obtain rfl:k=8:=h;rw[zae];rfl
theorem zcm:∀a b:List QT,zds leaf wv (a++b)=(zds leaf wv a && zds leaf wv b)
 | [],b=>by rw[List.nil_append,zds,Bool.true_and]
 | q::a,b=>by rw[List.cons_append,zds,zds,zcm a b,Bool.and_assoc]
theorem zcn:∀a b:List QT,zdt leaf wv (a++b)=(zdt leaf wv a && zdt leaf wv b)
 | [],b=>by rw[List.nil_append,zdt,Bool.true_and]
 | q::a,b=>by rw[List.cons_append,zdt,zdt,zcn a b,Bool.and_assoc]
theorem zfl:∀a b:List QT,ze3 leaf wv (a++b)=(ze3 leaf wv a || ze3 leaf wv b)
 | [],b=>by rw[List.nil_append,ze3,Bool.false_or]
 | q::a,b=>by rw[List.cons_append,ze3,ze3,zfl a b,Bool.or_assoc]
theorem zdf:∀(a b:List QT) (s:Int),scM leaf wv s (a++b)=scM leaf wv (scM leaf wv s a) b
 | [],b,s=>by rw[List.nil_append,scM]
 | q::a,b,s=>by rw[List.cons_append,scM,scM,zdf a b]
def zd5 (a b:List QT):Prop:=(zds leaf wv a && zdt leaf wv a)=(zds leaf wv b && zdt leaf wv b)∧(a.any zac || ze3 leaf wv a)=(b.any zac || ze3 leaf wv b)∧∀s,scM leaf wv s a=scM leaf wv s b
theorem zd5.ok {a b:List QT} (h:zd5 leaf wv a b):okM leaf wv a=okM leaf wv b:=by
 rw[okM,okM,h.1,h.2.1]
theorem zd5.refl (a:List QT):zd5 leaf wv a a:=⟨rfl,rfl,fun _=>rfl⟩
theorem zd5.trans {a b c:List QT} (h:zd5 leaf wv a b) (g:zd5 leaf wv b c):zd5 leaf wv a c:=⟨h.1.trans g.1,h.2.1.trans g.2.1,fun s=>(h.2.2 s).trans (g.2.2 s)⟩
theorem zo3:∀(l:List QT),(∀k∈l,kd k=2→zac k=false)→
 zds leaf wv (l.filter fun k=>decide (kd k≠2))=zds leaf wv l∧zdt leaf wv (l.filter fun k=>decide (kd k≠2))=zdt leaf wv l∧(l.filter fun k=>decide (kd k≠2)).any zac=l.any zac∧
  ze3 leaf wv (l.filter fun k=>decide (kd k≠2))=ze3 leaf wv l∧∀s,scM leaf wv s (l.filter fun k=>decide (kd k≠2))=scM leaf wv s l
 | [],_=>⟨rfl,rfl,rfl,rfl,fun _=>rfl⟩
 | k::l,h=>by
  obtain ⟨i1,i2,i3,i4,i5⟩:=zo3 l (fun x hx=>h x (List.mem_cons_of_mem _ hx));by_cases hk:kd k=2
  ·have hn:=h k (by simp) hk;have hm:=zcl leaf wv k hk;rw[List.filter_cons_of_neg (by simp[hk])];refine ⟨?_,?_,?_,?_,fun s=>?_⟩
   ·rw[zds,hn,i1];rfl
   ·rw[zdt,hm,i2];simp
   ·rw[List.any_cons,hn,i3];rfl
   ·rw[ze3,hm,i4];simp
   ·rw[scM,hm,i5];rfl
  ·rw[List.filter_cons_of_pos (by simp[hk])];refine ⟨?_,?_,?_,?_,fun s=>?_⟩
   ·rw[zds,zds,i1]
   ·rw[zdt,zdt,i2]
   ·rw[List.any_cons,List.any_cons,i3]
   ·rw[ze3,ze3,i4]
   ·rw[scM,scM,i5]
theorem zko (l:List QT) (h:∀k∈l,kd k=2→zac k=false):zd5 leaf wv (l.filter fun k=>decide (kd k≠2)) l:=by
 obtain ⟨i1,i2,i3,i4,i5⟩:=zo3 leaf wv l h;exact ⟨by rw[i1,i2],by rw[i3,i4],i5⟩
theorem zwx:∀(l:List QT),l.any (fun k=>(zac k && decide (kd k=2)) || (decide (oc k=3) && decide (kd k=1)))=true→(zds leaf wv l && zdt leaf wv l)=false
 | [],h=>by cases h
 | k::l,h=>by
  rw[List.any_cons,Bool.or_eq_true] at h;rw[zds,zdt];rcases h with h | h
  ·simp only[Bool.or_eq_true,Bool.and_eq_true,decide_eq_true_eq] at h
   rcases h with ⟨h1,h2⟩ | ⟨h1,h2⟩
   ·rw[zcl leaf wv k h2,h1];simp
   ·rw[zgw leaf wv k h2,h1];simp
  ·have:=zwx l h;cases h1:zds leaf wv l <;> cases h2:zdt leaf wv l <;> simp_all
theorem zj3 (o:Int) (q:QT):oc (withO o q)=o:=by cases q;rfl
theorem zul (k:QT):zac (zb7 k)=zac k∧(oc (zb7 k)=3↔oc k=3)∧zae leaf wv (zb7 k)=zae leaf wv k:=by
 unfold zb7;split
 ·rename_i h
  refine ⟨?_,?_,zjo leaf wv 4 k⟩
  ·unfold zac;rw[zj3,h];rfl
  ·rw[zj3,h];simp
 ·exact ⟨rfl,Iff.rfl,rfl⟩
theorem zs4:∀l:List QT,zds leaf wv (l.map zb7)=zds leaf wv l∧zdt leaf wv (l.map zb7)=zdt leaf wv l∧(l.map zb7).any zac=l.any zac∧ze3 leaf wv (l.map zb7)=ze3 leaf wv l
 | []=>⟨rfl,rfl,rfl,rfl⟩
 | k::l=>by
  obtain ⟨i1,i2,i3,i4⟩:=zs4 l;obtain ⟨b1,b2,b3⟩:=zul leaf wv k
  have b4:decide (oc (zb7 k)≠3)=decide (oc k≠3):=by
   by_cases h:oc k=3
   ·rw[b2.2 h,h]
   ·have h':¬oc (zb7 k)=3:=fun x=>h (b2.1 x);simp[h,h']
  rw[List.map_cons];refine ⟨?_,?_,?_,?_⟩
  ·rw[zds,zds,b1,b3,i1]
  ·rw[zdt,zdt,b4,b3,i2]
  ·rw[List.any_cons,List.any_cons,b1,i3]
  ·rw[ze3,ze3,b1,b4,b3,i4]
theorem zkp:∀l:List QT,zds leaf wv (l.filter fun k=>decide (oc k≠2))=zds leaf wv l∧zdt leaf wv (l.filter fun k=>decide (oc k≠2))=zdt leaf wv l∧(l.filter fun k=>decide (oc k≠2)).any zac=l.any zac
 | []=>⟨rfl,rfl,rfl⟩
 | k::l=>by
  obtain ⟨i1,i2,i3⟩:=zkp l;by_cases h:oc k=2
  ·rw[List.filter_cons_of_neg (by simp[h])];have hn:zac k=false:=by unfold zac;rw[h];rfl
   refine ⟨?_,?_,?_⟩
   ·rw[zds,hn,i1];rfl
   ·rw[zdt,h,i2];rfl
   ·rw[List.any_cons,hn,i3];rfl
  ·rw[List.filter_cons_of_pos (by simp[h])];exact ⟨by rw[zds,zds,i1],by rw[zdt,zdt,i2],by rw[List.any_cons,List.any_cons,i3]⟩
theorem zkq:∀{l:List QT},zl3 l [4]=true→l.any zac=true
 | [],h=>by cases h
 | k::l,h=>by
  unfold zl3 at h;rw[List.any_cons,Bool.or_eq_true] at h;rw[List.any_cons,Bool.or_eq_true];rcases h with h | h
  ·left;have:oc k=4:=by simpa using h
   unfold zac;rw[this];rfl
  ·exact .inr (zkq h)
theorem yaw (l:List QT):okM leaf wv (zc0 l)=okM leaf wv l:=by
 obtain ⟨b1,b2,b3,b4⟩:=zs4 leaf wv l;unfold zc0;split
 ·rename_i h
  obtain ⟨d1,d2,d3⟩:=zkp leaf wv (l.map zb7);rw[okM,okM,d1,d2,d3,b1,b2];have:=zkq h;rw[this,←b3,this,Bool.true_or,Bool.true_or]
 ·rw[okM,okM,b1,b2,b3,b4]
mutual
def zi4:QT→Bool
 | .mk k _ _ _ _ _ _ _ _ ks=>decide (k≠8) || (ydd ks && zl3 ks [2,4])
def ydd:List QT→Bool
 | []=>true
 | q::qs=>(decide (oc q=2) || decide (oc q=3) || decide (oc q=4)) && zi4 q && ydd qs
end
theorem zkr {q:QT} (h:zi4 q=true) (hk:kd q=8):ydd (kids q)=true∧zl3 (kids q) [2,4]=true:=by
 cases q with
 | mk k o f t u l h' b p ks=>
  obtain rfl:k=8:=hk;rw[zi4] at h;show ydd ks=true∧zl3 ks [2,4]=true;simpa using h
theorem zj4:∀{l:List QT},ydd l=true→∀k∈l,(oc k=2∨oc k=3∨oc k=4)∧zi4 k=true
 | [],_,k,hk=>by cases hk
 | q::l,h,k,hk=>by
  rw[ydd] at h;simp only[Bool.and_eq_true,Bool.or_eq_true,decide_eq_true_eq] at h;rcases List.mem_cons.1 hk with rfl | hk
  ·exact ⟨by rcases h.1.1 with (h | h) | h <;> simp[h],h.1.2⟩
  ·exact zj4 h.2 k hk
theorem zwy:∀{l:List QT},(∀k∈l,(oc k=2∨oc k=3∨oc k=4)∧zi4 k=true)→ydd l=true
 | [],_=>rfl
 | q::l,h=>by rw[ydd,zwy (fun k hk=>h k (List.mem_cons_of_mem _ hk)),(h q (by simp)).2];rcases (h q (by simp)).1 with e | e | e <;> rw[e] <;> rfl
theorem zwz:∀{l:List QT},(∀k∈l,oc k=3∨oc k=4)→∀s,scM leaf wv s l=s
 | [],_,s=>by rw[scM]
 | k::l,h,s=>by rw[scM,zwz (fun x hx=>h x (List.mem_cons_of_mem _ hx))];rcases h k (by simp) with e | e <;> rw[e] <;> simp
theorem zum {a b:List QT} (k:QT) (h:zd5 leaf wv a b):zd5 leaf wv (k::a) (k::b):=by
 obtain ⟨h1,h2,h3⟩:=h;refine ⟨?_,?_,fun s=>?_⟩
 ·rw[zds,zdt,zds,zdt];generalize (!zac k || (zae leaf wv k).1)=x;generalize (decide (oc k≠3) || !(zae leaf wv k).1)=y;revert h1;cases zds leaf wv a <;> cases zdt leaf wv a <;> cases zds leaf wv b <;> cases zdt leaf wv b <;> cases x <;> cases y <;> simp
 ·rw[List.any_cons,List.any_cons,ze3,ze3];generalize zac k=x;generalize (!x && decide (oc k≠3) && (zae leaf wv k).1)=y;revert h2;cases List.any a zac <;> cases ze3 leaf wv a <;> cases List.any b zac <;> cases ze3 leaf wv b <;> cases x <;> cases y <;> simp
 ·rw[scM,scM,h3]
theorem yax (k:QT) (l:List QT) (h4:oc k=4) (h8:kd k=8) (hu:zi4 k=true) (hs:((kids k).any fun x=>decide (oc x=2))=false):zd5 leaf wv (kids k++l) (k::l):=by
 obtain ⟨h1,h2⟩:=zkr hu h8
 have h34:∀x∈kids k,oc x=3∨oc x=4:=fun x hx=>by
  rcases (zj4 h1 x hx).1 with e | e | e
  ·have:=List.any_eq_false.1 hs x hx;exact absurd (decide_eq_true e) this
  ·exact .inl e
  ·exact .inr e
 have hn:(kids k).any zac=true:=by
  unfold zl3 at h2;obtain ⟨x,hx,hx2⟩:=List.any_eq_true.1 h2;refine List.any_eq_true.2 ⟨x,hx,?_⟩;have:oc x=2∨oc x=4:=by simpa using hx2
  rcases this with e | e
  ·rcases h34 x hx with e' | e' <;> omega
  ·unfold zac;rw[e];rfl
 have hk:zac k=true:=by unfold zac;rw[h4];rfl
 have hm:(zae leaf wv k).1=(zds leaf wv (kids k) && zdt leaf wv (kids k)):=(by rw[zde leaf wv k h8];show okM leaf wv (kids k)=_;rw[okM,hn,Bool.true_or,Bool.and_true])
 refine ⟨?_,?_,fun s=>?_⟩
 ·rw[zcm,zcn,zds,zdt,hk,hm,h4];cases zds leaf wv (kids k) <;> cases zdt leaf wv (kids k) <;> cases zds leaf wv l <;> cases zdt leaf wv l <;> rfl
 ·rw[List.any_append,hn,List.any_cons,hk];rfl
 ·rw[zdf,zwz leaf wv h34,scM,h4];simp
theorem zks (n:Nat):∀{l m:List QT},(∀k∈l,oc k=4→zi4 k=true)→zbt n l=some m→zd5 leaf wv m l
 | [],_,_,h=>by rw[zbt] at h;cases h
 | k::l,m,hi,h=>by
  rw[zbt] at h;split at h
  ·rename_i ho
   injection h with h;subst h;unfold opens at ho;simp only[Bool.and_eq_true,Bool.not_eq_true',decide_eq_true_eq] at ho;exact yax leaf wv k l ho.1.1.1 ho.1.1.2 (hi k (by simp) ho.1.1.1) ho.2
  ·cases ho:zbt n l with
   | none=>rw[ho] at h;cases h
   | some x=>
    rw[ho] at h;injection h with h;subst h;exact zum leaf wv k (zks n (fun y hy=>hi y (List.mem_cons_of_mem _ hy)) ho)
theorem zkt {p:QT→Prop} (hp:∀k,oc k=4→p k→∀x∈kids k,kd k=8→p x) (n:Nat):∀{l m:List QT},(∀k∈l,p k)→zbt n l=some m→∀k∈m,p k
 | [],_,_,h=>by rw[zbt] at h;cases h
 | k::l,m,hi,h=>by
  rw[zbt] at h;split at h
  ·rename_i ho
   injection h with h;subst h;unfold opens at ho;simp only[Bool.and_eq_true,Bool.not_eq_true',decide_eq_true_eq] at ho;intro y hy;rcases List.mem_append.1 hy with hy | hy
   ·exact hp k ho.1.1.1 (hi k (by simp)) y hy ho.1.1.2
   ·exact hi y (List.mem_cons_of_mem _ hy)
  ·cases ho:zbt n l with
   | none=>rw[ho] at h;cases h
   | some x=>
    rw[ho] at h;injection h with h;subst h;intro y hy;rcases List.mem_cons.1 hy with rfl | hy
    ·exact hi _ (by simp)
    ·exact zkt hp n (fun z hz=>hi z (List.mem_cons_of_mem _ hz)) ho y hy
end
end RewP
end
