/- Lemmas that the last text leans on. -/
import Derived.Test.YtplkbdncgkgppaaGreatDoorPack25
import Derived.Test.YtplkbdncgkgppaaGreatDoorPack4
import Derived.Test.YtplkbdncgkgppaaGreatDoorPack24
import Derived.Test.YtplkbdncgkgppaaGreatDoorPack14
import Derived.Test.YtplkbdncgkgppaaGreatDoorPack7
set_option linter.all false
section
namespace RewP
open SchP QryP AnaP QckP
def zdz:QT:=.mk 2 0 ⟨#[]⟩ ⟨#[]⟩ ⟨#[]⟩ [] [] 0 0 []
def withO (o:Int):QT→QT | .mk k _ f t u l h b p ks=>.mk k o f t u l h b p ks
def withK (k:Int):QT→QT | .mk _ o f t u l h b p ks=>.mk k o f t u l h b p ks
def withB (b:Int):QT→QT | .mk k o f t u l h _ p ks=>.mk k o f t u l h b p ks
def withT:QT→QT | .mk _ o f t _ l h b p ks=>.mk 3 o f t ⟨#[]⟩ l h b p ks
def withKids (ks:List QT):QT→QT | .mk k o f t u l h b p _=>.mk k o f t u l h b p ks
def gtL:List UInt8→List UInt8→Bool
 | [],_=>false
 | _::_,[]=>true
 | a::l,b::r=>if b<a then true else if a<b then false else gtL l r
mutual
def zjd:QT→QT→Bool
 | .mk k o f t u l h b p ks,.mk k' o' f' t' u' l' h' b' p' ks'=>decide (k=k') && decide (o=o') && decide (f=f') && decide (t=t') && decide (u=u') && decide (l=l') && decide (h=h') && decide (b=b') && decide (p=p') && zqo ks ks'
def zqo:List QT→List QT→Bool
 | [],[]=>true
 | a::l,b::r=>zjd a b && zqo l r
 | [],_::_=>false
 | _::_,[]=>false
end
mutual
theorem zor:∀a b:QT,zjd a b=true↔a=b
 | .mk k o f t u l h b p ks,.mk k' o' f' t' u' l' h' b' p' ks'=>by rw[zjd];simp only[Bool.and_eq_true,decide_eq_true_eq,zos ks ks',QT.mk.injEq,and_assoc]
theorem zos:∀a b:List QT,zqo a b=true↔a=b
 | [],[]=>by rw[zqo];simp
 | a::l,b::r=>by rw[zqo];simp only[Bool.and_eq_true,zor a b,zos l r,List.cons.injEq]
 | [],_::_=>by rw[zqo];simp
 | _::_,[]=>by rw[zqo];simp
end
mutual
def zwh:QT→Nat
 | .mk _ _ _ _ _ _ _ _ _ ks=>zak ks+1
def zak:List QT→Nat
 | []=>0
 | q::qs=>zwh q+zak qs
end
theorem zmz (q:QT):zwh q=zak (kids q)+1:=by cases q;rw[zwh];rfl
theorem zev:∀a b:List QT,zak (a++b)=zak a+zak b
 | [],b=>by rw[List.nil_append,zak,Nat.zero_add]
 | q::a,b=>by rw[List.cons_append,zak,zak,zev a b,Nat.add_assoc]
def zzk (l:List QT) (os:List Int):Bool:=l.any fun k=>os.contains (oc k)
def zd0 (k:QT):QT:=if oc k=1 then withO 4 k else k
def zdw (l:List QT):List QT:=if zzk (l.map zd0) [4] then (l.map zd0).filter fun k=>decide (oc k≠2) else l.map zd0
def opens (n:Nat) (k:QT):Bool:=decide (oc k=4) && decide (kd k=8) && decide (n - 1+(kids k).length≤32) && !(kids k).any fun x=>decide (oc x=2)
def zbo (n:Nat):List QT→Option (List QT)
 | []=>none
 | k::l=>if opens n k then some (kids k++l) else (zbo n l).map (k :: ·)
def zb7 (out:List QT):List QT→List QT
 | []=>out
 | k::l=>if (oc k=4∨oc k=3)∧out.any (fun x=>zjd x k)=true then zb7 out l else zb7 (out++[k]) l
def zbu (k:QT):Bool:=decide (oc k=1) || decide (oc k=4)
def zhp (k:QT):Bool:=decide (oc k=4) && decide (kd k=1)
def zjk (l:List QT):Option (List QT):=if l.any zhp=true∧2≤(l.filter zbu).length then some (l.eraseP zhp) else none
def zc3 (l:List QT):List QT × Bool:=
 let a:=(zbo l.length l).getD l;let b:=zb7 [] a
 ((zjk b).getD b,(zbo l.length l).isSome || decide (b.length<a.length) || (zjk b).isSome)
def zc4:Nat→List QT→List QT
 | 0,l=>l
 | n+1,l=>if (zc3 l).2 then zc4 n (zc3 l).1 else (zc3 l).1
def zup (s:Bool) (q:QT) (l:List QT):QT:=if l.length=1∧(∀k∈l,oc k≠4∨s=false) then l.headD zdz else withKids l q
def zkj (scored:Bool) (q:QT):QT:=
 if (kids q).any (fun k=>(zbu k && decide (kd k=2)) || (decide (oc k=3) && decide (kd k=1))) then zdz else
  let l1:=(kids q).filter fun k=>decide (kd k≠2);let l2:=if scored then l1 else zdw l1
  let l3:=zc4 (zak l2+1) l2;if zzk l3 [1,4,2] then zup scored q l3 else zdz
def zkk:List Int→List Int→Bool
 | a::l,b::r=>decide (b<a) || zkk l r
 | _,_=>false
def zwi (l:List FT) (s:ByteArray):Int:=match zbw l s with
 | none=>0
 | some f=>f.kind
def zqp (l:List FT) (scored:Bool) (q:QT):QT:=
 if kd q=3∨kd q=4 then (match zbw l (fd q) with
  | none=>q
  | some f=>if f.kind=1 then (if (zmx f.chain (tx q)).1.length=0 then zdz else if (zmx f.chain (tx q)).1.length=1 then withK 3 q else withK 4 q) else q)
 else if kd q=6 then (if gtL (tx q).data.toList (up q).data.toList then zdz else if tx q=up q∧zwi l (fd q)=2 then withT q else q)
 else if kd q=7 then (if zkk (lo q) (hi q) then zdz else q)
 else if kd q=9∨kd q=10 then (match kids q with
  | []=>q
  | k::_=>if kd k=2∨scored=false∨(kd q=9∧bo q=1) then k else if kd q=9∧kd k=9∧bo q*bo k≤1048576 then withB (bo k*bo q) k else q)
 else if kd q=8 then zkj scored q else q
mutual
def zg7 (l:List FT) (scored:Bool):QT→QT
 | .mk k o f t u lo hi b p ks=>withO o (zqp l scored (.mk k o f t u lo hi b p (zck l scored ks)))
def zck (l:List FT) (scored:Bool):List QT→List QT
 | []=>[]
 | q::qs=>zg7 l (scored && decide (oc q≠4) && decide (oc q≠3)) q::zck l scored qs
end
theorem zkl:∀{n:Nat} {l m:List QT},zbo n l=some m→zak m<zak l
 | _,[],_,h=>by rw[zbo] at h;cases h
 | n,k::l,m,h=>by
  rw[zbo] at h;split at h
  ·injection h with h;subst h;rw[zev,zak,zmz];omega
  ·cases ho:zbo n l with
   | none=>rw[ho] at h;cases h
   | some x=>
    rw[ho] at h;injection h with h;subst h;have:=zkl ho;show zak (k::x)<zak (k::l);rw[zak,zak];omega
theorem zg8:∀(l out:List QT),zak (zb7 out l)≤zak out+zak l∧((zb7 out l).length<out.length+l.length→zak (zb7 out l)<zak out+zak l)
 | [],out=>by rw[zb7,zak];exact ⟨by omega,fun h=>by simp at h⟩
 | k::l,out=>by
  rw[zb7];have hk:1≤zwh k:=by rw[zmz];omega
  split
  ·have:=zg8 l out;rw[zak];exact ⟨by omega,fun _=>by omega⟩
  ·have:=zg8 l (out++[k]);rw[zev] at this;simp only[zak,Nat.add_zero,List.length_append,List.length_cons,List.length_nil] at this ⊢;exact ⟨by omega,fun h=>by have:=this.2 (by omega);omega⟩
theorem zi6 {p:QT→Bool}:∀{l:List QT},l.any p=true→zak (l.eraseP p)<zak l
 | [],h=>by cases h
 | k::l,h=>by
  have hk:1≤zwh k:=by rw[zmz];omega
  rw[List.eraseP_cons]
  cases hp:p k with
  | true=>simp only[cond_true];rw[zak];omega
  | false=>
   rw[List.any_cons,hp,Bool.false_or] at h;have:=zi6 h;simp only[cond_false];rw[zak,zak];omega
theorem zfp (l:List QT):zak (zc3 l).1≤zak l∧((zc3 l).2=true→zak (zc3 l).1<zak l):=by
 unfold zc3;dsimp only
 obtain ⟨a,ha⟩:∃a,(zbo l.length l).getD l=a:=⟨_,rfl⟩
 have h1:zak a≤zak l∧((zbo l.length l).isSome=true→zak a<zak l):=by
  cases ho:zbo l.length l with
  | none=>rw[ho] at ha;obtain rfl:l=a:=ha;exact ⟨Nat.le_refl _,fun h=>by cases h⟩
  | some x=>rw[ho] at ha;obtain rfl:x=a:=ha;have:=zkl ho;exact ⟨by omega,fun _=>this⟩
 rw[ha];have h2:=zg8 a [];simp only[zak,Nat.zero_add,List.length_nil] at h2;generalize zb7 [] a=b at *
 have h3:zak ((zjk b).getD b)≤zak b∧((zjk b).isSome=true→zak ((zjk b).getD b)<zak b):=by
  unfold zjk;split
  ·rename_i h
   have:=zi6 h.1;exact ⟨by show zak (b.eraseP zhp)≤_;omega,fun _=>this⟩
  ·exact ⟨Nat.le_refl _,fun h=>by cases h⟩
 refine ⟨by omega,fun h=>?_⟩;simp only[Bool.or_eq_true,decide_eq_true_eq] at h;rcases h with (h | h) | h
 ·have:=h1.2 h;omega
 ·have:=h2.2 h;omega
 ·have:=h3.2 h;omega
theorem zl2:∀(n m:Nat) (l:List QT),zak l<n→n≤m→zc4 m l=zc4 n l
 | 0,_,_,h,_=>by omega
 | n+1,0,_,_,h=>by omega
 | n+1,m+1,l,h,hm=>by
  rw[zc4,zc4];split
  ·rename_i hc
   have:=(zfp l).2 hc;exact zl2 n m _ (by omega) (by omega)
  ·rfl
end RewP
end
section
namespace RewP
open SchP QryP AnaP QckP
def ygw (n:Int):Int:=if 9223372036854775807<n then 9223372036854775807 else if n < -9223372036854775808 then -9223372036854775808 else n
section
variable (leaf:QT→Bool × Int) (wv:QT→Int→Int)
theorem zkm {p:QT→Prop} (hp:∀k,oc k=4→p k→∀x∈kids k,kd k=8→p x) (n:Nat):∀{l m:List QT},(∀k∈l,p k)→zbo n l=some m→∀k∈m,p k
 | [],_,_,h=>by rw[zbo] at h;cases h
 | k::l,m,hi,h=>by
  rw[zbo] at h;split at h
  ·rename_i ho
   injection h with h;subst h;unfold opens at ho;simp only[Bool.and_eq_true,Bool.not_eq_true',decide_eq_true_eq] at ho;intro y hy;rcases List.mem_append.1 hy with hy | hy
   ·exact hp k ho.1.1.1 (hi k (by simp)) y hy ho.1.1.2
   ·exact hi y (List.mem_cons_of_mem _ hy)
  ·cases ho:zbo n l with
   | none=>rw[ho] at h;cases h
   | some x=>
    rw[ho] at h;injection h with h;subst h;intro y hy;rcases List.mem_cons.1 hy with rfl | hy
    ·exact hi _ (by simp)
    ·exact zkm hp n (fun z hz=>hi z (List.mem_cons_of_mem _ hz)) ho y hy
end
end RewP
end
section
namespace RewP
open SchP QryP AnaP QckP
section
variable (leaf:QT→Bool × Int) (wv:QT→Int→Int)
theorem zhq {p:QT→Prop}:∀(l out:List QT),(∀k∈out,p k)→(∀k∈l,p k)→∀k∈zb7 out l,p k
 | [],out,h,_=>by rw[zb7];exact h
 | k::l,out,h,hl=>by
  rw[zb7];split
  ·exact zhq l out h (fun x hx=>hl x (List.mem_cons_of_mem _ hx))
  ·refine zhq l (out++[k]) (fun x hx=>?_) (fun x hx=>hl x (List.mem_cons_of_mem _ hx));rcases List.mem_append.1 hx with hx | hx
   ·exact h x hx
   ·obtain rfl:x=k:=by simpa using hx
    exact hl x (by simp)
theorem zsd {p:QT→Prop} {l m:List QT} (h:zjk l=some m) (hl:∀k∈l,p k):∀k∈m,p k:=by
 unfold zjk at h;split at h
 ·injection h with h;subst h;exact fun k hk=>hl k (List.mem_of_mem_eraseP hk)
 ·cases h
theorem ztj {p:QT→Prop} (hp:∀k,oc k=4→p k→∀x∈kids k,kd k=8→p x) (l:List QT) (hi:∀k∈l,p k):∀k∈(zc3 l).1,p k:=by
 unfold zc3;dsimp only
 have h1:∀k∈(zbo l.length l).getD l,p k:=by
  cases ho:zbo l.length l with
  | none=>exact hi
  | some x=>exact zkm hp _ hi ho
 generalize (zbo l.length l).getD l=a at *;have h2:=zhq (p:=p) a [] (fun k hk=>by cases hk) h1;generalize zb7 [] a=b at *
 cases ho:zjk b with
 | none=>exact h2
 | some x=>exact zsd ho h2
end
end RewP
end
section
namespace RewP
open SchP QryP AnaP QckP
def ygl (n:Int):Prop:=-9223372036854775808≤n∧n≤9223372036854775807
section
variable (leaf:QT→Bool × Int) (wv:QT→Int→Int)
end
end RewP
end
section
namespace RewP
open SchP QryP AnaP QckP
theorem zqq:∀q:QT,10≤zb5 q
 | .mk _ _ _ _ _ _ _ _ _ _=>by rw[zb5];omega
theorem zm0:∀l1 l2:List QT,zam (l1++l2)=zam l1+zam l2
 | [],l2=>by simp[zam]
 | q::l1,l2=>by rw[List.cons_append,zam,zam,zm0 l1 l2];omega
theorem zfq:zb5 zdz=10:=by rfl
theorem zl3 (o:Int):∀q:QT,zb5 (withO o q)=zb5 q
 | .mk _ _ _ _ _ _ _ _ _ _=>by rw[withO,zb5,zb5]
theorem zl4 (k:Int):∀q:QT,zb5 (withK k q)=zb5 q
 | .mk _ _ _ _ _ _ _ _ _ _=>by rw[withK,zb5,zb5]
theorem ztk (b:Int):∀q:QT,zb5 (withB b q)=zb5 q
 | .mk _ _ _ _ _ _ _ _ _ _=>by rw[withB,zb5,zb5]
theorem ztl:∀q:QT,zb5 (withT q)≤zb5 q
 | .mk _ _ f t u l h b p ks=>by rw[withT,zb5,zb5];have:(⟨#[]⟩:ByteArray).size=0:=rfl;omega
theorem zm1 (l:List QT):∀q:QT,zb5 (withKids l q)+zam (kids q)=zb5 q+zam l
 | .mk _ _ f t u lo hi b p ks=>by rw[withKids,zb5,zb5];show _+zam ks=_;omega
theorem zil:∀q:QT,zam (kids q)+10≤zb5 q
 | .mk _ _ f t u lo hi b p ks=>by rw[zb5];show zam ks+10≤_;omega
theorem zot:∀{l:List QT} {q:QT},q∈l→zb5 q≤zam l
 | [],_,h=>by cases h
 | a::l,q,h=>by
  rw[zam];rcases List.mem_cons.1 h with rfl | h
  ·omega
  ·have:=zot h;omega
theorem zfr (p:QT→Bool):∀l:List QT,zam (l.filter p)≤zam l
 | []=>Nat.le_refl _
 | a::l=>by
  have:=zfr p l;rw[List.filter_cons];split
  ·rw[zam,zam];omega
  ·rw[zam];omega
theorem zim:∀l:List QT,zam (l.map zd0)=zam l
 | []=>rfl
 | a::l=>by
  rw[List.map_cons,zam,zam,zim l];unfold zd0;split
  ·rw[zl3]
  ·rfl
theorem zqr (l:List QT):zam (zdw l)≤zam l:=by
 unfold zdw;split
 ·exact Nat.le_trans (zfr _ _) (by rw[zim];exact Nat.le_refl _)
 ·rw[zim];exact Nat.le_refl _
theorem zkn (p:QT→Bool):∀l:List QT,zam (l.eraseP p)≤zam l
 | []=>Nat.le_refl _
 | a::l=>by
  have:=zkn p l;rw[List.eraseP_cons]
  cases p a with
  | true=>simp only[cond_true];rw[zam];omega
  | false=>simp only[cond_false];rw[zam,zam];omega
theorem zl5 {n:Nat}:∀{l m:List QT},zbo n l=some m→zam m≤zam l
 | [],m,h=>by rw[zbo] at h;cases h
 | k::l,m,h=>by
  rw[zbo] at h;split at h
  ·injection h with h;subst h;have:=zil k;rw[zm0,zam];omega
  ·cases ho:zbo n l with
   | none=>rw[ho] at h;cases h
   | some x=>
    rw[ho] at h;injection h with h;subst h;have:=zl5 ho;show zam (k::x)≤zam (k::l);rw[zam,zam];omega
theorem zin:∀(l out:List QT),zam (zb7 out l)≤zam out+zam l
 | [],out=>by rw[zb7];omega
 | k::l,out=>by
  rw[zb7];split
  ·have:=zin l out;rw[zam];omega
  ·have:=zin l (out++[k]);rw[zm0,zam,zam] at this;rw[zam];omega
theorem zqs (l:List QT):zam (zc3 l).1≤zam l:=by
 unfold zc3;dsimp only
 have h1:zam ((zbo l.length l).getD l)≤zam l:=by
  cases ho:zbo l.length l with
  | none=>exact Nat.le_refl _
  | some x=>exact zl5 ho
 generalize (zbo l.length l).getD l=a at *;have h2:=zin a [];rw[zam,Nat.zero_add] at h2;generalize zb7 [] a=b at *
 have h3:zam ((zjk b).getD b)≤zam b:=by
  unfold zjk;split
  ·exact zkn _ _
  ·exact Nat.le_refl _
 omega
theorem zl6:∀(n:Nat) (l:List QT),zam (zc4 n l)≤zam l
 | 0,l=>by rw[zc4];exact Nat.le_refl _
 | n+1,l=>by
  have h1:=zqs l;rw[zc4];split
  ·exact Nat.le_trans (zl6 n _) h1
  ·exact h1
theorem zwj (s:Bool) (q:QT):zb5 (zkj s q)≤zb5 q:=by
 unfold zkj;split
 ·rw[zfq];exact zqq q
 dsimp only;have h1:=zfr (fun k=>decide (kd k≠2)) (kids q);generalize (kids q).filter (fun k=>decide (kd k≠2))=l1 at *
 have h2:zam (if s=true then l1 else zdw l1)≤zam l1:=by
  split
  ·exact Nat.le_refl _
  ·exact zqr l1
 generalize (if s=true then l1 else zdw l1)=l2 at *;have h3:=zl6 (zak l2+1) l2;generalize zc4 (zak l2+1) l2=l3 at *;have hk:=zil q;split
 ·unfold zup;split
  ·rename_i he
   match l3,he,h3 with
   | [x],_,h3=>
    rw[zam,zam] at h3;show zb5 x≤_;omega
  ·have:=zm1 l3 q;omega
 ·rw[zfq];exact zqq q
theorem zzl (l:List FT) (s:Bool) (q:QT):zb5 (zqp l s q)≤zb5 q:=by
 have h10:=zqq q;unfold zqp;split
 ·split
  ·exact Nat.le_refl _
  ·split
   ·split
    ·rw[zfq];exact h10
    ·split
     ·rw[zl4];exact Nat.le_refl _
     ·rw[zl4];exact Nat.le_refl _
   ·exact Nat.le_refl _
 split
 ·split
  ·rw[zfq];exact h10
  ·split
   ·exact ztl q
   ·exact Nat.le_refl _
 split
 ·split
  ·rw[zfq];exact h10
  ·exact Nat.le_refl _
 split
 ·split
  ·exact Nat.le_refl _
  ·rename_i k _ e
   have hk:zb5 k≤zam (kids q):=zot (by rw[e];exact List.mem_cons_self ..);have hq:=zil q;split
   ·omega
   ·split
    ·rw[ztk];omega
    ·exact Nat.le_refl _
 split
 ·exact zwj s q
 ·exact Nat.le_refl _
mutual
theorem zou (l:List FT) (s:Bool):∀q:QT,zb5 (zg7 l s q)≤zb5 q
 | .mk k o f t u lo hi b p ks=>by rw[zg7,zl3];refine Nat.le_trans (zzl l s _) ?_;have:=zl7 l s ks;rw[zb5,zb5];omega
theorem zl7 (l:List FT) (s:Bool):∀ks:List QT,zam (zck l s ks)≤zam ks
 | []=>by rw[zck];exact Nat.le_refl _
 | q::qs=>by have h1:=zou l (s && decide (oc q≠4) && decide (oc q≠3)) q;have h2:=zl7 l s qs;rw[zck,zam,zam];omega
end
end RewP
end
section
namespace Go.Proofs.YtplkbdncgkgppaaGreatDoor.Qry
open Go.RowKit Words Tree QryP Kit Sch SchP Owned RewP
structure AO (M N C:Nat) (bsA:List Nat) (w w0 wr:World) (i:Nat) (rows:List (Value × List Int)) (dk:List Nat) (pend:List QT) (xp:List Value) (bP:List Nat):Prop where
 rws:∀p∈rows,ze1 wr N p.1 p.2∧p.2.length≤C
 oq:OQL wr N pend xp bP
 nd:(ziy rows++(dk++bP)).Nodup
 sub:∀g∈ziy rows++(dk++bP),g∈bsA
 bel:Below N w wr
 keep:Below M w0 wr
 lt:∀g∈bsA,N≤g∧g<M
 sz:M≤wr.heap.size
 ms:i*10+zam pend≤C
section
variable {M N C:Nat} {bsA bP dk:List Nat} {w w0 wr w':World} {i:Nat} {rows:List (Value × List Int)} {pend:List QT} {xp:List Value}
theorem AO.next (h:AO M N C bsA w w0 wr i rows dk pend xp bP) (hb:Below M wr w') (hN:N≤M):AO M N C bsA w w0 w' i rows dk pend xp bP:=by
 have hlt:∀g∈ziy rows++(dk++bP),g<M:=fun g hg=>(h.lt g (h.sub g hg)).2;exact ⟨fun p hp=>⟨za8 (h.rws p hp).1 fun g hg=>hb.block g (hlt g (List.mem_append_left _ (zhj.2 ⟨p,hp,hg⟩))),(h.rws p hp).2⟩,h.oq.keep fun g hg=>hb.block g (hlt g (List.mem_append_right _ (List.mem_append_right _ hg))),h.nd,h.sub,h.bel.trans (hb.mono hN),h.keep.trans hb,h.lt,Nat.le_trans h.sz hb.size,h.ms⟩
theorem AO.visit {k o b op:Int} {f t u:ByteArray} {lo hi:List Int} {ks pend':List QT} (h:AO M N C bsA w w0 wr i rows dk (.mk k o f t u lo hi b op ks::pend') xp bP) :
 ∃(vl vh vk:Value) (xk xp':List Value) (bk bp':List Nat),xp=[.int .i64 k,.int .i64 o,.string f,.string t,.string u,vl,vh,.int .i64 b,.int .i64 op,vk]++xp'∧ze1 wr N vl lo∧ze1 wr N vh hi∧
  wr.ownsRow N 28 10 vk ks.length xk∧(∀g,vk.ownBlock=some g→g<M)∧ks.length*10≤C∧OQL wr N ks xk bk∧
  AO M N C bsA w w0 wr (i+1) (rows++[(vl,lo),(vh,hi)]) (dk++vk.ownBlock.toList) (pend'++ks) (xp'++xk) (bp'++bk):=by
 have hoq:=h.oq;rw[OQL] at hoq;obtain ⟨us,xp',b1,bp',rfl,rfl,hq,hr⟩:=hoq;rw[OQ] at hq;obtain ⟨vl,vh,vk,xk,bk,rfl,h1,h2,h3,h4,rfl⟩:=hq;have hms:=h.ms;rw[zam,zb5] at hms;have hml:=zfj ks
 have hperm:(ziy (rows++[(vl,lo),(vh,hi)])++((dk++vk.ownBlock.toList)++(bp'++bk))).Perm (ziy rows++(dk++(vl.ownBlock.toList++(vh.ownBlock.toList++(vk.ownBlock.toList++bk))++bp'))):=by
  rw[zkb,List.perm_iff_count];intro a;have e:ziy [(vl,lo),(vh,hi)]=vl.ownBlock.toList++vh.ownBlock.toList:=by simp[ziy]
  rw[e];simp only[List.count_append];omega
 have hnd:=hperm.nodup_iff.2 h.nd;have hsub:∀g∈ziy (rows++[(vl,lo),(vh,hi)])++((dk++vk.ownBlock.toList)++(bp'++bk)),g∈bsA:=fun g hg=>h.sub g (hperm.mem_iff.1 hg);refine ⟨vl,vh,vk,xk,xp',bk,bp',rfl,h1,h2,h3,fun g hg=>(h.lt g (hsub g (List.mem_append_right _ (List.mem_append_left _ (List.mem_append_right _ (zat.2 hg)))))).2,by omega,h4,?_⟩;refine ⟨fun p hp=>?_,hr.append h4,hnd,hsub,h.bel,h.keep,h.lt,h.sz,by rw[zd1];omega⟩;rcases List.mem_append.1 hp with hp | hp
 ·exact h.rws p hp
 ·simp only[List.mem_cons,List.not_mem_nil,or_false] at hp;rcases hp with rfl | rfl
  ·exact ⟨h1,by dsimp only;omega⟩
  ·exact ⟨h2,by dsimp only;omega⟩
theorem AO.fam (h:AO M N C bsA w w0 wr i rows dk pend xp bP):Fam 2 N wr rows.length (znm rows) (znm rows) (yde rows) (fun _=>[]):=by
 have hn:=(List.nodup_append.1 h.nd).1;refine ⟨fun j hj=>?_,fun a b g ha hb hta htb=>?_⟩
 ·have hr:=(h.rws rows[j] (List.getElem_mem hj)).1;have e1:znm rows j=rows[j].1:=by unfold znm;rw[List.getElem?_eq_getElem hj];rfl
  have e2:yde rows j=rows[j].2.map (Value.int .i64):=by unfold yde;rw[List.getElem?_eq_getElem hj];rfl
  rw[e1,e2];unfold ze1 at hr;exact ⟨by rw[List.length_map];exact hr,by rw[List.length_map,List.append_nil];exact hr⟩
 ·have e1:znm rows a=rows[a].1:=by unfold znm;rw[List.getElem?_eq_getElem ha];rfl
  have e2:znm rows b=rows[b].1:=by unfold znm;rw[List.getElem?_eq_getElem hb];rfl
  rw[e1] at hta;rw[e2] at htb;exact zlt hn a b g _ _ (List.getElem?_eq_getElem ha) (List.getElem?_eq_getElem hb) (hta.elim id id) (htb.elim id id)
theorem AO.nthLen (h:AO M N C bsA w w0 wr i rows dk pend xp bP) (hC:C≤4294967296) (j:Nat) (hj:j<rows.length):(yde rows j).length≤4294967296:=by
 have:=(h.rws rows[j] (List.getElem_mem hj)).2;unfold yde;rw[List.getElem?_eq_getElem hj];simp only[Option.map_some,Option.getD_some,List.length_map];omega
theorem AO.far (h:AO M N C bsA w w0 wr i rows dk pend xp bP) {g:Nat} (hg:g∉bsA):¬ze4 rows.length (znm rows) g:=fun hr=>hg (h.sub g (List.mem_append_left _ (zif hr)))
end
end Go.Proofs.YtplkbdncgkgppaaGreatDoor.Qry
end
section
namespace Go.Proofs.YtplkbdncgkgppaaGreatDoor.Qry
open Go.RowKit Words Tree QryP Kit Sch SchP Owned RewP
theorem AO.kid {M N C:Nat} {bsA bP dk:List Nat} {w w0 wr:World} {i:Nat} {rows:List (Value × List Int)} {pend:List QT} {xp:List Value} (h:AO M N C bsA w w0 wr i rows dk pend xp bP) {g:Nat} {cs:Array Value} (hb:Blk wr g 28 cs):¬ze4 rows.length (znm rows) g:=fun hr=>by
 obtain ⟨p,hp,hg⟩:=zhj.1 (zif hr);have h1:=(h.rws p hp).1;unfold ze1 at h1
 rcases h1.2 with ⟨e,_⟩ | ⟨g',cap,cur,e,_,hgg,_⟩
 ·rw[e] at hg;cases hg
 ·rw[e] at hg;have e2:g'=g:=Option.some.inj hg;subst e2;exact hb.ne_ hgg (by decide) rfl
theorem OQ.kids {w:World} {B:Nat} {k o b op:Int} {f t u:ByteArray} {lo hi:List Int} {ks:List QT} {vl vh vk:Value} {bs:List Nat} (h:OQ w B (.mk k o f t u lo hi b op ks) [.int .i64 k,.int .i64 o,.string f,.string t,.string u,vl,vh,.int .i64 b,.int .i64 op,vk] bs) :
 ∃(xk:List Value) (bk:List Nat),w.ownsRow B 28 10 vk ks.length xk∧OQL w B ks xk bk∧∀g,vk.ownBlock=some g→g∈bs:=by
 rw[OQ] at h;obtain ⟨vl',vh',vk',xk,bk,e,h1,h2,h3,h4,rfl⟩:=h;simp only[List.cons.injEq,and_true,true_and] at e;obtain ⟨rfl,rfl,rfl⟩:=e;exact ⟨xk,bk,h3,h4,fun g hg=>List.mem_append_right _ (List.mem_append_right _ (List.mem_append_left _ (zat.2 hg)))⟩
theorem OQ.kidB {w:World} {B:Nat} {k o b op:Int} {f t u:ByteArray} {lo hi:List Int} {ks:List QT} {vl vh:Value} {A:Option Addr} {c:Nat} {bs:List Nat} (h:OQ w B (.mk k o f t u lo hi b op ks) [.int .i64 k,.int .i64 o,.string f,.string t,.string u,vl,vh,.int .i64 b,.int .i64 op,.slice A ks.length c] bs) (h0:0<ks.length) :
 ∃(g:Nat) (cur:Array Value),A=some ⟨g,0,none⟩∧Blk w g 28 cur∧ks.length*10≤cur.size∧g∈bs:=by
 obtain ⟨xk,bk,h3,h4,h5⟩:=h.kids
 rcases h3.2 with ⟨_,e⟩ | ⟨g,cap,cur,hv,_,hgg,hc,_,hs,_⟩
 ·omega
 ·injection hv with e1 e2 e3;subst e1;exact ⟨g,cur,rfl,hgg,by rw[hs];exact Nat.mul_le_mul_right 10 hc,h5 g rfl⟩
theorem OQL.kind {w:World} {B:Nat} {k o b op:Int} {f t u:ByteArray} {lo hi:List Int} {ks qs:List QT} {xk:List Value} {bk:List Nat} (h:OQL w B (.mk k o f t u lo hi b op ks::qs) xk bk):xk[0]?=some (.int .i64 k):=by
 rw[OQL] at h;obtain ⟨us,xp,b1,bp,rfl,rfl,hq,_⟩:=h;rw[OQ] at hq;obtain ⟨vl,vh,vk,xk,bk,rfl,_⟩:=hq;rfl
theorem OQ.kid0 {w:World} {B:Nat} {k o b op k' o' b' op':Int} {f t u f' t' u':ByteArray} {lo hi lo' hi':List Int} {ks' qs:List QT} {vl vh:Value} {A:Option Addr} {n c:Nat} {bs:List Nat} (h:OQ w B (.mk k o f t u lo hi b op (.mk k' o' f' t' u' lo' hi' b' op' ks'::qs)) [.int .i64 k,.int .i64 o,.string f,.string t,.string u,vl,vh,.int .i64 b,.int .i64 op,.slice A n c] bs) (hn:n=qs.length+1) :
 ∃(g:Nat) (cur:Array Value),A=some ⟨g,0,none⟩∧Blk w g 28 cur∧w.cell? ⟨g,0,none⟩=some (.int .i64 k')∧g∈bs:=by
 subst hn;obtain ⟨xk,bk,h3,h4,h5⟩:=h.kids;obtain ⟨g,cur,e,hb,_,hg⟩:=OQ.kidB (ks:=.mk k' o' f' t' u' lo' hi' b' op' ks'::qs) h (Nat.succ_pos _);subst e;exact ⟨g,cur,rfl,hb,zr7 h3 h4.kind,hg⟩
theorem zwk {w:World} {S:Nat→Prop} {k o b op:Int} {f t u:ByteArray} {lo hi:List Int} {ks qs:List QT} {v:Value} (h:T.At lent w S (.arr 10 (QT.mk k o f t u lo hi b op ks::qs).length (zaw (.mk k o f t u lo hi b op ks::qs))) v) :
 ∃ad cap,v = .slice (some ad) (qs.length+1) cap∧S ad.block∧w.cell? ad=some (.int .i64 k):=by
 obtain ⟨ad,cap,rfl,_,_,hs,_,hk⟩:=ziw h;obtain ⟨us,hus,_,hc⟩:=hk 0 (Nat.succ_pos _);obtain ⟨vl,vh,vk,rfl,_⟩:=zal hus;exact ⟨ad,cap,rfl,hs,(by simpa using hc.zero:w.cell? (ad.add 0)=some (.int .i64 k))⟩
theorem zzm (w:World) (a b:Array Value) (t1 t2:TypeId):Below w.heap.size w ((w.alloc (.cells a t1)).alloc (.cells b t2))∧((w.alloc (.cells a t1)).alloc (.cells b t2)).heap.size=w.heap.size+2∧
 Blk ((w.alloc (.cells a t1)).alloc (.cells b t2)) w.heap.size t1 a∧Blk ((w.alloc (.cells a t1)).alloc (.cells b t2)) (w.heap.size+1) t2 b:=by
 refine ⟨((Below.refl _ _).alloc (Nat.le_refl _) _).alloc (by simp) _,by simp,(Blk.new w t1 a).alloc _,?_⟩;have:=Blk.new (w.alloc (.cells a t1)) t2 b;rwa [World.size_alloc] at this
end Go.Proofs.YtplkbdncgkgppaaGreatDoor.Qry
end
section
namespace Go.Proofs.YtplkbdncgkgppaaGreatDoor.Qry
open Go.RowKit Go.WideShapes Go.ChangeShapes Words Tree QryP Owned
structure OutR (w:World) (bs:List Nat) (w':World) (bs':List Nat):Prop where
 nd:bs'.Nodup
 sub:∀g∈bs',g∈bs∨w.heap.size≤g
 but:But (fun g=>g∈bs) w w'
section
variable {w w' w1 w2:World} {bs bs' b1 b2:List Nat}
theorem OutR.refl (h:bs.Nodup) (w:World):OutR w bs w bs:=⟨h,fun g hg=>.inl hg,But.refl _ _⟩
theorem OutR.trans (h:OutR w bs w1 b1) (k:OutR w1 b1 w2 b2):OutR w bs w2 b2:=
 ⟨k.nd,fun g hg=>(k.sub g hg).elim (h.sub g) (fun h'=>.inr (Nat.le_trans h.but.size h')),h.but.more k.but h.sub⟩
theorem OutR.below (h:OutR w bs w1 b1) (hb:Below w1.heap.size w1 w2):OutR w bs w2 b1:=⟨h.nd,h.sub,h.but.trans (But.of_below hb)⟩
theorem OutR.first (hb:Below w.heap.size w w1) (h:OutR w1 bs w' b1):OutR w bs w' b1:=
 ⟨h.nd,fun g hg=>(h.sub g hg).imp id (fun h'=>Nat.le_trans hb.size h'),(But.of_below hb).trans h.but⟩
theorem OutR.base {B:Nat} (h:OutR w bs w' bs') (hB:B≤w.heap.size) (hg:∀g∈bs,B≤g):Below B w w':=h.but.below hB (fun g hlt hm=>by have:=hg g hm;omega)
end
section
variable {w w':World} {B:Nat}
theorem OQL.join:∀{l1 l2:List QT} {x1 x2:List Value} {b1 b2:List Nat},OQL w B l1 x1 b1→OQL w B l2 x2 b2→OQL w B (l1++l2) (x1++x2) (b1++b2)
 | [],l2,x1,x2,b1,b2,h,h2=>by rw[OQL] at h;obtain ⟨rfl,rfl⟩:=h;exact h2
 | q::l1,l2,x1,x2,b1,b2,h,h2=>by rw[OQL] at h;obtain ⟨us,xs',c1,c2,rfl,rfl,h3,h4⟩:=h;rw[List.cons_append,OQL];exact ⟨us,xs'++x2,c1,c2++b2,by simp,by simp,h3,OQL.join h4 h2⟩
theorem OQL.cut:∀{l1 l2:List QT} {xs:List Value} {bs:List Nat},OQL w B (l1++l2) xs bs→∃x1 x2 b1 b2,xs=x1++x2∧bs=b1++b2∧OQL w B l1 x1 b1∧OQL w B l2 x2 b2
 | [],l2,xs,bs,h=>⟨[],xs,[],bs,rfl,rfl,OQL.nil_,h⟩
 | q::l1,l2,xs,bs,h=>by rw[List.cons_append,OQL] at h;obtain ⟨us,xs',c1,c2,rfl,rfl,h3,h4⟩:=h;obtain ⟨x1,x2,b1,b2,rfl,rfl,h5,h6⟩:=OQL.cut h4;refine ⟨us++x1,x2,c1++b1,b2,by simp,by simp,?_,h6⟩;rw[OQL];exact ⟨us,x1,c1,b1,rfl,rfl,h3,h5⟩
theorem OQL.one_ {q:QT} {us:List Value} {bs:List Nat} (h:OQL w B [q] us bs):OQ w B q us bs:=by
 rw[OQL] at h;obtain ⟨us,xs',c1,c2,rfl,rfl,h3,h4⟩:=h;rw[OQL] at h4;obtain ⟨rfl,rfl⟩:=h4;simpa using h3
def zeb (w:World) (B:Nat) (v:Value) (l:List QT) (bs:List Nat):Prop:=∃xs bk,w.ownsRow B 28 10 v l.length xs∧OQL w B l xs bk∧bs=v.ownBlock.toList++bk
theorem zeb.keep {v:Value} {l:List QT} {bs:List Nat} (h:zeb w B v l bs) (hk:∀g∈bs,w'.heap[g]?=w.heap[g]?):zeb w' B v l bs:=by
 obtain ⟨xs,bk,h1,h2,rfl⟩:=h;exact ⟨xs,bk,za8 h1 fun g hg=>hk g (by simp[hg]),h2.keep fun g hg=>hk g (by simp[hg]),rfl⟩
theorem zeb.mem {v:Value} {l:List QT} {bs:List Nat} (h:zeb w B v l bs):∀g∈bs,B≤g∧g<w.heap.size:=by
 obtain ⟨xs,bk,h1,h2,rfl⟩:=h;intro g hg;simp only[List.mem_append,zat] at hg;rcases hg with hg | hg
 ·exact World.ownsRow.lt h1 g hg
 ·exact OQL.mem h2 g hg
theorem zeb.below {C:Nat} {v:Value} {l:List QT} {bs:List Nat} (h:zeb w B v l bs) (hb:Below C w w') (hC:w.heap.size≤C):zeb w' B v l bs:=h.keep fun g hg=>hb.block g (by have:=(h.mem g hg).2;omega)
theorem zeb.at_ {v:Value} {l:List QT} {bs:List Nat} (h:zeb w B v l bs):T.At bare w (fun g=>g∈bs) (.arr 10 l.length (zaw l)) v:=by
 obtain ⟨xs,bk,h1,h2,rfl⟩:=h;exact zj3 h1 (zga l) (fun g hg=>by simp[hg]) (AtL.keep (fun _ _=>rfl) (fun g hg=>by simp[hg]) h2.at_)
variable {k o b op:Int} {f t u:ByteArray} {lo hi:List Int} {ks:List QT} {us:List Value} {bs:List Nat}
theorem OQ.parts (h:OQ w B (.mk k o f t u lo hi b op ks) us bs):∃(vl vh vk:Value) (bk:List Nat),us=[.int .i64 k,.int .i64 o,.string f,.string t,.string u,vl,vh,.int .i64 b,.int .i64 op,vk]∧ze1 w B vl lo∧ze1 w B vh hi∧zeb w B vk ks bk∧bs=vl.ownBlock.toList++(vh.ownBlock.toList++bk):=by
 rw[OQ] at h;obtain ⟨vl,vh,vk,xs,bk,rfl,h1,h2,h3,h4,rfl⟩:=h;exact ⟨vl,vh,vk,_,rfl,h1,h2,⟨xs,bk,h3,h4,rfl⟩,rfl⟩
theorem OQ.of_parts {vl vh vk:Value} {bk:List Nat} (h1:ze1 w B vl lo) (h2:ze1 w B vh hi) (h3:zeb w B vk ks bk):OQ w B (.mk k o f t u lo hi b op ks) [.int .i64 k,.int .i64 o,.string f,.string t,.string u,vl,vh,.int .i64 b,.int .i64 op,vk] (vl.ownBlock.toList++(vh.ownBlock.toList++bk)):=by
 obtain ⟨xs,bk,h3,h4,rfl⟩:=h3;rw[OQ];exact ⟨vl,vh,vk,xs,bk,rfl,h1,h2,h3,h4,rfl⟩
end
def zje (w:World) (g o:Nat) (v0 v1 v2 v3 v4 v5 v6 v7 v8 v9:Value):World:=(((((((((w.setCell ⟨g,o,none⟩ v0).setCell ⟨g,o+1,none⟩ v1).setCell ⟨g,o+2,none⟩ v2).setCell ⟨g,o+3,none⟩ v3).setCell ⟨g,o+4,none⟩ v4).setCell ⟨g,o+5,none⟩ v5).setCell ⟨g,o+6,none⟩ v6).setCell ⟨g,o+7,none⟩ v7).setCell ⟨g,o+8,none⟩ v8).setCell ⟨g,o+9,none⟩ v9
theorem zko {w:World} {B g cap n i:Nat} {e:TypeId} {y uq z:List Value} (h:w.ownsRow B e 10 (.slice (some ⟨g,0,none⟩) n cap) n (y++(uq++z))) (hy:y.length=i*10) (hu:uq.length=10) (v0 v1 v2 v3 v4 v5 v6 v7 v8 v9:Value) :
 (zje w g (i*10) v0 v1 v2 v3 v4 v5 v6 v7 v8 v9).ownsRow B e 10 (.slice (some ⟨g,0,none⟩) n cap) n (y++([v0,v1,v2,v3,v4,v5,v6,v7,v8,v9]++z))∧w.grownBy (zje w g (i*10) v0 v1 v2 v3 v4 v5 v6 v7 v8 v9) (some g):=by
 obtain ⟨a0,h0⟩:=h.stored (i*10) v0;obtain ⟨a1,h1⟩:=a0.stored (i*10+1) v1;obtain ⟨a2,h2⟩:=a1.stored (i*10+2) v2;obtain ⟨a3,h3⟩:=a2.stored (i*10+3) v3;obtain ⟨a4,h4⟩:=a3.stored (i*10+4) v4;obtain ⟨a5,h5⟩:=a4.stored (i*10+5) v5;obtain ⟨a6,h6⟩:=a5.stored (i*10+6) v6;obtain ⟨a7,h7⟩:=a6.stored (i*10+7) v7;obtain ⟨a8,h8⟩:=a7.stored (i*10+8) v8;obtain ⟨a9,h9⟩:=a8.stored (i*10+9) v9;refine ⟨?_,(((((((((World.grownBy.refl w _).trans h0).trans h1).trans h2).trans h3).trans h4).trans h5).trans h6).trans h7).trans h8 |>.trans h9⟩;have he:∀(j:Nat) (v:Value) (r:List Value),(y++r).set (i*10+j) v=y++r.set j v:=fun j v r=>by rw[List.set_append_right _ _ (by omega),hy,Nat.add_sub_cancel_left]
 have he0:∀(v:Value) (r:List Value),(y++r).set (i*10) v=y++r.set 0 v:=fun v r=>by rw[List.set_append_right _ _ (by omega),hy,Nat.sub_self]
 rw[he0,he,he,he,he,he,he,he,he,he] at a9
 have hx:((((((((((uq++z).set 0 v0).set 1 v1).set 2 v2).set 3 v3).set 4 v4).set 5 v5).set 6 v6).set 7 v7).set 8 v8).set 9 v9=[v0,v1,v2,v3,v4,v5,v6,v7,v8,v9]++z:=by
  match uq,hu with
  | [u0,u1,u2,u3,u4,u5,u6,u7,u8,u9],_=>rfl
 rw[hx] at a9;exact a9
section
variable {w:World} {B:Nat} {k o b op:Int} {f t u:ByteArray} {lo hi:List Int} {us:List Value} {bs:List Nat}
theorem zeb.focus {v:Value} {l1 l2:List QT} {q:QT} (h:zeb w B v (l1++q::l2) bs) (hnd:bs.Nodup) (i n:Nat) (hi:l1.length=i) (hn:(l1++q::l2).length=n) :
 ∃(g cap:Nat) (y uq z:List Value) (bq:List Nat),v = .slice (some ⟨g,0,none⟩) n cap∧w.ownsRow B 28 10 (.slice (some ⟨g,0,none⟩) n cap) n (y++(uq++z))∧y.length=i*10∧
  OQ w B q uq bq∧bq.Nodup∧(∀x∈bq,x∈bs)∧g∈bs∧g∉bq∧
  ∀(w':World) (q':QT) (bq':List Nat) (v0 v1 v2 v3 v4 v5 v6 v7 v8 v9:Value),OQ w' B q' [v0,v1,v2,v3,v4,v5,v6,v7,v8,v9] bq'→OutR w bq w' bq'→
   ∃bs',zeb (zje w' g (i*10) v0 v1 v2 v3 v4 v5 v6 v7 v8 v9) B v (l1++q'::l2) bs'∧OutR w bs (zje w' g (i*10) v0 v1 v2 v3 v4 v5 v6 v7 v8 v9) bs'∧w'.grownBy (zje w' g (i*10) v0 v1 v2 v3 v4 v5 v6 v7 v8 v9) (some g):=by
 obtain ⟨xs,bk,ho,hl,rfl⟩:=h;rw[hn] at ho;have hn0:0<n:=by rw[←hn,List.length_append,List.length_cons];omega
 obtain ⟨g,cap,rfl,hgB,hgl⟩:=ho.form hn0;obtain ⟨y,z',b1,b',rfl,rfl,hy,hz'⟩:=OQL.cut hl;have hz2:=hz';rw[OQL] at hz2;obtain ⟨uq,z,bq,b2,rfl,rfl,hq,hz⟩:=hz2;have hyl:y.length=i*10:=by rw[hy.len,hi]
 simp only[Value.ownBlock,Option.toList_some,List.cons_append,List.nil_append,List.nodup_cons] at hnd;obtain ⟨hg,hnd⟩:=hnd;have hgq:g∉bq:=fun hm=>hg (by simp[hm]);have hd:=List.nodup_append.1 hnd;have hd2:=List.nodup_append.1 hd.2.1;refine ⟨g,cap,y,uq,z,bq,rfl,ho,hyl,hq,hd2.1,fun x hx=>by simp[Value.ownBlock,hx],by simp[Value.ownBlock],hgq,?_⟩;intro w' q' bq' v0 v1 v2 v3 v4 v5 v6 v7 v8 v9 hq' hO;have hlt:∀x∈b1++(bq++b2),x<w.heap.size:=fun x hx=>(hl.mem x hx).2;have keep:∀x,x<w.heap.size→x∉bq→w'.heap[x]?=w.heap[x]?:=fun x h1 h2=>hO.but.block x h1 h2;have ho':w'.ownsRow B 28 10 (.slice (some ⟨g,0,none⟩) n cap) n (y++(uq++z)):=za8 ho fun x hx=>by simp only[Value.ownBlock,Option.some.injEq] at hx;subst hx;exact keep _ hgl hgq
 obtain ⟨hp,hgr⟩:=zko ho' hyl hq.len v0 v1 v2 v3 v4 v5 v6 v7 v8 v9;generalize zje w' g (i*10) v0 v1 v2 v3 v4 v5 v6 v7 v8 v9=W at *;have hgb1:g∉b1:=fun hm=>hg (by simp[hm]);have hgb2:g∉b2:=fun hm=>hg (by simp[hm]);have hb1q:∀x∈b1,x∉bq:=fun x h1 h2=>hd.2.2 x h1 x (by simp[h2]) rfl;have hb2q:∀x∈b2,x∉bq:=fun x h1 h2=>hd2.2.2 x h2 x h1 rfl;have hgq':g∉bq':=fun hm=>(hO.sub g hm).elim hgq (fun h=>by omega);have hsz:=hO.but.size;have old:∀x,x<w.heap.size→x≠g→x∉bq→W.heap[x]?=w.heap[x]?:=fun x h1 h2 h3=>(hgr.block x (by omega) (fun e=>h2 (by injection e))).trans (keep x h1 h3);have hy':OQL W B l1 y b1:=hy.keep fun x hx=>old x (hlt x (by simp[hx])) (fun e=>hgb1 (e ▸ hx)) (hb1q x hx);have hz':OQL W B l2 z b2:=hz.keep fun x hx=>old x (hlt x (by simp[hx])) (fun e=>hgb2 (e ▸ hx)) (hb2q x hx);have hq'':OQ W B q' [v0,v1,v2,v3,v4,v5,v6,v7,v8,v9] bq':=hq'.keep fun x hx=>hgr.block x (hq'.mem x hx).2 (fun e=>hgq' (by injection e with e;rw[←e];exact hx));refine ⟨g::(b1++(bq'++b2)),⟨y++([v0,v1,v2,v3,v4,v5,v6,v7,v8,v9]++z),b1++(bq'++b2),?_,?_,rfl⟩,⟨?_,?_,?_⟩,hgr⟩
 ·have:(l1++q'::l2).length=n:=by rw[←hn];simp
  rw[this];exact hp
 ·refine hy'.join ?_;rw[OQL];exact ⟨_,z,bq',b2,rfl,rfl,hq'',hz'⟩
 ·rw[List.nodup_cons];refine ⟨by simp[hgb1,hgb2,hgq'],List.nodup_append.2 ⟨hd.1,List.nodup_append.2 ⟨hO.nd,hd2.2.1,fun a ha c hc e=>?_⟩,fun a ha c hc e=>?_⟩⟩
  ·subst e;exact (hO.sub a ha).elim (hb2q a hc) (fun h=>by have:=hlt a (by simp[hc]);omega)
  ·subst e;rcases List.mem_append.1 hc with hc | hc
   ·exact (hO.sub a hc).elim (hb1q a ha) (fun h=>by have:=hlt a (by simp[ha]);omega)
   ·exact hd.2.2 a ha a (by simp[hc]) rfl
 ·intro x hx;simp only[List.mem_cons,List.mem_append] at hx;simp only[Value.ownBlock,Option.toList_some,List.cons_append,List.nil_append,List.mem_cons,List.mem_append];rcases hx with hx | hx | hx | hx
  ·exact .inl (.inl hx)
  ·exact .inl (.inr (.inl hx))
  ·exact (hO.sub x hx).imp (fun h=>.inr (.inr (.inl h))) id
  ·exact .inl (.inr (.inr (.inr hx)))
 ·exact (hO.but.mono fun x hx=>by simp[Value.ownBlock,hx]).trans (But.grown hgr fun r e=>by injection e with e;simp[Value.ownBlock,e])
end
theorem OQ.forms {w:World} {B:Nat} {k o b op:Int} {f t u:ByteArray} {lo hi:List Int} {ks:List QT} {us:List Value} {bs:List Nat} (h1:OQ w B (.mk k o f t u lo hi b op ks) us bs) :
 ∃(cl ch ck:Nat) (al ah ak:Option Addr),us=[.int .i64 k,.int .i64 o,.string f,.string t,.string u,.slice al lo.length cl,.slice ah hi.length ch,.int .i64 b,.int .i64 op,.slice ak ks.length ck]:=by
 rw[OQ] at h1;obtain ⟨vl,vh,vk,xs,bk,rfl,h1,h2,h3,h4,rfl⟩:=h1;obtain ⟨al,cl,rfl⟩:=zav h1;obtain ⟨ah,ch,rfl⟩:=zav h2
 have h3':∃ak ck,vk = .slice ak ks.length ck:=by
  rcases h3.2 with ⟨rfl,h0⟩ | ⟨g,cap,cur,hv,_⟩
  ·exact ⟨none,0,by rw[h0]⟩
  ·exact ⟨_,_,hv⟩
 obtain ⟨ak,ck,rfl⟩:=h3';exact ⟨cl,ch,ck,al,ah,ak,rfl⟩
end Go.Proofs.YtplkbdncgkgppaaGreatDoor.Qry
end
