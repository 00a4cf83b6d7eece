/- Lemmas that the last text leans on. -/
import Derived.Test.YtplkbdncgkgppaaGreatDoorPack4
set_option linter.all false
section
namespace RewP
open SchP QryP AnaP QckP
section
variable (leaf:QT→Bool × Int) (wv:QT→Int→Int)
theorem zs5:∀{l:List QT} {k:QT},k∈l→zds leaf wv l=true→(!zac k || (zae leaf wv k).1)=true
 | [],k,h,_=>by cases h
 | q::l,k,h,hr=>by
  rw[zds,Bool.and_eq_true] at hr;rcases List.mem_cons.1 h with rfl | h
  ·exact hr.1
  ·exact zs5 h hr.2
theorem zs6:∀{l:List QT} {k:QT},k∈l→zdt leaf wv l=true→(decide (oc k≠3) || !(zae leaf wv k).1)=true
 | [],k,h,_=>by cases h
 | q::l,k,h,hr=>by
  rw[zdt,Bool.and_eq_true] at hr;rcases List.mem_cons.1 h with rfl | h
  ·exact hr.1
  ·exact zs6 h hr.2
theorem yay (out l:List QT) (k:QT) (ho:oc k=4∨oc k=3) (hm:k∈out):zd5 leaf wv (out++l) (out++k::l):=by
 refine ⟨?_,?_,fun s=>?_⟩
 ·rw[zcm,zcn,zcm,zcn,zds,zdt];have h1:=zs5 leaf wv hm;have h2:=zs6 leaf wv hm;generalize (!zac k || (zae leaf wv k).1)=x at *;generalize (decide (oc k≠3) || !(zae leaf wv k).1)=y at *;revert h1 h2;cases zds leaf wv out <;> cases zdt leaf wv out <;> cases zds leaf wv l <;> cases zdt leaf wv l <;> cases x <;> cases y <;> simp
 ·rw[List.any_append,List.any_append,zfl,zfl,List.any_cons,ze3];rcases ho with e | e
  ·have hn:zac k=true:=by unfold zac;rw[e];rfl
   have:out.any zac=true:=List.any_eq_true.2 ⟨k,hm,hn⟩;rw[this];simp
  ·have hn:zac k=false:=by unfold zac;rw[e];rfl
   rw[hn,e];simp
 ·rw[zdf,zdf,scM];rcases ho with e | e <;> rw[e] <;> simp
theorem zhq:∀(l out:List QT),zd5 leaf wv (zcf out l) (out++l)
 | [],out=>by rw[zcf,List.append_nil];exact zd5.refl leaf wv out
 | k::l,out=>by
  rw[zcf];split
  ·rename_i h
   obtain ⟨x,hx,hs⟩:=List.any_eq_true.1 h.2;obtain rfl:=(zkl x k).1 hs;exact (zhq l out).trans leaf wv (yay leaf wv out l x h.1 hx)
  ·have:=zhq l (out++[k]);rwa [List.append_assoc,List.singleton_append] at this
theorem zh7 {p:QT→Prop}:∀(l out:List QT),(∀k∈out,p k)→(∀k∈l,p k)→∀k∈zcf out l,p k
 | [],out,h,_=>by rw[zcf];exact h
 | k::l,out,h,hl=>by
  rw[zcf];split
  ·exact zh7 l out h (fun x hx=>hl x (List.mem_cons_of_mem _ hx))
  ·refine zh7 l (out++[k]) (fun x hx=>?_) (fun x hx=>hl x (List.mem_cons_of_mem _ hx));rcases List.mem_append.1 hx with hx | hx
   ·exact h x hx
   ·obtain rfl:x=k:=by simpa using hx
    exact hl x (by simp)
theorem zun {l m:List QT} (h:zjm l=some m):zd5 leaf wv m l:=by
 unfold zjm at h;split at h
 ·rename_i hc
  injection h with h;subst h;obtain ⟨hany,h2⟩:=hc;obtain ⟨x,hx,hpx⟩:=List.any_eq_true.1 hany;obtain ⟨a,l1,l2,_,hpa,e1,e2⟩:=List.exists_of_eraseP hx hpx;rw[e1] at h2;rw[e2];rw[e1];unfold zhn at hpa;simp only[Bool.and_eq_true,decide_eq_true_eq] at hpa;have hn:zac a=true:=by unfold zac;rw[hpa.1];rfl
  have hm:=zgw leaf wv a hpa.2
  have ho:(l1++l2).any zac=true:=by
   rw[List.filter_append,List.filter_cons_of_pos hn,List.length_append,List.length_cons] at h2;have:0<((l1++l2).filter zac).length:=by rw[List.filter_append,List.length_append];omega
   obtain ⟨y,hy⟩:=List.exists_mem_of_length_pos this;exact List.any_eq_true.2 ⟨y,(List.mem_filter.1 hy).1,(List.mem_filter.1 hy).2⟩
  refine ⟨?_,?_,fun s=>?_⟩
  ·rw[zcm,zcn,zcm,zcn,zds,zdt,hm,hpa.1];simp
  ·rw[ho,List.any_append,List.any_cons,hn];simp
  ·rw[zdf,zdf,scM,hpa.1];simp
 ·cases h
theorem zs7 {p:QT→Prop} {l m:List QT} (h:zjm l=some m) (hl:∀k∈l,p k):∀k∈m,p k:=by
 unfold zjm at h;split at h
 ·injection h with h;subst h;exact fun k hk=>hl k (List.mem_of_mem_eraseP hk)
 ·cases h
theorem zo4 (l:List QT) (hi:∀k∈l,oc k=4→zi4 k=true):zd5 leaf wv (zda l).1 l:=by
 unfold zda;dsimp only
 have h1:zd5 leaf wv ((zbt l.length l).getD l) l:=by
  cases ho:zbt l.length l with
  | none=>exact zd5.refl leaf wv l
  | some x=>exact zks leaf wv _ hi ho
 generalize (zbt l.length l).getD l=a at *;have h2:=zhq leaf wv a [];rw[List.nil_append] at h2;generalize zcf [] a=b at *
 have h3:zd5 leaf wv ((zjm b).getD b) b:=by
  cases ho:zjm b with
  | none=>exact zd5.refl leaf wv b
  | some x=>exact zun leaf wv ho
 exact h3.trans leaf wv (h2.trans leaf wv h1)
theorem zi5 {p:QT→Prop} (hp:∀k,oc k=4→p k→∀x∈kids k,kd k=8→p x) (l:List QT) (hi:∀k∈l,p k):∀k∈(zda l).1,p k:=by
 unfold zda;dsimp only
 have h1:∀k∈(zbt l.length l).getD l,p k:=by
  cases ho:zbt l.length l with
  | none=>exact hi
  | some x=>exact zkt hp _ hi ho
 generalize (zbt l.length l).getD l=a at *;have h2:=zh7 (p:=p) a [] (fun k hk=>by cases hk) h1;generalize zcf [] a=b at *
 cases ho:zjm b with
 | none=>exact h2
 | some x=>exact zs7 ho h2
theorem zhr {p:QT→Prop} (hp:∀k,oc k=4→p k→∀x∈kids k,kd k=8→p x) (hu:∀k,p k→oc k=4→zi4 k=true):∀(n:Nat) (l:List QT),(∀k∈l,p k)→zd5 leaf wv (zcv n l) l∧∀k∈zcv n l,p k
 | 0,l,h=>by rw[zcv];exact ⟨zd5.refl leaf wv l,h⟩
 | n+1,l,h=>by
  rw[zcv];have h1:=zo4 leaf wv l (fun k hk=>hu k (h k hk));have h2:=zi5 hp l h;split
  ·obtain ⟨h3,h4⟩:=zhr hp hu n (zda l).1 h2;exact ⟨h3.trans leaf wv h1,h4⟩
  ·exact ⟨h1,h2⟩
end
end RewP
end
section
namespace RewP
open SchP QryP AnaP QckP
def zes (n:Int):Prop:=-9223372036854775808≤n∧n≤9223372036854775807
section
variable (leaf:QT→Bool × Int) (wv:QT→Int→Int)
theorem yde:∀(l:List QT) (s:Int),zes s→zes (scM leaf wv s l)
 | [],s,h=>by rw[scM];exact h
 | k::l,s,h=>by
  rw[scM];refine yde l _ ?_;split
  ·exact zef _
  ·exact h
theorem zo5 (h1:∀q,zes (leaf q).2) (h2:∀q n,zes (wv q n)) (q:QT):zes (zae leaf wv q).2:=by
 cases q with
 | mk k o f t u l h b p ks=>
  rw[zae];split
  ·exact ⟨by decide,by decide⟩
  ·split
   ·exact ⟨by decide,by decide⟩
   ·split
    ·exact zef _
    ·split
     ·exact h2 _ _
     ·split
      ·exact yde leaf wv ks 0 ⟨by decide,by decide⟩
      ·exact h1 _
theorem zmp (o:Int) (q:QT):zi4 (withO o q)=zi4 q:=by cases q;rw[withO,zi4,zi4]
theorem znl (l:List QT) (q:QT):kids (withKids l q)=l∧kd (withKids l q)=kd q:=by cases q;exact ⟨rfl,rfl⟩
def zjy (s:Bool) (x q:QT):Prop:=(zae leaf wv x).1=(zae leaf wv q).1∧(s=true→(zae leaf wv x).1=true→(zae leaf wv x).2=(zae leaf wv q).2)∧(s=false→zi4 x=true)
theorem zet {q:QT} (h:¬kd q=8):zi4 q=true:=by
 cases q with
 | mk k o f t u l h' b p ks=>
  have h:¬k=8:=h;rw[zi4,decide_eq_true h];rfl
theorem zfa (s:Bool) (q:QT) (h:(zae leaf wv q).1=false):zjy leaf wv s zdv q:=by
 have hn:=zcl leaf wv zdv rfl;refine ⟨by rw[hn,h],fun _ h2=>?_,fun _=>zet (by decide)⟩;rw[hn] at h2;cases h2
theorem yii (k:QT) (h:oc k=1∨oc k=4∨oc k=2):okM leaf wv [k]=(zae leaf wv k).1:=by
 rw[okM,zds,zdt,zds,zdt,ze3,ze3,List.any_cons,List.any_nil];unfold zac;rcases h with e | e | e <;> rw[e] <;> cases (zae leaf wv k).1 <;> rfl
theorem ydf {l:List QT} {os:List Int} (h:zl3 l os=true):∃k∈l,oc k∈os:=by
 obtain ⟨k,hk,h2⟩:=List.any_eq_true.1 h;exact ⟨k,hk,by simpa using h2⟩
theorem zw0 {l:List QT} {os:List Int} {k:QT} (hk:k∈l) (h:oc k∈os):zl3 l os=true:=List.any_eq_true.2 ⟨k,hk,by simpa using h⟩
theorem zo6 {l:List QT} (h:∀k∈l,oc k=3):okM leaf wv l=false:=by
 have h1:l.any zac=false:=List.any_eq_false.2 (fun k hk=>by unfold zac;rw[h k hk];decide)
 have h2:∀l:List QT,(∀k∈l,oc k=3)→ze3 leaf wv l=false:=by
  intro l
  induction l with
  | nil=>intro _;rw[ze3]
  | cons k l ih=>intro h;rw[ze3,h k (by simp),ih (fun x hx=>h x (List.mem_cons_of_mem _ hx))];simp
 rw[okM,h1,h2 l h];simp
theorem zs8 (s:Bool) (q:QT) (l:List QT) (h8:kd q=8) (hr:∀k,zes (zae leaf wv k).2) (ho:okM leaf wv l=okM leaf wv (kids q)) (hs:s=true→scM leaf wv 0 l=scM leaf wv 0 (kids q))
 (hk:∀k∈l,1≤oc k∧oc k≤4) (hu:s=false→∀k∈l,(oc k=2∨oc k=3∨oc k=4)∧zi4 k=true) :
 zjy leaf wv s (if zl3 l [1,4,2] then zs3 s q l else zdv) q:=by
 have hq:=zde leaf wv q h8
 have hw:zjy leaf wv s (withKids l q) q∨zl3 l [1,4,2]=false:=by
  by_cases hh:zl3 l [1,4,2]=true
  ·left;obtain ⟨e1,e2⟩:=znl l q;have hm:=zde leaf wv (withKids l q) (e2.trans h8);rw[e1] at hm;refine ⟨by rw[hm,hq,ho],fun h _=>by rw[hm,hq];exact hs h,fun h=>?_⟩
   cases q with
   | mk k o f t u l' h' b p ks=>
    rw[withKids,zi4,zwy (hu h)];obtain ⟨x,hx,hx2⟩:=ydf hh;have:=(hu h x hx).1
    have h3:oc x∈([2,4]:List Int):=(by simp only[List.mem_cons,List.not_mem_nil,or_false] at hx2 ⊢;omega)
    rw[zw0 hx h3];simp
  ·right
   cases hb:zl3 l [1,4,2] with
   | true=>exact absurd hb hh
   | false=>rfl
 rcases hw with hw | hw
 ·by_cases hh:zl3 l [1,4,2]=true
  ·rw[if_pos hh];unfold zs3;split
   ·rename_i hc0
    obtain ⟨hl1,hc1⟩:=hc0
    match l,hl1 with
    | [x],_=>
     have hc:=hc1 x (by simp);show zjy leaf wv s x q
     have hx2:oc x∈([1,4,2]:List Int):=by
      obtain ⟨y,hy,hy2⟩:=ydf hh;obtain rfl:y=x:=by simpa using hy
      exact hy2
     have h3:oc x=1∨oc x=4∨oc x=2:=by simpa using hx2
     have ha:=yii leaf wv x h3;refine ⟨by rw[hq,←ho,ha],fun hs1 h1=>?_,fun hf=>(hu hf x (by simp)).2⟩
     have h4:oc x≠4:=by
      rcases hc with hc | hc
      ·exact hc
      ·rw[hs1] at hc;cases hc
     rw[hq];show _=scM leaf wv 0 (kids q);rw[←hs hs1,scM,scM,h1]
     have h5:(decide (oc x=1) || decide (oc x=2))=true:=by
      rcases h3 with e | e | e
      ·rw[e];rfl
      ·exact absurd e h4
      ·rw[e];rfl
     rw[h5,Bool.and_self,if_pos rfl,Int.zero_add,zrh (hr x).1 (hr x).2]
   ·exact hw
  ·rw[if_neg hh];refine zfa leaf wv s q ?_;rw[hq];show okM leaf wv (kids q)=false;rw[←ho];refine zo6 leaf wv (fun k hkl=>?_);have h1:=hk k hkl;have h2:¬(oc k=1∨oc k=4∨oc k=2):=fun e=>hh (zw0 hkl (by simpa using e));omega
 ·rw[hw];refine zfa leaf wv s q ?_;rw[hq];show okM leaf wv (kids q)=false;rw[←ho];refine zo6 leaf wv (fun k hkl=>?_);have h1:=hk k hkl;have h2:¬(oc k=1∨oc k=4∨oc k=2):=fun e=>by rw[zw0 (os:=[1,4,2]) hkl (by simpa using e)] at hw;cases hw
  omega
theorem zuo (s:Bool) (q:QT) (h8:kd q=8) (hr:∀k,zes (zae leaf wv k).2) (hk:∀k∈kids q,(1≤oc k∧oc k≤4)∧(oc k=4→zi4 k=true)) (hu:s=false→∀k∈kids q,zi4 k=true):zjy leaf wv s (zi3 s q) q:=by
 unfold zi3;split
 ·rename_i h
  refine zfa leaf wv s q ?_;rw[zde leaf wv q h8];show okM leaf wv (kids q)=false;rw[okM,zwx leaf wv _ h,Bool.false_and]
 ·rename_i h
  dsimp only
  have hf:∀k∈kids q,kd k=2→zac k=false:=fun k hkl h2=>by
   cases hn:zac k with
   | false=>rfl
   | true=>exact absurd (List.any_eq_true.2 ⟨k,hkl,by rw[hn,h2];rfl⟩) h
  have h1:=zko leaf wv (kids q) hf;have hm1:∀k∈(kids q).filter (fun k=>decide (kd k≠2)),k∈kids q:=fun k hkl=>(List.mem_filter.1 hkl).1;generalize (kids q).filter (fun k=>decide (kd k≠2))=l1 at *
  cases s with
  | true=>
   rw[if_pos rfl]
   obtain ⟨h3,h4⟩:=zhr leaf wv (p:=fun k=>(1≤oc k∧oc k≤4)∧(oc k=4→zi4 k=true)) (fun k h4 hp x hx hk8=>by
    have:=zj4 (zkr (hp.2 h4) hk8).1 x hx
    exact ⟨by omega,fun _=>this.2⟩) (fun k hp h4=>hp.2 h4) (zal l1+1) l1 (fun k hkl=>hk k (hm1 k hkl))
   exact zs8 leaf wv true q _ h8 hr (h3.ok.trans h1.ok) (fun _=>(h3.2.2 0).trans (h1.2.2 0)) (fun k hkl=>(h4 k hkl).1) (fun h=>by cases h)
  | false=>
   rw[if_neg (show ¬(false=true) by decide)]
   have hb:∀k∈zc0 l1,(oc k=2∨oc k=3∨oc k=4)∧zi4 k=true:=by
    have hmap:∀k∈l1.map zb7,(oc k=2∨oc k=3∨oc k=4)∧zi4 k=true:=fun k hkl=>by
     obtain ⟨x,hx,rfl⟩:=List.mem_map.1 hkl;have h5:=(hk x (hm1 x hx)).1;have h6:=hu rfl x (hm1 x hx);unfold zb7;split
     ·exact ⟨by rw[zj3];simp,by rw[zmp];exact h6⟩
     ·exact ⟨by omega,h6⟩
    unfold zc0;split
    ·exact fun k hkl=>hmap k (List.mem_filter.1 hkl).1
    ·exact hmap
   obtain ⟨h3,h4⟩:=zhr leaf wv (p:=fun k=>(oc k=2∨oc k=3∨oc k=4)∧zi4 k=true) (fun k h4 hp x hx hk8=>zj4 (zkr hp.2 hk8).1 x hx) (fun k hp _=>hp.2) (zal (zc0 l1)+1) (zc0 l1) hb;exact zs8 leaf wv false q _ h8 hr (h3.ok.trans ((yaw leaf wv l1).trans h1.ok)) (fun h=>by cases h) (fun k hkl=>by have:=(h4 k hkl).1;omega) (fun _=>h4)
end
end RewP
end
section
namespace RewP
open SchP QryP AnaP QckP
def zdw:QT→QT | .mk k _ f t u l h b p _=>.mk k 0 f t u l h b p []
structure LeafOk (l:List FT) (leaf:QT→Bool × Int) (wv:QT→Int→Int):Prop where
 range:∀q,zes (leaf q).2
 wrange:∀q n,zes (wv q n)
 term0:∀q f,(kd q=3∨kd q=4)→zbc l (fd q)=some f→f.kind=1→(zf6 f.chain (tx q)).1.length=0→(leaf (zdw q)).1=false
 term1:∀q f k,(kd q=3∨kd q=4)→zbc l (fd q)=some f→f.kind=1→(zf6 f.chain (tx q)).1.length≠0→(k=3∨k=4)→leaf (zdw (withK k q))=leaf (zdw q)
 terms0:∀q,kd q=6→gtL (tx q).data.toList (up q).data.toList=true→(leaf (zdw q)).1=false
 terms1:∀q,kd q=6→tx q=up q→zrg l (fd q)=2→leaf (zdw (withT q))=leaf (zdw q)
 range0:∀q,kd q=7→zg8 (lo q) (hi q)=true→(leaf (zdw q)).1=false
section
variable {l:List FT} {leaf:QT→Bool × Int} {wv:QT→Int→Int}
theorem zbu (q:QT) (h:3≤kd q∧kd q≤7):zae leaf wv q=leaf (zdw q):=by
 cases q with
 | mk k o f t u l' h' b p ks=>
  have h:3≤k∧k≤7:=h;rw[zae,if_neg (by omega),if_neg (by omega),if_neg (by omega),if_neg (by omega),if_neg (by omega)];rfl
theorem zeu (q:QT) (h:kd q=9):zae leaf wv q=((zg9 leaf wv (kids q)).1,zd4 ((zg9 leaf wv (kids q)).2*bo q)):=by
 cases q with
 | mk k o f t u l' h' b p ks=>
  obtain rfl:k=9:=h;rw[zae];rfl
theorem zjp (q:QT) (h:kd q=10):zae leaf wv q=((zg9 leaf wv (kids q)).1,wv (zdw q) (zg9 leaf wv (kids q)).2):=by
 cases q with
 | mk k o f t u l' h' b p ks=>
  obtain rfl:k=10:=h;rw[zae];rfl
inductive Kids (s:Bool):List QT→List QT→Prop
 | nil:Kids s [] []
 | cons {x q:QT} {xs qs:List QT} (ho:oc x=oc q) (hg:zjy leaf wv (s && decide (oc q≠4) && decide (oc q≠3)) x q) (h:Kids s xs qs):Kids s (x::xs) (q::qs)
theorem Kids.same {s:Bool} {xs qs:List QT} (h:Kids (leaf:=leaf) (wv:=wv) s xs qs):okM leaf wv xs=okM leaf wv qs∧(s=true→∀n,scM leaf wv n xs=scM leaf wv n qs):=by
 have key:zds leaf wv xs=zds leaf wv qs∧zdt leaf wv xs=zdt leaf wv qs∧xs.any zac=qs.any zac∧ze3 leaf wv xs=ze3 leaf wv qs∧(s=true→∀n,scM leaf wv n xs=scM leaf wv n qs):=by
  induction h with
  | nil=>exact ⟨rfl,rfl,rfl,rfl,fun _ _=>rfl⟩
  | @cons x q xs qs ho hg _ ih=>
   obtain ⟨i1,i2,i3,i4,i5⟩:=ih;have hn:zac x=zac q:=by unfold zac;rw[ho]
   refine ⟨?_,?_,?_,?_,fun hs n=>?_⟩
   ·rw[zds,zds,hn,hg.1,i1]
   ·rw[zdt,zdt,ho,hg.1,i2]
   ·rw[List.any_cons,List.any_cons,hn,i3]
   ·rw[ze3,ze3,hn,ho,hg.1,i4]
   ·rw[scM,scM,i5 hs,hg.1,ho];congr 1
    by_cases hc:((zae leaf wv q).1 && (decide (oc q=1) || decide (oc q=2)))=true
    ·rw[if_pos hc,if_pos hc];simp only[Bool.and_eq_true,Bool.or_eq_true,decide_eq_true_eq] at hc
     have h43:(s && decide (oc q≠4) && decide (oc q≠3))=true:=(by rw[hs];rcases hc.2 with e | e <;> rw[e] <;> rfl)
     rw[hg.2.1 h43 (hg.1.trans hc.1)]
    ·rw[if_neg hc,if_neg hc]
 exact ⟨by rw[okM,okM,key.1,key.2.1,key.2.2.1,key.2.2.2.1],key.2.2.2.2⟩
theorem Kids.mem {s:Bool} {xs qs:List QT} (h:Kids (leaf:=leaf) (wv:=wv) s xs qs):∀x∈xs,(∃q∈qs,oc x=oc q)∧(oc x=4→zi4 x=true)∧(s=false→zi4 x=true):=by
 induction h with
 | nil=>intro x hx;cases hx
 | @cons x q xs qs ho hg _ ih=>
  intro y hy;rcases List.mem_cons.1 hy with rfl | hy
  ·exact ⟨⟨q,by simp,ho⟩,fun h4=>hg.2.2 (by rw[←ho,h4];simp),fun hs=>hg.2.2 (by rw[hs];rfl)⟩
  ·obtain ⟨⟨z,hz,e⟩,h2⟩:=ih y hy;exact ⟨⟨z,List.mem_cons_of_mem _ hz,e⟩,h2⟩
theorem zjy.trans {s:Bool} {x y q:QT} (h:zjy leaf wv s x y) (g1:(zae leaf wv y).1=(zae leaf wv q).1) (g2:s=true→(zae leaf wv y).1=true→(zae leaf wv y).2=(zae leaf wv q).2):zjy leaf wv s x q:=
 ⟨h.1.trans g1,fun hs h1=>(h.2.1 hs h1).trans (g2 hs (h.1.symm.trans h1)),h.2.2⟩
theorem zgf {s:Bool} {x q:QT} (h:zae leaf wv x=zae leaf wv q) (hu:s=false→zi4 x=true):zjy leaf wv s x q:=⟨by rw[h],fun _ _=>by rw[h],hu⟩
theorem zup {s:Bool} {x q:QT} (o:Int) (h:zjy leaf wv s x q):zjy leaf wv s (withO o x) q:=by
 obtain ⟨h1,h2,h3⟩:=h;have hm:=zjo leaf wv o x;exact ⟨by rw[hm];exact h1,by rw[hm];exact h2,fun hs=>by rw[zmp];exact h3 hs⟩
theorem zmq (xs:List QT) (q:QT):zdw (withKids xs q)=zdw q:=by cases q;rfl
theorem zcg (xs:List QT) (q:QT):kd (withKids xs q)=kd q∧fd (withKids xs q)=fd q∧tx (withKids xs q)=tx q∧up (withKids xs q)=up q∧lo (withKids xs q)=lo q∧hi (withKids xs q)=hi q∧bo (withKids xs q)=bo q∧kids (withKids xs q)=xs:=by
 cases q;exact ⟨rfl,rfl,rfl,rfl,rfl,rfl,rfl,rfl⟩
theorem zgg {s:Bool} (xs:List QT) (q:QT) (h:3≤kd q∧kd q≤7):zjy leaf wv s (withKids xs q) q:=by
 have e:=(zcg xs q).1;refine zgf ?_ (fun _=>zet (by omega));rw[zbu q h,zbu (withKids xs q) (by omega),zmq]
variable (L:LeafOk l leaf wv)
theorem yij (s:Bool) (q x k:QT) (h:kd q=10) (hq:kids q=[k]) (hg:zjy leaf wv s x k):zjy leaf wv s (zho l s (withKids [x] q)) q:=by
 obtain ⟨e1,e2,e3,e4,e5,e6,e7,e8⟩:=zcg [x] q;unfold zho;rw[if_neg (by omega),if_neg (by omega),if_neg (by omega),if_pos (by omega),e8,e1,e7];dsimp only;have mq:=zjp (leaf:=leaf) (wv:=wv) q h;rw[hq,zg9] at mq;split
 ·rename_i hc
  refine ⟨by rw[mq];exact hg.1,fun hs h1=>?_,hg.2.2⟩;rcases hc with hc | hc | hc
  ·rw[zcl leaf wv x hc] at h1;cases h1
  ·rw[hs] at hc;cases hc
  ·omega
 ·rename_i hc
  have hs:s=true:=by
   cases s with
   | true=>rfl
   | false=>exact absurd (.inr (.inl rfl)) hc
  rw[if_neg (by omega)];have hx9:kd (withKids [x] q)=10:=by omega
  have mb:=zjp (leaf:=leaf) (wv:=wv) (withKids [x] q) hx9;rw[e8,zg9,zmq] at mb;refine ⟨by rw[mb,mq];exact hg.1,fun _ h1=>?_,fun _=>zet (by omega)⟩;rw[mb] at h1;rw[mb,mq];show wv (zdw q) (zae leaf wv x).2=wv (zdw q) (zae leaf wv k).2;rw[hg.2.1 hs h1]
include L
theorem yik (s:Bool) (q:QT) (xs:List QT) (h:kd q=3∨kd q=4):zjy leaf wv s (zho l s (withKids xs q)) q:=by
 obtain ⟨e1,e2,e3,e4,e5,e6,e7,e8⟩:=zcg xs q;have h7:3≤kd q∧kd q≤7:=by omega
 unfold zho;rw[if_pos (by rw[e1];exact h),e2,e3]
 cases hf:zbc l (fd q) with
 | none=>exact zgg xs q h7
 | some f=>
  dsimp only;split
  ·rename_i hk
   split
   ·rename_i h0
    refine zfa leaf wv s q ?_;rw[zbu q h7];exact L.term0 q f h hf hk h0
   ·rename_i h0
    have key:∀k,(k=3∨k=4)→zjy leaf wv s (withK k (withKids xs q)) q:=fun k hk2=>by
     have ek:kd (withK k (withKids xs q))=k:=by cases q;rfl
     have eb:zdw (withK k (withKids xs q))=zdw (withK k q):=by cases q;rfl
     refine zgf ?_ (fun _=>zet (by omega));rw[zbu q h7,zbu _ (by omega),eb];exact L.term1 q f k h hf hk h0 hk2
    split
    ·exact key 3 (.inl rfl)
    ·exact key 4 (.inr rfl)
  ·exact zgg xs q h7
theorem yjn (s:Bool) (q:QT) (xs:List QT) (h:kd q=6):zjy leaf wv s (zho l s (withKids xs q)) q:=by
 obtain ⟨e1,e2,e3,e4,e5,e6,e7,e8⟩:=zcg xs q;have h7:3≤kd q∧kd q≤7:=by omega
 unfold zho;rw[if_neg (by omega),if_pos (by omega),e2,e3,e4];split
 ·rename_i hg
  refine zfa leaf wv s q ?_;rw[zbu q h7];exact L.terms0 q h hg
 ·split
  ·rename_i hc
   have ek:kd (withT (withKids xs q))=3:=by cases q;rfl
   have eb:zdw (withT (withKids xs q))=zdw (withT q):=by cases q;rfl
   refine zgf ?_ (fun _=>zet (by omega));rw[zbu q h7,zbu _ (by omega),eb];exact L.terms1 q h hc.1 hc.2
  ·exact zgg xs q h7
theorem yjo (s:Bool) (q:QT) (xs:List QT) (h:kd q=7):zjy leaf wv s (zho l s (withKids xs q)) q:=by
 obtain ⟨e1,e2,e3,e4,e5,e6,e7,e8⟩:=zcg xs q;have h7:3≤kd q∧kd q≤7:=by omega
 unfold zho;rw[if_neg (by omega),if_neg (by omega),if_pos (by omega),e5,e6];split
 ·rename_i hg
  refine zfa leaf wv s q ?_;rw[zbu q h7];exact L.range0 q h hg
 ·exact zgg xs q h7
theorem yjp (s:Bool) (q:QT) (xs:List QT) (h:kd q=8) (hk:Kids (leaf:=leaf) (wv:=wv) s xs (kids q)) (ho:∀k∈kids q,1≤oc k∧oc k≤4):zjy leaf wv s (zho l s (withKids xs q)) q:=by
 obtain ⟨e1,e2,e3,e4,e5,e6,e7,e8⟩:=zcg xs q;unfold zho;rw[if_neg (by omega),if_neg (by omega),if_neg (by omega),if_neg (by omega),if_pos (by omega)];have hm:=hk.mem;have hx8:kd (withKids xs q)=8:=by omega
 have hb:=zuo leaf wv s (withKids xs q) hx8 (fun k=>zo5 leaf wv L.range L.wrange k) (by
  rw[e8];intro k hkx;obtain ⟨⟨z,hz,e⟩,h4,_⟩:=hm k hkx
  exact ⟨by rw[e];exact ho z hz,h4⟩) (by
  rw[e8]
  exact fun hs k hkx=>(hm k hkx).2.2 hs)
 have hsame:=hk.same;have m1:=zde leaf wv (withKids xs q) hx8;have m2:=zde leaf wv q h;rw[e8] at m1;exact hb.trans (by rw[m1,m2];exact hsame.1) (fun hs _=>by rw[m1,m2];exact hsame.2 hs 0)
theorem yjq (s:Bool) (q x k:QT) (h:kd q=9) (hq:kids q=[k]) (hb:0≤bo q) (hg:zjy leaf wv s x k):zjy leaf wv s (zho l s (withKids [x] q)) q:=by
 obtain ⟨e1,e2,e3,e4,e5,e6,e7,e8⟩:=zcg [x] q;unfold zho;rw[if_neg (by omega),if_neg (by omega),if_neg (by omega),if_pos (by omega),e8,e1,e7];dsimp only;have mq:=zeu (leaf:=leaf) (wv:=wv) q h;rw[hq,zg9] at mq;have hin:=zo5 leaf wv L.range L.wrange;split
 ·rename_i hc
  refine ⟨by rw[mq];exact hg.1,fun hs h1=>?_,hg.2.2⟩;rw[mq];show (zae leaf wv x).2=zd4 ((zae leaf wv k).2*bo q);rcases hc with hc | hc | hc
  ·rw[zcl leaf wv x hc] at h1;cases h1
  ·rw[hs] at hc;cases hc
  ·rw[hg.2.1 hs h1,hc.2,Int.mul_one,zrh (hin k).1 (hin k).2]
 ·rename_i hc
  have hs:s=true:=by
   cases s with
   | true=>rfl
   | false=>exact absurd (.inr (.inl rfl)) hc
  split
  ·rename_i hc2
   have mx:=zeu (leaf:=leaf) (wv:=wv) x hc2.2.1
   have hx9:kd (withB (bo x*bo q) x)=9:=by
    have:kd (withB (bo x*bo q) x)=kd x:=by cases x;rfl
    omega
   have mb:=zeu (leaf:=leaf) (wv:=wv) (withB (bo x*bo q) x) hx9;have ek:kids (withB (bo x*bo q) x)=kids x:=by cases x;rfl
   have eb:bo (withB (bo x*bo q) x)=bo x*bo q:=by cases x;rfl
   rw[ek,eb] at mb;have hx1:=hg.1;have hx2:=hg.2.1 hs;rw[mx] at hx1 hx2;refine ⟨by rw[mb,mq];exact hx1,fun _ h1=>?_,fun hf=>by rw[hs] at hf;cases hf⟩;rw[mb] at h1;rw[mb,mq];show zd4 ((zg9 leaf wv (kids x)).2*(bo x*bo q))=zd4 ((zae leaf wv k).2*bo q);rw[←hx2 h1];show _=zd4 (zd4 ((zg9 leaf wv (kids x)).2*bo x)*bo q);by_cases hbx:0≤bo x
   ·rw[zuk _ _ _ hbx hb]
   ·rw[zkn _ _ _ hb]
  ·have hx9:kd (withKids [x] q)=9:=by omega
   have mb:=zeu (leaf:=leaf) (wv:=wv) (withKids [x] q) hx9;rw[e8,e7,zg9] at mb;refine ⟨by rw[mb,mq];exact hg.1,fun _ h1=>?_,fun _=>zet (by omega)⟩;rw[mb] at h1;rw[mb,mq];show zd4 ((zae leaf wv x).2*bo q)=zd4 ((zae leaf wv k).2*bo q);rw[hg.2.1 hs h1]
end
end RewP
end
