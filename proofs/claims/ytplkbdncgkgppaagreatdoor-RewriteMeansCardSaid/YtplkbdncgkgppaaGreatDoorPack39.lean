/- Lemmas that the last text leans on. -/
import Derived.Test.YtplkbdncgkgppaaGreatDoorPack13
set_option linter.all false
section
namespace QryP
open SchP
def zhy {α:Type} (n:Nat):E (α × R)→Prop
 | .ok (_,r)=>r.length≤n
 | .error (p,c)=>p≤n∧(c=180∨c=182)
theorem zhy.more {α:Type} {n m:Nat} {x:E (α × R)} (h:zhy n x) (hn:n≤m):zhy m x:=by
 match x,h with
 | .ok (_,r),h=>exact Nat.le_trans h hn
 | .error (p,c),h=>exact ⟨Nat.le_trans h.1 hn,h.2⟩
theorem zlr (p:UInt8→Bool):∀r:R,(r.dropWhile p).length≤r.length
 | []=>Nat.le_refl _
 | c::r=>by rw[List.dropWhile_cons];split <;> simp[Nat.le_succ_of_le,zlr p r]
theorem zba (r:R):(zah r).length≤r.length:=zlr _ r
theorem zgq (p:UInt8→Bool):∀r:R,(r.takeWhile p).length+(r.dropWhile p).length=r.length
 | []=>rfl
 | c::r=>by rw[List.takeWhile_cons,List.dropWhile_cons];split <;> simp[←zgq p r];omega
theorem za3 {c:UInt8} {r t:R} (h:zam c r = .ok t):t.length<r.length:=by
 unfold zam at h;have:=zba r;revert h
 cases hs:zah r with
 | nil=>intro h;cases h
 | cons x u=>
  dsimp only;split
  ·intro h;cases h;rw[hs] at this;simp at this;omega
  ·intro h;cases h
theorem zoh {c:UInt8} {r:R} {p:Nat} {n:Int} (h:zam c r = .error (p,n)):p≤r.length∧n=180:=by
 unfold zam at h;have:=zba r;revert h
 cases hs:zah r with
 | nil=>intro h;cases h;exact ⟨Nat.zero_le _,rfl⟩
 | cons x u=>
  dsimp only;split
  ·intro h;cases h
  ·intro h;cases h;rw[hs] at this;exact ⟨by simpa using this,rfl⟩
theorem zin (r:R):zhy r.length (zei r):=by
 unfold zei;have h1:=zba r;have h2:=zlr zc7 (zah r);split
 ·exact Nat.le_trans h2 h1
 ·exact ⟨h1,.inl rfl⟩
section
variable {num:Int→R} {par:R→Option Int}
theorem yfb (f:R):(zk1 f).length≤f.length:=by unfold zk1;split <;> simp
theorem zg3 (r:R):zhy r.length (zha num par r):=by
 unfold zha;have h1:=zba r;have h2:=yfb (zah r);have h3:=zlr digB (zk1 (zah r));split
 ·exact ⟨h1,.inl rfl⟩
 ·split
  ·exact Nat.le_trans h3 (Nat.le_trans h2 h1)
  ·exact ⟨h1,.inl rfl⟩
theorem zt3:∀(m m':Nat) (r:R),r.length<m→r.length<m'→zhu num par m r=zhu num par m' r
 | 0,_,r,h,_=>by omega
 | _,0,r,_,h=>by omega
 | m+1,m'+1,r,h,h'=>by
  unfold zhu;have hn:=zg3 (num:=num) (par:=par) r
  match hx:zha num par r,hn with
  | .error e,_=>rfl
  | .ok (n,r1),hn=>
    dsimp only;have hs:=zba r1
    cases hk:zah r1 with
    | nil=>rfl
    | cons c t=>
     dsimp only;split
     ·rfl
     ·split
      ·rfl
      ·rename_i hne
       rw[hk] at hs;replace hn:r1.length≤r.length:=hn;have hlt:(c::t).length<r1.length:=by omega
       rw[zt3 m m' (c::t) (by omega) (by omega)]
theorem zj9:∀(m:Nat) (r:R),r.length<m→zhy r.length (zhu num par m r)
 | 0,r,h=>by omega
 | m+1,r,h=>by
  unfold zhu;have hn:=zg3 (num:=num) (par:=par) r
  match hx:zha num par r,hn with
  | .error (p,c),hn=>exact hn
  | .ok (n,r1),hn=>
    replace hn:r1.length≤r.length:=hn;dsimp only;have hs:=zba r1
    cases hk:zah r1 with
    | nil=>exact Nat.zero_le _
    | cons c t=>
     rw[hk] at hs;dsimp only;split
     ·exact Nat.le_trans hs hn
     ·split
      ·exact ⟨hn,.inl rfl⟩
      ·have ih:=zj9 m (c::t) (by omega)
       match hy:zhu num par m (c::t),ih with
       | .error (p,k),ih=>exact ⟨by have:=ih.1;omega,ih.2⟩
       | .ok (l,r2),ih=>exact Nat.le_trans ih (Nat.le_trans hs hn)
end
theorem zls {n:Nat} {c:UInt8} {x:E (R × R)} (h:zhy n x):zhy n (zgl c x):=by
 match x,h with
 | .ok (b,r),h=>exact h
 | .error (p,k),h=>exact h
theorem zt4 (at_:Nat):∀(k:Nat) (r:R),r.length≤k→zhy (max at_ r.length) (ze4 at_ r)
 | 0,r,h=>by obtain rfl:=List.eq_nil_of_length_eq_zero (Nat.le_zero.1 h);exact ⟨Nat.le_max_left _ _,.inl rfl⟩
 | k+1,[],h=>⟨Nat.le_max_left _ _,.inl rfl⟩
 | k+1,c::t,h=>by
  have hm:at_≤max at_ (c::t).length:=Nat.le_max_left _ _;have ih:∀t':R,t'.length≤t.length→zhy (max at_ (c::t).length) (ze4 at_ t'):=fun t' ht=>(zt4 at_ k t' (by simp at h;omega)).more (by simp;omega);rw[ze4.eq_def];dsimp only;split
  ·show t.length≤max at_ (c::t).length;simp;omega
  ·split
   ·exact ⟨hm,.inl rfl⟩
   ·split
    ·exact zls (ih t (Nat.le_refl _))
    ·cases t with
     | nil=>exact ⟨hm,.inl rfl⟩
     | cons d t'=>
      dsimp only;split
      ·exact zls (ih t' (by simp))
      ·match t' with
       | []=>exact ⟨hm,.inl rfl⟩
       | [a]=>exact ⟨hm,.inl rfl⟩
       | a::b::t''=>
        dsimp only;split
        ·split
         ·exact zls (ih t'' (by simp;omega))
         ·exact ⟨hm,.inl rfl⟩
        ·exact ⟨hm,.inl rfl⟩
theorem zlt (r:R):zhy r.length (zfc r):=by
 unfold zfc;have hs:=zba r
 cases hw:zam 34 r with
 | error e=>
  obtain ⟨p,n⟩:=e;have:=zoh hw;exact ⟨this.1,.inl this.2⟩
 | ok t=>
  have hl:=za3 hw;dsimp only;have h:=zt4 (zah r).length t.length t (Nat.le_refl _)
  match hx:ze4 (zah r).length t,h with
  | .error (p,n),h=>exact ⟨by have:=h.1;omega,h.2⟩
  | .ok (b,r'),h=>
    replace h:r'.length≤_:=h;show r'.length≤r.length;omega
theorem zlu {f:Int→R} {w:R}:∀{n:Nat} {k:Int},zdg f w n=some k→1≤k∧k≤n∧f k=w
 | 0,k,h=>by cases h
 | n+1,k,h=>by
  rw[zdg] at h
  cases hx:zdg f w n with
  | some i=>
   rw[hx] at h;cases h;have:=zlu hx;exact ⟨this.1,by omega,this.2.2⟩
  | none=>
   rw[hx] at h;dsimp only at h;split at h
   ·cases h;exact ⟨by omega,by omega,by assumption⟩
   ·cases h
theorem zff (d:Nat) (r:R):zhy r.length (zdo d r)∧∀k r1,zdo d r = .ok (k,r1)→1≤k∧k≤10∧r1.length<r.length∧d≠0:=by
 unfold zdo;have h1:=zba r;have h2:=zgq zc7 (zah r)
 cases hf:zdg wordF ((zah r).takeWhile zc7) 10 with
 | none=>exact ⟨⟨h1,.inl rfl⟩,fun k r1 h=>by cases h⟩
 | some k=>
  have hk:=zlu hf;dsimp only;split
  ·exact ⟨⟨h1,.inr rfl⟩,fun k r1 h=>by cases h⟩
  ·rename_i hd
   refine ⟨?_,fun k' r1 h=>?_⟩
   ·show ((zah r).dropWhile zc7).length≤r.length;omega
   ·cases h
    have hn:(zah r).takeWhile zc7≠[]:=by
     rw[←hk.2.2];have:k=1∨k=2∨k=3∨k=4∨k=5∨k=6∨k=7∨k=8∨k=9∨k=10:=by omega
     rcases this with rfl | rfl | rfl | rfl | rfl | rfl | rfl | rfl | rfl | rfl <;> decide
    have:=List.length_pos_iff.2 hn;exact ⟨hk.1,hk.2.1,by omega,hd⟩
theorem zzk (r:R):zhy r.length (opS r):=by
 unfold opS;have h1:=zba r;have h2:=zlr zc7 (zah r);split
 ·exact ⟨h1,.inl rfl⟩
 ·exact Nat.le_trans h2 h1
section
variable {qs:R→E (QT × R)}
theorem zlv (hq:∀t,zhy t.length (qs t)):∀(m m':Nat) (r:R),r.length<m→r.length<m'→zbo qs m r=zbo qs m' r
 | 0,_,r,h,_=>by omega
 | _,0,r,_,h=>by omega
 | m+1,m'+1,r,h,h'=>by
  unfold zbo;have hs:=zba r
  cases hk:zah r with
  | nil=>rfl
  | cons c t=>
   rw[hk] at hs;dsimp only;split
   ·rfl
   ·have hqt:=hq t
    match hx:qs t,hqt with
    | .error e,_=>rfl
    | .ok (k,r1),hqt=>
      replace hqt:r1.length≤t.length:=hqt;dsimp only;have hs1:=zba r1;split
      ·rename_i r3 hr3
       rw[hr3] at hs1;simp only[List.length_cons] at hs hs1;rw[zlv hq m m' r3 (by omega) (by omega)]
      ·rfl
theorem zlw (hq:∀t,zhy t.length (qs t)):∀(m:Nat) (r:R),r.length<m→zhy r.length (zbo qs m r)
 | 0,r,h=>by omega
 | m+1,r,h=>by
  unfold zbo;have hs:=zba r
  cases hk:zah r with
  | nil=>exact ⟨Nat.zero_le _,.inl rfl⟩
  | cons c t=>
   rw[hk] at hs;simp only[List.length_cons] at hs;dsimp only;split
   ·exact ⟨hs,.inl rfl⟩
   ·have hqt:=hq t
    match hx:qs t,hqt with
    | .error (p,n),hqt=>exact ⟨by have:=hqt.1;omega,hqt.2⟩
    | .ok (k,r1),hqt=>
      replace hqt:r1.length≤t.length:=hqt;dsimp only;have hs1:=zba r1;split
      ·rename_i r3 hr3
       rw[hr3] at hs1;simp only[List.length_cons] at hs1;have ih:=zlw hq m r3 (by omega)
       match hy:zbo qs m r3,ih with
       | .error (p,n),ih=>exact ⟨by have:=ih.1;omega,ih.2⟩
       | .ok (ks,r4),ih=>
         replace ih:r4.length≤r3.length:=ih;show r4.length≤r.length;omega
      ·show (zah r1).length≤r.length;omega
end
theorem zb0 {α β:Type} {n:Nat} {x:E (α × R)} {f:α × R→E (β × R)} (hx:zhy n x) (hf:∀a r,x = .ok (a,r)→r.length≤n→zhy n (f (a,r))):zhy n (x >>= f):=by
 match x,hx with
 | .error (p,c),hx=>exact hx
 | .ok (a,r),hx=>exact hf a r rfl hx
theorem zbq {β:Type} {n:Nat} {c:UInt8} {r:R} {f:R→E (β × R)} (hn:r.length≤n) (hf:∀t,t.length≤n→zhy n (f t)):zhy n (zam c r >>= f):=by
 cases hw:zam c r with
 | error e=>
  obtain ⟨p,k⟩:=e;have:=zoh hw;exact ⟨by omega,.inl this.2⟩
 | ok t=>exact hf t (by have:=za3 hw;omega)
section
variable {num:Int→R} {par:R→Option Int}
theorem zzl {qs:R→E (QT × R)} (hq:∀t,zhy t.length (qs t)) (k:Int) (r:R):zhy r.length (zf4 num par qs k r):=by
 have hs:=zba r;unfold zf4;split
 ·split
  ·rename_i t ht
   rw[ht] at hs;simp only[List.length_cons] at hs;show t.length≤r.length;omega
  ·refine zb0 (zlw hq _ r (Nat.lt_succ_self _)) fun ks r1 _ h1=>?_;exact zbq h1 fun t ht=>ht
 ·split
  ·refine zb0 (zg3 r) fun b r1 _ h1=>?_;dsimp only;split
   ·exact ⟨hs,.inl rfl⟩
   ·refine zbq h1 fun t ht=>?_;refine zb0 ((hq t).more ht) fun q r3 _ h3=>?_;exact zbq h3 fun t ht=>ht
  ·split
   ·refine zb0 (zzk r) fun o r1 _ h1=>?_;refine zbq h1 fun r2 h2=>?_;refine zb0 ((zin r2).more h2) fun f r3 _ h3=>?_;refine zbq h3 fun r4 h4=>?_;refine zb0 ((zg3 r4).more h4) fun n r5 _ h5=>?_;refine zbq h5 fun r6 h6=>?_;refine zb0 ((hq r6).more h6) fun q r7 _ h7=>?_;exact zbq h7 fun t ht=>ht
   ·split
    ·refine zb0 (zin r) fun f r1 _ h1=>?_;refine zbq h1 fun r2 h2=>?_;refine zb0 ((zj9 _ r2 (Nat.lt_succ_self _)).more h2) fun lo r3 _ h3=>?_;refine zbq h3 fun r4 h4=>?_;refine zb0 ((zj9 _ r4 (Nat.lt_succ_self _)).more h4) fun hi r5 _ h5=>?_;dsimp only;split
     ·exact ⟨Nat.le_trans (zba r5) h5,.inl rfl⟩
     ·exact zbq h5 fun t ht=>ht
    ·refine zb0 (zin r) fun f r1 _ h1=>?_;refine zbq h1 fun r2 h2=>?_;refine zb0 ((zlt r2).more h2) fun t r3 _ h3=>?_;dsimp only;split
     ·refine zbq h3 fun r4 h4=>?_;refine zb0 ((zlt r4).more h4) fun u r5 _ h5=>?_;exact zbq h5 fun t ht=>ht
     ·exact zbq h3 fun t ht=>ht
theorem zg4:∀(d:Nat) (r:R),zhy r.length (zaz num par d r)
 | 0,r=>by
  obtain ⟨h1,h2⟩:=zff 0 r;rw[zaz]
  match hx:zdo 0 r,h1 with
  | .error (p,c),h1=>exact h1
  | .ok (k,r1),_=>exact absurd rfl (h2 k r1 hx).2.2.2
 | d+1,r=>by
  obtain ⟨h1,h2⟩:=zff (d+1) r;rw[zaz]
  match hx:zdo (d+1) r,h1 with
  | .error (p,c),h1=>exact h1
  | .ok (k,r1),h1=>
    replace h1:r1.length≤r.length:=h1;dsimp only;split
    ·exact h1
    ·cases hw:zam 40 r1 with
     | error e=>
      obtain ⟨p,n⟩:=e;have:=zoh hw;exact ⟨by omega,.inl this.2⟩
     | ok r2=>
      have:=za3 hw;exact (zzl (fun t=>zg4 d t) k r2).more (by omega)
end
end QryP
end
section
namespace QryP
open SchP
section
variable {num:Int→R} {par:R→Option Int} {I:Int→Prop}
structure Got (I:Int→Prop) (d:Nat) (q:QT):Prop where
 zero:oc q=0
 form:∀(o u:Int),((u=8→1≤o∧o≤4)∧(u≠8→o=0))→za0 u (zc8 o q)=true
 deep:zhc q≤d
 nums:zfz I q
theorem zsi (o:Int) (q:QT):zhc (zc8 o q)=zhc q:=by cases q;rfl
theorem zv7 {o:Int} {q:QT} (h:zfz I q):zfz I (zc8 o q):=by cases q;rw[zc8];rw[zfz] at *;exact h
theorem zzm (hI:∀r n,par r=some n→I n) {r:R} {n:Int} {r1:R} (h:zha num par r = .ok (n,r1)):I n:=by
 unfold zha at h;split at h
 ·cases h
 ·rename_i n' hp
  split at h
  ·cases h;exact hI _ _ hp
  ·cases h
theorem zzn (hI:∀r n,par r=some n→I n):∀{m:Nat} {r:R} {l:List Int} {r1:R},zhu num par m r = .ok (l,r1)→l≠[]∧∀z∈l,I z
 | 0,r,l,r1,h=>by cases h
 | m+1,r,l,r1,h=>by
  unfold zhu at h
  cases hx:zha num par r with
  | error e=>rw[hx] at h;cases h
  | ok x=>
   obtain ⟨n,r2⟩:=x;rw[hx] at h;dsimp only at h;have hn:=zzm hI hx
   cases hk:zah r2 with
   | nil=>rw[hk] at h;cases h;exact ⟨by simp,by simpa using hn⟩
   | cons c t=>
    rw[hk] at h;dsimp only at h;split at h
    ·cases h;exact ⟨by simp,by simpa using hn⟩
    ·split at h
     ·cases h
     ·cases hy:zhu num par m (c::t) with
      | error e=>rw[hy] at h;cases h
      | ok y=>
       obtain ⟨l',r3⟩:=y;rw[hy] at h;cases h;have:=zzn hI hy
       exact ⟨by simp,by
        intro z hz;rcases List.mem_cons.1 hz with rfl | hz
        ·exact hn
        ·exact this.2 z hz⟩
theorem zsj {r:R} {f:ByteArray} {r1:R} (h:zei r = .ok (f,r1)):zb4 f=true:=by
 unfold zei at h;split at h
 ·cases h;assumption
 ·cases h
theorem yi8 {r:R} {k:Int} {r1:R} (h:opS r = .ok (k,r1)):1≤k∧k≤3:=by
 unfold opS at h;split at h
 ·cases h
 ·rename_i k' hk
  cases h;have:=zlu hk;exact ⟨this.1,by omega⟩
theorem yck {c:UInt8} (h:zd0 c≠0):1≤zd0 c∧zd0 c≤4:=by
 unfold zd0 at *;split
 ·omega
 ·split
  ·omega
  ·split
   ·omega
   ·split
    ·omega
    ·rename_i h1 h2 h3 h4
     rw[if_neg h1,if_neg h2,if_neg h3,if_neg h4] at h;exact absurd rfl h
theorem zad {α β:Type} {x:E α} {f:α→E β} {b:β} (h:x >>= f = .ok b):∃a,x = .ok a∧f a = .ok b:=by
 cases x with
 | error e=>cases h
 | ok a=>exact ⟨a,rfl,h⟩
theorem zm9 {qs:R→E (QT × R)} {d:Nat} (hq:∀t q r,qs t = .ok (q,r)→Got I d q):∀{m:Nat} {r:R} {ks:List QT} {r1:R},zbo qs m r = .ok (ks,r1)→zat 8 ks=true∧zec ks≤d∧zb9 I ks
 | 0,r,ks,r1,h=>by cases h
 | m+1,r,ks,r1,h=>by
  unfold zbo at h
  cases hk:zah r with
  | nil=>rw[hk] at h;cases h
  | cons c t=>
   rw[hk] at h;dsimp only at h;split at h
   ·cases h
   ·rename_i hm
    have hmk:=yck hm
    cases hx:qs t with
    | error e=>rw[hx] at h;cases h
    | ok x=>
     obtain ⟨k,r2⟩:=x;have G:=hq t k r2 hx;rw[hx] at h;dsimp only at h;have h1:=G.form (zd0 c) 8 ⟨fun _=>hmk,fun e=>absurd rfl e⟩;have h2:zhc (zc8 (zd0 c) k)≤d:=by rw[zsi];exact G.deep
     have h3:zfz I (zc8 (zd0 c) k):=zv7 G.nums;split at h
     ·rename_i r3 _
      cases hy:zbo qs m r3 with
      | error e=>rw[hy] at h;cases h
      | ok y=>
       obtain ⟨ks',r4⟩:=y;rw[hy] at h;cases h;obtain ⟨i1,i2,i3⟩:=zm9 hq hy;refine ⟨by rw[zat,h1,i1];rfl,?_,?_⟩
       ·rw[zec];omega
       ·rw[zb9];exact ⟨h3,i3⟩
     ·cases h;refine ⟨by rw[zat,h1];rfl,?_,?_⟩
      ·rw[zec,zec];omega
      ·rw[zb9,zb9];exact ⟨h3,trivial⟩
theorem zjv {d:Nat} {k:Int} {f t u:ByteArray} {l h:List Int} {b p:Int} {ks:List QT} (hd:zec ks+1≤d) (hn:(∀z∈l,I z)∧(∀z∈h,I z)∧I b∧zb9 I ks) (hk:zat k ks=true)
 (ho:∀(o u':Int),((u'=8→1≤o∧o≤4)∧(u'≠8→o=0))→zf2 (.mk k o f t u l h b p ks) u'=true):Got I d (.mk k 0 f t u l h b p ks):=by
 refine ⟨rfl,fun o u' hu=>?_,by rw[zhc];exact hd,by rw[zfz];exact hn⟩;rw[zc8,za0,ho o u' hu,hk];rfl
theorem zjw {k o:Int} {f t u:ByteArray} {l h:List Int} {b p:Int} {ks:List QT} {under:Int} (h0:(under=8→1≤o∧o≤4)∧(under≠8→o=0)) (h1:1≤k∧k≤10) (h2:(3≤k∧k≤7∨k=10)→zb4 f=true) (h3:¬(3≤k∧k≤7∨k=10)→f.size=0)
 (h4:¬(3≤k∧k≤6)→t.size=0) (h5:k≠6→u.size=0) (h6:k=7→1≤l.length∧l.length≤4∧h.length=l.length) (h7:k=10→l.length=1∧h.length=0) (h8:k≠7→k≠10→l.length=0∧h.length=0)
 (h9:k=9→0≤b∧b≤1048576) (h10:k≠9→b=0) (h11:k=10→1≤p∧p≤3) (h12:k≠10→p=0) (h13:(k=9∨k=10)→ks.length=1) (h14:k≠8→¬(k=9∨k=10)→ks.length=0):zf2 (.mk k o f t u l h b p ks) under=true:=by
 show ((((((((if under=8 then decide (1≤o∧o≤4) else decide (o=0)) && decide (1≤k∧k≤10)) && (if 3≤k∧k≤7∨k=10 then zb4 f else decide (f.size=0)))
  && (decide (3≤k∧k≤6) || decide (t.size=0))) && (decide (k=6) || decide (u.size=0)))
  && (if k=7 then decide (1≤l.length∧l.length≤4∧h.length=l.length) else if k=10 then decide (l.length=1∧h.length=0) else decide (l.length=0∧h.length=0)))
  && (if k=9 then decide (0≤b∧b≤1048576) else decide (b=0)))
  && (if k=10 then decide (1≤p∧p≤3) else decide (p=0))
  && (if k=9∨k=10 then decide (ks.length=1) else decide (k=8) || decide (ks.length=0)))=true
 simp only[Bool.and_eq_true];refine ⟨⟨⟨⟨⟨⟨⟨⟨?_,decide_eq_true h1⟩,?_⟩,?_⟩,?_⟩,?_⟩,?_⟩,?_⟩,?_⟩
 ·by_cases e:under=8
  ·rw[if_pos e];exact decide_eq_true (h0.1 e)
  ·rw[if_neg e];exact decide_eq_true (h0.2 e)
 ·by_cases e:3≤k∧k≤7∨k=10
  ·rw[if_pos e];exact h2 e
  ·rw[if_neg e];exact decide_eq_true (h3 e)
 ·by_cases e:3≤k∧k≤6
  ·rw[decide_eq_true e];rfl
  ·rw[decide_eq_true (h4 e),Bool.or_true]
 ·by_cases e:k=6
  ·rw[decide_eq_true e];rfl
  ·rw[decide_eq_true (h5 e),Bool.or_true]
 ·by_cases e:k=7
  ·rw[if_pos e];exact decide_eq_true (h6 e)
  ·by_cases e':k=10
   ·rw[if_neg e,if_pos e'];exact decide_eq_true (h7 e')
   ·rw[if_neg e,if_neg e'];exact decide_eq_true (h8 e e')
 ·by_cases e:k=9
  ·rw[if_pos e];exact decide_eq_true (h9 e)
  ·rw[if_neg e];exact decide_eq_true (h10 e)
 ·by_cases e:k=10
  ·rw[if_pos e];exact decide_eq_true (h11 e)
  ·rw[if_neg e];exact decide_eq_true (h12 e)
 ·by_cases e:k=9∨k=10
  ·rw[if_pos e];exact decide_eq_true (h13 e)
  ·rw[if_neg e];by_cases e':k=8
   ·rw[decide_eq_true e'];rfl
   ·rw[decide_eq_true (h14 e' e),Bool.or_true]
theorem Got.one {d:Nat} {q:QT} (G:Got I d q) {k:Int} (hk:k≠8):zat k [q]=true∧zec [q]≤d∧zb9 I [q]:=by
 have:=G.form 0 k ⟨fun e=>absurd e hk,fun _=>rfl⟩;rw[zmx G.zero] at this;refine ⟨by rw[zat,this];rfl,by rw[zec,zec];have:=G.deep;omega,by rw[zb9,zb9];exact ⟨G.nums,trivial⟩⟩
set_option maxHeartbeats 2000000 in
theorem ycl (hI:∀r n,par r=some n→I n) (hI0:I 0) {qs:R→E (QT × R)} {d:Nat} (hq:∀t q r,qs t = .ok (q,r)→Got I d q) {k:Int} (hk:3≤k∧k≤10) {r:R} {q:QT} {r1:R} (h:zf4 num par qs k r = .ok (q,r1)):Got I (d+1) q:=by
 unfold zf4 at h;split at h
 ·split at h
  ·cases h;refine zjv (by simp[zec]) ⟨by simp,by simp,hI0,by rw[zb9];trivial⟩ rfl fun o u hu=>?_
   apply zjw hu <;> first | omega | (intros;rfl) | (intros;omega) | (intros;exact ⟨rfl,rfl⟩)
  ·obtain ⟨⟨ks,r2⟩,hc,h⟩:=zad h;obtain ⟨r3,_,h⟩:=zad h;cases h;obtain ⟨c1,c2,c3⟩:=zm9 hq hc;refine zjv (by omega) ⟨by simp,by simp,hI0,c3⟩ c1 fun o u hu=>?_
   apply zjw hu <;> first | omega | (intros;rfl) | (intros;omega) | (intros;exact ⟨rfl,rfl⟩)
 ·split at h
  ·obtain ⟨⟨b,r2⟩,hb,h⟩:=zad h;dsimp only at h;have hbI:=zzm hI hb;split at h
   ·cases h
   ·rename_i hr
    obtain ⟨r3,_,h⟩:=zad h;obtain ⟨⟨q1,r4⟩,hq1,h⟩:=zad h;obtain ⟨r5,_,h⟩:=zad h;cases h;obtain ⟨c1,c2,c3⟩:=(hq _ _ _ hq1).one (k:=9) (by decide);refine zjv (Nat.add_le_add_right c2 1) ⟨by simp,by simp,hbI,c3⟩ c1 fun o u hu=>?_
    apply zjw hu <;> first | omega | (intros;rfl) | (intros;omega) | (intros;exact ⟨rfl,rfl⟩)
  ·split at h
   ·obtain ⟨⟨p,r2⟩,ho,h⟩:=zad h;obtain ⟨r3,_,h⟩:=zad h;obtain ⟨⟨f,r4⟩,hf,h⟩:=zad h;obtain ⟨r5,_,h⟩:=zad h;obtain ⟨⟨n,r6⟩,hn,h⟩:=zad h;obtain ⟨r7,_,h⟩:=zad h;obtain ⟨⟨q1,r8⟩,hq1,h⟩:=zad h;obtain ⟨r9,_,h⟩:=zad h;cases h;have hp:=yi8 ho;have hnm:=zsj hf;have hnI:=zzm hI hn;obtain ⟨c1,c2,c3⟩:=(hq _ _ _ hq1).one (k:=10) (by decide);refine zjv (Nat.add_le_add_right c2 1) ⟨by simpa using hnI,by simp,hI0,c3⟩ c1 fun o u hu=>?_
    apply zjw hu <;> first | omega | (intros;exact hnm) | (intros;rfl) | (intros;omega) | (intros;exact ⟨rfl,rfl⟩)
   ·split at h
    ·obtain ⟨⟨f,r2⟩,hf,h⟩:=zad h;obtain ⟨r3,_,h⟩:=zad h;obtain ⟨⟨lo,r4⟩,hl,h⟩:=zad h;obtain ⟨r5,_,h⟩:=zad h;obtain ⟨⟨hi,r6⟩,hh,h⟩:=zad h;dsimp only at h;split at h
     ·cases h
     ·rename_i hlen
      obtain ⟨r7,_,h⟩:=zad h;cases h;have hnm:=zsj hf;obtain ⟨l0,hl⟩:=zzn hI hl;obtain ⟨_,hh⟩:=zzn hI hh;have l1:=List.length_pos_iff.2 l0;refine zjv (by simp[zec]) ⟨hl,hh,hI0,by rw[zb9];trivial⟩ rfl fun o u hu=>?_
      apply zjw hu <;> first | omega | (intros;exact hnm) | (intros;rfl) | (intros;omega) | (intros;exact ⟨rfl,rfl⟩)
    ·obtain ⟨⟨f,r2⟩,hf,h⟩:=zad h;obtain ⟨r3,_,h⟩:=zad h;obtain ⟨⟨t,r4⟩,ht,h⟩:=zad h;dsimp only at h;have hnm:=zsj hf;split at h
     ·obtain ⟨r5,_,h⟩:=zad h;obtain ⟨⟨u',r6⟩,hu',h⟩:=zad h;obtain ⟨r7,_,h⟩:=zad h;cases h;refine zjv (by simp[zec]) ⟨by simp,by simp,hI0,by rw[zb9];trivial⟩ rfl fun o u hu=>?_
      apply zjw hu <;> first | omega | (intros;exact hnm) | (intros;rfl) | (intros;omega) | (intros;exact ⟨rfl,rfl⟩)
     ·obtain ⟨r5,_,h⟩:=zad h;cases h;refine zjv (by simp[zec]) ⟨by simp,by simp,hI0,by rw[zb9];trivial⟩ rfl fun o u hu=>?_
      apply zjw hu <;> first | omega | (intros;exact hnm) | (intros;rfl) | (intros;omega) | (intros;exact ⟨rfl,rfl⟩)
theorem zqi (hI:∀r n,par r=some n→I n) (hI0:I 0):∀{d:Nat} {r:R} {q:QT} {r1:R},zaz num par d r = .ok (q,r1)→Got I d q
 | 0,r,q,r1,h=>by rw[zaz] at h;split at h <;> cases h
 | d+1,r,q,r1,h=>by
  rw[zaz] at h;have hkf:=(zff (d+1) r).2
  cases hx:zdo (d+1) r with
  | error e=>rw[hx] at h;cases h
  | ok x=>
   obtain ⟨k,r2⟩:=x;obtain ⟨k1,k2,_,_⟩:=hkf k r2 hx;rw[hx] at h;dsimp only at h;split at h
   ·cases h;refine zjv (by simp[zec]) ⟨by simp,by simp,hI0,by rw[zb9];trivial⟩ rfl fun o u hu=>?_
    apply zjw hu <;> first | omega | (intros;rfl) | (intros;omega) | (intros;exact ⟨rfl,rfl⟩)
   ·cases hw:zam 40 r2 with
    | error e=>rw[hw] at h;cases h
    | ok r3=>
     rw[hw] at h;exact ycl hI hI0 (fun t q r hq=>zqi hI hI0 hq) (by omega) h
theorem zzo (hI:∀r n,par r=some n→I n) (hI0:I 0) {r:R} {q:QT} (h:zbh num par r = .ok q):za0 0 q=true∧zhc q≤6∧zfz I q:=by
 unfold zbh at h;split at h
 ·cases h
 ·cases hx:zaz num par 6 r with
  | error e=>rw[hx] at h;cases h
  | ok x=>
   obtain ⟨q',r1⟩:=x;have G:=zqi hI hI0 hx;rw[hx] at h;dsimp only at h;split at h
   ·cases h;have:=G.form 0 0 ⟨fun e=>(by cases e),fun _=>rfl⟩;rw[zmx G.zero] at this;exact ⟨this,G.deep,G.nums⟩
   ·cases h
end
end QryP
end
