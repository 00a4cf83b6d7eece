/- Lemmas that the last text leans on. -/
import Derived.Test.YtplkbdncgkgppaaGreatDoorPack2
set_option linter.all false
section
namespace QryP
open SchP
def zgx {α:Type} (n:Nat):E (α × R)→Prop
 | .ok (_,r)=>r.length≤n
 | .error (p,c)=>p≤n∧(c=180∨c=182)
theorem zgx.more {α:Type} {n m:Nat} {x:E (α × R)} (h:zgx n x) (hn:n≤m):zgx m x:=by
 match x,h with
 | .ok (_,r),h=>exact Nat.le_trans h hn
 | .error (p,c),h=>exact ⟨Nat.le_trans h.1 hn,h.2⟩
theorem zjr (p:UInt8→Bool):∀r:R,(r.dropWhile p).length≤r.length
 | []=>Nat.le_refl _
 | c::r=>by rw[List.dropWhile_cons];split <;> simp[Nat.le_succ_of_le,zjr p r]
theorem za6 (r:R):(zaf r).length≤r.length:=zjr _ r
theorem zfb (p:UInt8→Bool):∀r:R,(r.takeWhile p).length+(r.dropWhile p).length=r.length
 | []=>rfl
 | c::r=>by rw[List.takeWhile_cons,List.dropWhile_cons];split <;> simp[←zfb p r];omega
theorem za0 {c:UInt8} {r t:R} (h:zaj c r = .ok t):t.length<r.length:=by
 unfold zaj at h;have:=za6 r;revert h
 cases hs:zaf r with
 | nil=>intro h;cases h
 | cons x u=>
  dsimp only;split
  ·intro h;cases h;rw[hs] at this;simp at this;omega
  ·intro h;cases h
theorem zme {c:UInt8} {r:R} {p:Nat} {n:Int} (h:zaj c r = .error (p,n)):p≤r.length∧n=180:=by
 unfold zaj at h;have:=za6 r;revert h
 cases hs:zaf r with
 | nil=>intro h;cases h;exact ⟨Nat.zero_le _,rfl⟩
 | cons x u=>
  dsimp only;split
  ·intro h;cases h
  ·intro h;cases h;rw[hs] at this;exact ⟨by simpa using this,rfl⟩
theorem zhf (r:R):zgx r.length (zdo r):=by
 unfold zdo;have h1:=za6 r;have h2:=zjr zco (zaf r);split
 ·exact Nat.le_trans h2 h1
 ·exact ⟨h1,.inl rfl⟩
section
variable {num:Int→R} {par:R→Option Int}
theorem ybb (f:R):(zjq f).length≤f.length:=by unfold zjq;split <;> simp
theorem zfy (r:R):zgx r.length (zgp num par r):=by
 unfold zgp;have h1:=za6 r;have h2:=ybb (zaf r);have h3:=zjr digB (zjq (zaf r));split
 ·exact ⟨h1,.inl rfl⟩
 ·split
  ·exact Nat.le_trans h3 (Nat.le_trans h2 h1)
  ·exact ⟨h1,.inl rfl⟩
theorem zrk:∀(m m':Nat) (r:R),r.length<m→r.length<m'→zgw num par m r=zgw num par m' r
 | 0,_,r,h,_=>by omega
 | _,0,r,_,h=>by omega
 | m+1,m'+1,r,h,h'=>by
  unfold zgw;have hn:=zfy (num:=num) (par:=par) r
  match hx:zgp num par r,hn with
  | .error e,_=>rfl
  | .ok (n,r1),hn=>
    dsimp only;have hs:=za6 r1
    cases hk:zaf r1 with
    | nil=>rfl
    | cons c t=>
     dsimp only;split
     ·rfl
     ·split
      ·rfl
      ·rename_i hne
       rw[hk] at hs;replace hn:r1.length≤r.length:=hn;have hlt:(c::t).length<r1.length:=by omega
       rw[zrk m m' (c::t) (by omega) (by omega)]
theorem zjg:∀(m:Nat) (r:R),r.length<m→zgx r.length (zgw num par m r)
 | 0,r,h=>by omega
 | m+1,r,h=>by
  unfold zgw;have hn:=zfy (num:=num) (par:=par) r
  match hx:zgp num par r,hn with
  | .error (p,c),hn=>exact hn
  | .ok (n,r1),hn=>
    replace hn:r1.length≤r.length:=hn;dsimp only;have hs:=za6 r1
    cases hk:zaf r1 with
    | nil=>exact Nat.zero_le _
    | cons c t=>
     rw[hk] at hs;dsimp only;split
     ·exact Nat.le_trans hs hn
     ·split
      ·exact ⟨hn,.inl rfl⟩
      ·have ih:=zjg m (c::t) (by omega)
       match hy:zgw num par m (c::t),ih with
       | .error (p,k),ih=>exact ⟨by have:=ih.1;omega,ih.2⟩
       | .ok (l,r2),ih=>exact Nat.le_trans ih (Nat.le_trans hs hn)
end
theorem zjs {n:Nat} {c:UInt8} {x:E (R × R)} (h:zgx n x):zgx n (zfa c x):=by
 match x,h with
 | .ok (b,r),h=>exact h
 | .error (p,k),h=>exact h
theorem zrl (at_:Nat):∀(k:Nat) (r:R),r.length≤k→zgx (max at_ r.length) (zed at_ r)
 | 0,r,h=>by obtain rfl:=List.eq_nil_of_length_eq_zero (Nat.le_zero.1 h);exact ⟨Nat.le_max_left _ _,.inl rfl⟩
 | k+1,[],h=>⟨Nat.le_max_left _ _,.inl rfl⟩
 | k+1,c::t,h=>by
  have hm:at_≤max at_ (c::t).length:=Nat.le_max_left _ _;have ih:∀t':R,t'.length≤t.length→zgx (max at_ (c::t).length) (zed at_ t'):=fun t' ht=>(zrl at_ k t' (by simp at h;omega)).more (by simp;omega);rw[zed.eq_def];dsimp only;split
  ·show t.length≤max at_ (c::t).length;simp;omega
  ·split
   ·exact ⟨hm,.inl rfl⟩
   ·split
    ·exact zjs (ih t (Nat.le_refl _))
    ·cases t with
     | nil=>exact ⟨hm,.inl rfl⟩
     | cons d t'=>
      dsimp only;split
      ·exact zjs (ih t' (by simp))
      ·match t' with
       | []=>exact ⟨hm,.inl rfl⟩
       | [a]=>exact ⟨hm,.inl rfl⟩
       | a::b::t''=>
        dsimp only;split
        ·split
         ·exact zjs (ih t'' (by simp;omega))
         ·exact ⟨hm,.inl rfl⟩
        ·exact ⟨hm,.inl rfl⟩
theorem zjt (r:R):zgx r.length (zee r):=by
 unfold zee;have hs:=za6 r
 cases hw:zaj 34 r with
 | error e=>
  obtain ⟨p,n⟩:=e;have:=zme hw;exact ⟨this.1,.inl this.2⟩
 | ok t=>
  have hl:=za0 hw;dsimp only;have h:=zrl (zaf r).length t.length t (Nat.le_refl _)
  match hx:zed (zaf r).length t,h with
  | .error (p,n),h=>exact ⟨by have:=h.1;omega,h.2⟩
  | .ok (b,r'),h=>
    replace h:r'.length≤_:=h;show r'.length≤r.length;omega
theorem zju {f:Int→R} {w:R}:∀{n:Nat} {k:Int},zcq f w n=some k→1≤k∧k≤n∧f k=w
 | 0,k,h=>by cases h
 | n+1,k,h=>by
  rw[zcq] at h
  cases hx:zcq f w n with
  | some i=>
   rw[hx] at h;cases h;have:=zju hx;exact ⟨this.1,by omega,this.2.2⟩
  | none=>
   rw[hx] at h;dsimp only at h;split at h
   ·cases h;exact ⟨by omega,by omega,by assumption⟩
   ·cases h
theorem zef (d:Nat) (r:R):zgx r.length (zc0 d r)∧∀k r1,zc0 d r = .ok (k,r1)→1≤k∧k≤10∧r1.length<r.length∧d≠0:=by
 unfold zc0;have h1:=za6 r;have h2:=zfb zco (zaf r)
 cases hf:zcq wordF ((zaf r).takeWhile zco) 10 with
 | none=>exact ⟨⟨h1,.inl rfl⟩,fun k r1 h=>by cases h⟩
 | some k=>
  have hk:=zju hf;dsimp only;split
  ·exact ⟨⟨h1,.inr rfl⟩,fun k r1 h=>by cases h⟩
  ·rename_i hd
   refine ⟨?_,fun k' r1 h=>?_⟩
   ·show ((zaf r).dropWhile zco).length≤r.length;omega
   ·cases h
    have hn:(zaf r).takeWhile zco≠[]:=by
     rw[←hk.2.2];have:k=1∨k=2∨k=3∨k=4∨k=5∨k=6∨k=7∨k=8∨k=9∨k=10:=by omega
     rcases this with rfl | rfl | rfl | rfl | rfl | rfl | rfl | rfl | rfl | rfl <;> decide
    have:=List.length_pos_iff.2 hn;exact ⟨hk.1,hk.2.1,by omega,hd⟩
theorem zuq (r:R):zgx r.length (opS r):=by
 unfold opS;have h1:=za6 r;have h2:=zjr zco (zaf r);split
 ·exact ⟨h1,.inl rfl⟩
 ·exact Nat.le_trans h2 h1
section
variable {qs:R→E (QT × R)}
theorem zjv (hq:∀t,zgx t.length (qs t)):∀(m m':Nat) (r:R),r.length<m→r.length<m'→zbk qs m r=zbk qs m' r
 | 0,_,r,h,_=>by omega
 | _,0,r,_,h=>by omega
 | m+1,m'+1,r,h,h'=>by
  unfold zbk;have hs:=za6 r
  cases hk:zaf r with
  | nil=>rfl
  | cons c t=>
   rw[hk] at hs;dsimp only;split
   ·rfl
   ·have hqt:=hq t
    match hx:qs t,hqt with
    | .error e,_=>rfl
    | .ok (k,r1),hqt=>
      replace hqt:r1.length≤t.length:=hqt;dsimp only;have hs1:=za6 r1;split
      ·rename_i r3 hr3
       rw[hr3] at hs1;simp only[List.length_cons] at hs hs1;rw[zjv hq m m' r3 (by omega) (by omega)]
      ·rfl
theorem zjw (hq:∀t,zgx t.length (qs t)):∀(m:Nat) (r:R),r.length<m→zgx r.length (zbk qs m r)
 | 0,r,h=>by omega
 | m+1,r,h=>by
  unfold zbk;have hs:=za6 r
  cases hk:zaf r with
  | nil=>exact ⟨Nat.zero_le _,.inl rfl⟩
  | cons c t=>
   rw[hk] at hs;simp only[List.length_cons] at hs;dsimp only;split
   ·exact ⟨hs,.inl rfl⟩
   ·have hqt:=hq t
    match hx:qs t,hqt with
    | .error (p,n),hqt=>exact ⟨by have:=hqt.1;omega,hqt.2⟩
    | .ok (k,r1),hqt=>
      replace hqt:r1.length≤t.length:=hqt;dsimp only;have hs1:=za6 r1;split
      ·rename_i r3 hr3
       rw[hr3] at hs1;simp only[List.length_cons] at hs1;have ih:=zjw hq m r3 (by omega)
       match hy:zbk qs m r3,ih with
       | .error (p,n),ih=>exact ⟨by have:=ih.1;omega,ih.2⟩
       | .ok (ks,r4),ih=>
         replace ih:r4.length≤r3.length:=ih;show r4.length≤r.length;omega
      ·show (zaf r1).length≤r.length;omega
end
theorem zbr {α β:Type} {n:Nat} {x:E (α × R)} {f:α × R→E (β × R)} (hx:zgx n x) (hf:∀a r,x = .ok (a,r)→r.length≤n→zgx n (f (a,r))):zgx n (x >>= f):=by
 match x,hx with
 | .error (p,c),hx=>exact hx
 | .ok (a,r),hx=>exact hf a r rfl hx
theorem zbl {β:Type} {n:Nat} {c:UInt8} {r:R} {f:R→E (β × R)} (hn:r.length≤n) (hf:∀t,t.length≤n→zgx n (f t)):zgx n (zaj c r >>= f):=by
 cases hw:zaj c r with
 | error e=>
  obtain ⟨p,k⟩:=e;have:=zme hw;exact ⟨by omega,.inl this.2⟩
 | ok t=>exact hf t (by have:=za0 hw;omega)
section
variable {num:Int→R} {par:R→Option Int}
theorem zur {qs:R→E (QT × R)} (hq:∀t,zgx t.length (qs t)) (k:Int) (r:R):zgx r.length (ze6 num par qs k r):=by
 have hs:=za6 r;unfold ze6;split
 ·split
  ·rename_i t ht
   rw[ht] at hs;simp only[List.length_cons] at hs;show t.length≤r.length;omega
  ·refine zbr (zjw hq _ r (Nat.lt_succ_self _)) fun ks r1 _ h1=>?_;exact zbl h1 fun t ht=>ht
 ·split
  ·refine zbr (zfy r) fun b r1 _ h1=>?_;dsimp only;split
   ·exact ⟨hs,.inl rfl⟩
   ·refine zbl h1 fun t ht=>?_;refine zbr ((hq t).more ht) fun q r3 _ h3=>?_;exact zbl h3 fun t ht=>ht
  ·split
   ·refine zbr (zuq r) fun o r1 _ h1=>?_;refine zbl h1 fun r2 h2=>?_;refine zbr ((zhf r2).more h2) fun f r3 _ h3=>?_;refine zbl h3 fun r4 h4=>?_;refine zbr ((zfy r4).more h4) fun n r5 _ h5=>?_;refine zbl h5 fun r6 h6=>?_;refine zbr ((hq r6).more h6) fun q r7 _ h7=>?_;exact zbl h7 fun t ht=>ht
   ·split
    ·refine zbr (zhf r) fun f r1 _ h1=>?_;refine zbl h1 fun r2 h2=>?_;refine zbr ((zjg _ r2 (Nat.lt_succ_self _)).more h2) fun lo r3 _ h3=>?_;refine zbl h3 fun r4 h4=>?_;refine zbr ((zjg _ r4 (Nat.lt_succ_self _)).more h4) fun hi r5 _ h5=>?_;dsimp only;split
     ·exact ⟨Nat.le_trans (za6 r5) h5,.inl rfl⟩
     ·exact zbl h5 fun t ht=>ht
    ·refine zbr (zhf r) fun f r1 _ h1=>?_;refine zbl h1 fun r2 h2=>?_;refine zbr ((zjt r2).more h2) fun t r3 _ h3=>?_;dsimp only;split
     ·refine zbl h3 fun r4 h4=>?_;refine zbr ((zjt r4).more h4) fun u r5 _ h5=>?_;exact zbl h5 fun t ht=>ht
     ·exact zbl h3 fun t ht=>ht
theorem zfz:∀(d:Nat) (r:R),zgx r.length (zaz num par d r)
 | 0,r=>by
  obtain ⟨h1,h2⟩:=zef 0 r;rw[zaz]
  match hx:zc0 0 r,h1 with
  | .error (p,c),h1=>exact h1
  | .ok (k,r1),_=>exact absurd rfl (h2 k r1 hx).2.2.2
 | d+1,r=>by
  obtain ⟨h1,h2⟩:=zef (d+1) r;rw[zaz]
  match hx:zc0 (d+1) r,h1 with
  | .error (p,c),h1=>exact h1
  | .ok (k,r1),h1=>
    replace h1:r1.length≤r.length:=h1;dsimp only;split
    ·exact h1
    ·cases hw:zaj 40 r1 with
     | error e=>
      obtain ⟨p,n⟩:=e;have:=zme hw;exact ⟨by omega,.inl this.2⟩
     | ok r2=>
      have:=za0 hw;exact (zur (fun t=>zfz d t) k r2).more (by omega)
end
end QryP
end
section
namespace QryP
open SchP
def Stop (r:R):Prop:=∀c t,r=c::t→c=44∨c=41
theorem ybc {s:ByteArray} (h:zbx s=true):s.data.toList≠[]:=by
 simp only[zbx,Bool.and_eq_true,decide_eq_true_eq] at h;intro h0;have:s.size=0:=by show s.data.size=0;rw[←Array.length_toList,h0];rfl
 omega
section
variable {num:Int→R} {par:R→Option Int} {I:Int→Prop}
theorem ybd (p:Nat) (c:UInt8) (t:R) (h1:c≠34) (h2:c≠10) (h3:c≠92):zed p (c::t)=zfa c (zed p t):=by
 rw[zed.eq_def];dsimp only;rw[if_neg h1,if_neg h2,if_pos h3]
theorem ybe (p:Nat) (t:R):zed p (34::t) = .ok ([],t):=by
 rw[zed.eq_def];dsimp only;rw[if_pos rfl]
end
end QryP
end
section
namespace QryP
open SchP
section
variable {num:Int→R} {par:R→Option Int} {I:Int→Prop}
mutual
def zez (I:Int→Prop):QT→Prop
 | .mk _ _ _ _ _ l h b _ ks=>(∀z∈l,I z)∧(∀z∈h,I z)∧I b∧zb0 I ks
def zb0 (I:Int→Prop):List QT→Prop
 | []=>True
 | q::qs=>zez I q∧zb0 I qs
end
def Reads (num:Int→R) (par:R→Option Int) (d:Nat) (q:QT) (rest:R):Prop:=
 (zgq q≤d→zaz num par d (zbp num q++rest) = .ok (zcp 0 q,rest))∧(d<zgq q→∃p,zaz num par d (zbp num q++rest) = .error (p,182))
theorem zus {s:ByteArray} (h:s.size=0):s=emp:=by
 apply ByteArray.ext;exact Array.eq_empty_of_size_eq_zero h
theorem zrm {α:Type} {l:List α} (h:l.length=0):l=[]:=List.eq_nil_of_length_eq_zero h
theorem yar {q:QT} {u:Int} (h:zja q u=true):(u=8→1≤oc q∧oc q≤4)∧(u≠8→oc q=0):=by
 simp only[zja,Bool.and_eq_true] at h;have h1:=h.1.1.1.1.1.1.1.1;refine ⟨fun e=>?_,fun e=>?_⟩
 ·rw[if_pos e] at h1;exact of_decide_eq_true h1
 ·rw[if_neg e] at h1;exact of_decide_eq_true h1
theorem zlg {q:QT} (h:oc q=0):zcp 0 q=q:=by cases q;simp only[oc] at h;subst h;rfl
section
variable {qs:R→E (QT × R)} {m:Nat} {r t rest:R} {c:UInt8} {k:QT}
end
theorem zjx {k o:Int} {f t u:ByteArray} {l h:List Int} {b p:Int} {ks:List QT} {under:Int} (hw:zja (.mk k o f t u l h b p ks) under=true) :
 (1≤k∧k≤10)∧((3≤k∧k≤7∨k=10)→zbx f=true)∧(¬(3≤k∧k≤7∨k=10)→f=emp)∧(¬(3≤k∧k≤6)→t=emp)∧(k≠6→u=emp)∧(k=7→1≤l.length∧l.length≤4∧h.length=l.length)∧(k=10→l.length=1∧h=[])
 ∧(k≠7→k≠10→l=[]∧h=[])∧(k=9→0≤b∧b≤1048576)∧(k≠9→b=0)∧(k=10→1≤p∧p≤3)∧(k≠10→p=0)∧((k=9∨k=10)→ks.length=1)∧(k≠8→¬(k=9∨k=10)→ks=[]):=by
 have h':((((((((if under=8 then decide (1≤o∧o≤4) else decide (o=0)) && decide (1≤k∧k≤10)) && (if 3≤k∧k≤7∨k=10 then zbx f else decide (f.size=0)))
  && (decide (3≤k∧k≤6) || decide (t.size=0))) && (decide (k=6) || decide (u.size=0)))
  && (if k=7 then decide (1≤l.length∧l.length≤4∧h.length=l.length) else if k=10 then decide (l.length=1∧h.length=0) else decide (l.length=0∧h.length=0)))
  && (if k=9 then decide (0≤b∧b≤1048576) else decide (b=0)))
  && (if k=10 then decide (1≤p∧p≤3) else decide (p=0))
  && (if k=9∨k=10 then decide (ks.length=1) else decide (k=8) || decide (ks.length=0)))=true:=hw
 simp only[Bool.and_eq_true] at h';obtain ⟨⟨⟨⟨⟨⟨⟨⟨_,hk⟩,hfd⟩,htx⟩,hup⟩,hnum⟩,hbo⟩,hop⟩,hkd⟩:=h';refine ⟨of_decide_eq_true hk,fun e=>?_,fun e=>?_,fun e=>?_,fun e=>?_,fun e=>?_,fun e=>?_,fun e e'=>?_,fun e=>?_,fun e=>?_,fun e=>?_,fun e=>?_,fun e=>?_,fun e e'=>?_⟩
 ·rwa [if_pos e] at hfd
 ·rw[if_neg e] at hfd;exact zus (of_decide_eq_true hfd)
 ·rw[decide_eq_false e,Bool.false_or] at htx;exact zus (of_decide_eq_true htx)
 ·rw[decide_eq_false e,Bool.false_or] at hup;exact zus (of_decide_eq_true hup)
 ·rw[if_pos e] at hnum;exact of_decide_eq_true hnum
 ·rw[if_neg (by omega),if_pos e] at hnum;have:=of_decide_eq_true hnum;exact ⟨this.1,zrm this.2⟩
 ·rw[if_neg e,if_neg e'] at hnum;have:=of_decide_eq_true hnum;exact ⟨zrm this.1,zrm this.2⟩
 ·rw[if_pos e] at hbo;exact of_decide_eq_true hbo
 ·rw[if_neg e] at hbo;exact of_decide_eq_true hbo
 ·rw[if_pos e] at hop;exact of_decide_eq_true hop
 ·rw[if_neg e] at hop;exact of_decide_eq_true hop
 ·rw[if_pos e] at hkd;exact of_decide_eq_true hkd
 ·rw[if_neg e',decide_eq_false e,Bool.false_or] at hkd;exact zrm (of_decide_eq_true hkd)
end
end QryP
end
section
namespace QryP
open SchP
section
variable {num:Int→R} {par:R→Option Int} {I:Int→Prop}
structure Got (I:Int→Prop) (d:Nat) (q:QT):Prop where
 zero:oc q=0
 form:∀(o u:Int),((u=8→1≤o∧o≤4)∧(u≠8→o=0))→zba u (zcp o q)=true
 deep:zgq q≤d
 nums:zez I q
theorem zpx (o:Int) (q:QT):zgq (zcp o q)=zgq q:=by cases q;rfl
theorem zsp {o:Int} {q:QT} (h:zez I q):zez I (zcp o q):=by cases q;rw[zcp];rw[zez] at *;exact h
theorem zut (hI:∀r n,par r=some n→I n) {r:R} {n:Int} {r1:R} (h:zgp num par r = .ok (n,r1)):I n:=by
 unfold zgp at h;split at h
 ·cases h
 ·rename_i n' hp
  split at h
  ·cases h;exact hI _ _ hp
  ·cases h
theorem zuu (hI:∀r n,par r=some n→I n):∀{m:Nat} {r:R} {l:List Int} {r1:R},zgw num par m r = .ok (l,r1)→l≠[]∧∀z∈l,I z
 | 0,r,l,r1,h=>by cases h
 | m+1,r,l,r1,h=>by
  unfold zgw at h
  cases hx:zgp num par r with
  | error e=>rw[hx] at h;cases h
  | ok x=>
   obtain ⟨n,r2⟩:=x;rw[hx] at h;dsimp only at h;have hn:=zut hI hx
   cases hk:zaf r2 with
   | nil=>rw[hk] at h;cases h;exact ⟨by simp,by simpa using hn⟩
   | cons c t=>
    rw[hk] at h;dsimp only at h;split at h
    ·cases h;exact ⟨by simp,by simpa using hn⟩
    ·split at h
     ·cases h
     ·cases hy:zgw num par m (c::t) with
      | error e=>rw[hy] at h;cases h
      | ok y=>
       obtain ⟨l',r3⟩:=y;rw[hy] at h;cases h;have:=zuu hI hy
       exact ⟨by simp,by
        intro z hz;rcases List.mem_cons.1 hz with rfl | hz
        ·exact hn
        ·exact this.2 z hz⟩
theorem zpy {r:R} {f:ByteArray} {r1:R} (h:zdo r = .ok (f,r1)):zbx f=true:=by
 unfold zdo at h;split at h
 ·cases h;assumption
 ·cases h
theorem yfg {r:R} {k:Int} {r1:R} (h:opS r = .ok (k,r1)):1≤k∧k≤3:=by
 unfold opS at h;split at h
 ·cases h
 ·rename_i k' hk
  cases h;have:=zju hk;exact ⟨this.1,by omega⟩
theorem zyf {c:UInt8} (h:zc7 c≠0):1≤zc7 c∧zc7 c≤4:=by
 unfold zc7 at *;split
 ·omega
 ·split
  ·omega
  ·split
   ·omega
   ·split
    ·omega
    ·rename_i h1 h2 h3 h4
     rw[if_neg h1,if_neg h2,if_neg h3,if_neg h4] at h;exact absurd rfl h
theorem zad {α β:Type} {x:E α} {f:α→E β} {b:β} (h:x >>= f = .ok b):∃a,x = .ok a∧f a = .ok b:=by
 cases x with
 | error e=>cases h
 | ok a=>exact ⟨a,rfl,h⟩
theorem zlh {qs:R→E (QT × R)} {d:Nat} (hq:∀t q r,qs t = .ok (q,r)→Got I d q):∀{m:Nat} {r:R} {ks:List QT} {r1:R},zbk qs m r = .ok (ks,r1)→za5 8 ks=true∧zdn ks≤d∧zb0 I ks
 | 0,r,ks,r1,h=>by cases h
 | m+1,r,ks,r1,h=>by
  unfold zbk at h
  cases hk:zaf r with
  | nil=>rw[hk] at h;cases h
  | cons c t=>
   rw[hk] at h;dsimp only at h;split at h
   ·cases h
   ·rename_i hm
    have hmk:=zyf hm
    cases hx:qs t with
    | error e=>rw[hx] at h;cases h
    | ok x=>
     obtain ⟨k,r2⟩:=x;have G:=hq t k r2 hx;rw[hx] at h;dsimp only at h;have h1:=G.form (zc7 c) 8 ⟨fun _=>hmk,fun e=>absurd rfl e⟩;have h2:zgq (zcp (zc7 c) k)≤d:=by rw[zpx];exact G.deep
     have h3:zez I (zcp (zc7 c) k):=zsp G.nums;split at h
     ·rename_i r3 _
      cases hy:zbk qs m r3 with
      | error e=>rw[hy] at h;cases h
      | ok y=>
       obtain ⟨ks',r4⟩:=y;rw[hy] at h;cases h;obtain ⟨i1,i2,i3⟩:=zlh hq hy;refine ⟨by rw[za5,h1,i1];rfl,?_,?_⟩
       ·rw[zdn];omega
       ·rw[zb0];exact ⟨h3,i3⟩
     ·cases h;refine ⟨by rw[za5,h1];rfl,?_,?_⟩
      ·rw[zdn,zdn];omega
      ·rw[zb0,zb0];exact ⟨h3,trivial⟩
theorem zis {d:Nat} {k:Int} {f t u:ByteArray} {l h:List Int} {b p:Int} {ks:List QT} (hd:zdn ks+1≤d) (hn:(∀z∈l,I z)∧(∀z∈h,I z)∧I b∧zb0 I ks) (hk:za5 k ks=true)
 (ho:∀(o u':Int),((u'=8→1≤o∧o≤4)∧(u'≠8→o=0))→zja (.mk k o f t u l h b p ks) u'=true):Got I d (.mk k 0 f t u l h b p ks):=by
 refine ⟨rfl,fun o u' hu=>?_,by rw[zgq];exact hd,by rw[zez];exact hn⟩;rw[zcp,zba,ho o u' hu,hk];rfl
theorem zit {k o:Int} {f t u:ByteArray} {l h:List Int} {b p:Int} {ks:List QT} {under:Int} (h0:(under=8→1≤o∧o≤4)∧(under≠8→o=0)) (h1:1≤k∧k≤10) (h2:(3≤k∧k≤7∨k=10)→zbx f=true) (h3:¬(3≤k∧k≤7∨k=10)→f.size=0)
 (h4:¬(3≤k∧k≤6)→t.size=0) (h5:k≠6→u.size=0) (h6:k=7→1≤l.length∧l.length≤4∧h.length=l.length) (h7:k=10→l.length=1∧h.length=0) (h8:k≠7→k≠10→l.length=0∧h.length=0)
 (h9:k=9→0≤b∧b≤1048576) (h10:k≠9→b=0) (h11:k=10→1≤p∧p≤3) (h12:k≠10→p=0) (h13:(k=9∨k=10)→ks.length=1) (h14:k≠8→¬(k=9∨k=10)→ks.length=0):zja (.mk k o f t u l h b p ks) under=true:=by
 show ((((((((if under=8 then decide (1≤o∧o≤4) else decide (o=0)) && decide (1≤k∧k≤10)) && (if 3≤k∧k≤7∨k=10 then zbx f else decide (f.size=0)))
  && (decide (3≤k∧k≤6) || decide (t.size=0))) && (decide (k=6) || decide (u.size=0)))
  && (if k=7 then decide (1≤l.length∧l.length≤4∧h.length=l.length) else if k=10 then decide (l.length=1∧h.length=0) else decide (l.length=0∧h.length=0)))
  && (if k=9 then decide (0≤b∧b≤1048576) else decide (b=0)))
  && (if k=10 then decide (1≤p∧p≤3) else decide (p=0))
  && (if k=9∨k=10 then decide (ks.length=1) else decide (k=8) || decide (ks.length=0)))=true
 simp only[Bool.and_eq_true];refine ⟨⟨⟨⟨⟨⟨⟨⟨?_,decide_eq_true h1⟩,?_⟩,?_⟩,?_⟩,?_⟩,?_⟩,?_⟩,?_⟩
 ·by_cases e:under=8
  ·rw[if_pos e];exact decide_eq_true (h0.1 e)
  ·rw[if_neg e];exact decide_eq_true (h0.2 e)
 ·by_cases e:3≤k∧k≤7∨k=10
  ·rw[if_pos e];exact h2 e
  ·rw[if_neg e];exact decide_eq_true (h3 e)
 ·by_cases e:3≤k∧k≤6
  ·rw[decide_eq_true e];rfl
  ·rw[decide_eq_true (h4 e),Bool.or_true]
 ·by_cases e:k=6
  ·rw[decide_eq_true e];rfl
  ·rw[decide_eq_true (h5 e),Bool.or_true]
 ·by_cases e:k=7
  ·rw[if_pos e];exact decide_eq_true (h6 e)
  ·by_cases e':k=10
   ·rw[if_neg e,if_pos e'];exact decide_eq_true (h7 e')
   ·rw[if_neg e,if_neg e'];exact decide_eq_true (h8 e e')
 ·by_cases e:k=9
  ·rw[if_pos e];exact decide_eq_true (h9 e)
  ·rw[if_neg e];exact decide_eq_true (h10 e)
 ·by_cases e:k=10
  ·rw[if_pos e];exact decide_eq_true (h11 e)
  ·rw[if_neg e];exact decide_eq_true (h12 e)
 ·by_cases e:k=9∨k=10
  ·rw[if_pos e];exact decide_eq_true (h13 e)
  ·rw[if_neg e];by_cases e':k=8
   ·rw[decide_eq_true e'];rfl
   ·rw[decide_eq_true (h14 e' e),Bool.or_true]
theorem Got.one {d:Nat} {q:QT} (G:Got I d q) {k:Int} (hk:k≠8):za5 k [q]=true∧zdn [q]≤d∧zb0 I [q]:=by
 have:=G.form 0 k ⟨fun e=>absurd e hk,fun _=>rfl⟩;rw[zlg G.zero] at this;refine ⟨by rw[za5,this];rfl,by rw[zdn,zdn];have:=G.deep;omega,by rw[zb0,zb0];exact ⟨G.nums,trivial⟩⟩
set_option maxHeartbeats 2000000 in
theorem zyg (hI:∀r n,par r=some n→I n) (hI0:I 0) {qs:R→E (QT × R)} {d:Nat} (hq:∀t q r,qs t = .ok (q,r)→Got I d q) {k:Int} (hk:3≤k∧k≤10) {r:R} {q:QT} {r1:R} (h:ze6 num par qs k r = .ok (q,r1)):Got I (d+1) q:=by
 unfold ze6 at h;split at h
 ·split at h
  ·cases h;refine zis (by simp[zdn]) ⟨by simp,by simp,hI0,by rw[zb0];trivial⟩ rfl fun o u hu=>?_
   apply zit hu <;> first | omega | (intros;rfl) | (intros;omega) | (intros;exact ⟨rfl,rfl⟩)
  ·obtain ⟨⟨ks,r2⟩,hc,h⟩:=zad h;obtain ⟨r3,_,h⟩:=zad h;cases h;obtain ⟨c1,c2,c3⟩:=zlh hq hc;refine zis (by omega) ⟨by simp,by simp,hI0,c3⟩ c1 fun o u hu=>?_
   apply zit hu <;> first | omega | (intros;rfl) | (intros;omega) | (intros;exact ⟨rfl,rfl⟩)
 ·split at h
  ·obtain ⟨⟨b,r2⟩,hb,h⟩:=zad h;dsimp only at h;have hbI:=zut hI hb;split at h
   ·cases h
   ·rename_i hr
    obtain ⟨r3,_,h⟩:=zad h;obtain ⟨⟨q1,r4⟩,hq1,h⟩:=zad h;obtain ⟨r5,_,h⟩:=zad h;cases h;obtain ⟨c1,c2,c3⟩:=(hq _ _ _ hq1).one (k:=9) (by decide);refine zis (Nat.add_le_add_right c2 1) ⟨by simp,by simp,hbI,c3⟩ c1 fun o u hu=>?_
    apply zit hu <;> first | omega | (intros;rfl) | (intros;omega) | (intros;exact ⟨rfl,rfl⟩)
  ·split at h
   ·obtain ⟨⟨p,r2⟩,ho,h⟩:=zad h;obtain ⟨r3,_,h⟩:=zad h;obtain ⟨⟨f,r4⟩,hf,h⟩:=zad h;obtain ⟨r5,_,h⟩:=zad h;obtain ⟨⟨n,r6⟩,hn,h⟩:=zad h;obtain ⟨r7,_,h⟩:=zad h;obtain ⟨⟨q1,r8⟩,hq1,h⟩:=zad h;obtain ⟨r9,_,h⟩:=zad h;cases h;have hp:=yfg ho;have hnm:=zpy hf;have hnI:=zut hI hn;obtain ⟨c1,c2,c3⟩:=(hq _ _ _ hq1).one (k:=10) (by decide);refine zis (Nat.add_le_add_right c2 1) ⟨by simpa using hnI,by simp,hI0,c3⟩ c1 fun o u hu=>?_
    apply zit hu <;> first | omega | (intros;exact hnm) | (intros;rfl) | (intros;omega) | (intros;exact ⟨rfl,rfl⟩)
   ·split at h
    ·obtain ⟨⟨f,r2⟩,hf,h⟩:=zad h;obtain ⟨r3,_,h⟩:=zad h;obtain ⟨⟨lo,r4⟩,hl,h⟩:=zad h;obtain ⟨r5,_,h⟩:=zad h;obtain ⟨⟨hi,r6⟩,hh,h⟩:=zad h;dsimp only at h;split at h
     ·cases h
     ·rename_i hlen
      obtain ⟨r7,_,h⟩:=zad h;cases h;have hnm:=zpy hf;obtain ⟨l0,hl⟩:=zuu hI hl;obtain ⟨_,hh⟩:=zuu hI hh;have l1:=List.length_pos_iff.2 l0;refine zis (by simp[zdn]) ⟨hl,hh,hI0,by rw[zb0];trivial⟩ rfl fun o u hu=>?_
      apply zit hu <;> first | omega | (intros;exact hnm) | (intros;rfl) | (intros;omega) | (intros;exact ⟨rfl,rfl⟩)
    ·obtain ⟨⟨f,r2⟩,hf,h⟩:=zad h;obtain ⟨r3,_,h⟩:=zad h;obtain ⟨⟨t,r4⟩,ht,h⟩:=zad h;dsimp only at h;have hnm:=zpy hf;split at h
     ·obtain ⟨r5,_,h⟩:=zad h;obtain ⟨⟨u',r6⟩,hu',h⟩:=zad h;obtain ⟨r7,_,h⟩:=zad h;cases h;refine zis (by simp[zdn]) ⟨by simp,by simp,hI0,by rw[zb0];trivial⟩ rfl fun o u hu=>?_
      apply zit hu <;> first | omega | (intros;exact hnm) | (intros;rfl) | (intros;omega) | (intros;exact ⟨rfl,rfl⟩)
     ·obtain ⟨r5,_,h⟩:=zad h;cases h;refine zis (by simp[zdn]) ⟨by simp,by simp,hI0,by rw[zb0];trivial⟩ rfl fun o u hu=>?_
      apply zit hu <;> first | omega | (intros;exact hnm) | (intros;rfl) | (intros;omega) | (intros;exact ⟨rfl,rfl⟩)
theorem znr (hI:∀r n,par r=some n→I n) (hI0:I 0):∀{d:Nat} {r:R} {q:QT} {r1:R},zaz num par d r = .ok (q,r1)→Got I d q
 | 0,r,q,r1,h=>by rw[zaz] at h;split at h <;> cases h
 | d+1,r,q,r1,h=>by
  rw[zaz] at h;have hkf:=(zef (d+1) r).2
  cases hx:zc0 (d+1) r with
  | error e=>rw[hx] at h;cases h
  | ok x=>
   obtain ⟨k,r2⟩:=x;obtain ⟨k1,k2,_,_⟩:=hkf k r2 hx;rw[hx] at h;dsimp only at h;split at h
   ·cases h;refine zis (by simp[zdn]) ⟨by simp,by simp,hI0,by rw[zb0];trivial⟩ rfl fun o u hu=>?_
    apply zit hu <;> first | omega | (intros;rfl) | (intros;omega) | (intros;exact ⟨rfl,rfl⟩)
   ·cases hw:zaj 40 r2 with
    | error e=>rw[hw] at h;cases h
    | ok r3=>
     rw[hw] at h;exact zyg hI hI0 (fun t q r hq=>znr hI hI0 hq) (by omega) h
theorem zuv (hI:∀r n,par r=some n→I n) (hI0:I 0) {r:R} {q:QT} (h:zbf num par r = .ok q):zba 0 q=true∧zgq q≤6∧zez I q:=by
 unfold zbf at h;split at h
 ·cases h
 ·cases hx:zaz num par 6 r with
  | error e=>rw[hx] at h;cases h
  | ok x=>
   obtain ⟨q',r1⟩:=x;have G:=znr hI hI0 hx;rw[hx] at h;dsimp only at h;split at h
   ·cases h;have:=G.form 0 0 ⟨fun e=>(by cases e),fun _=>rfl⟩;rw[zlg G.zero] at this;exact ⟨this,G.deep,G.nums⟩
   ·cases h
end
end QryP
end
