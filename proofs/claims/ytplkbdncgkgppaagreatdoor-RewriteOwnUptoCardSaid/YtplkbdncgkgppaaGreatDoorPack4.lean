/- Lemmas that the last text leans on. -/
import Derived.Test.YtplkbdncgkgppaaGreatDoorPack3
import Derived.Shelf.Strings.Builder1
import Derived.Shelf.Small.Strs
import Derived.Shelf.Strings.BuilderF
import Derived.Shelf.Strings.BuilderK
import Derived.Shelf.Strings.BuilderRune
import Derived.Shelf.Utf8.AppendRune
import Derived.Shelf.Utf8.AppendRunePlain
import Derived.Shelf.Strconv.Itoa0
import Derived.Shelf.Strconv.Itoa1
import Derived.Shelf.LaysM
import Derived.Shelf.Strconv.Itoa2
import Derived.Shelf.Strconv.Itoa3
import Derived.Shelf.Strconv.Itoa4
import Derived.Shelf.Strconv.ParseIntEmpty
import Derived.Shelf.Strconv.Clone
import Derived.Shelf.Strconv.SyntaxError
import Derived.Shelf.LaysC
import Derived.Shelf.Strconv.ToError
import Derived.Shelf.Strconv.Lower
import Derived.Shelf.Strconv.ParseUint10
import Derived.Shelf.Strconv.ParseUint10Empty
import Derived.Shelf.Strconv.ParseUint10Any
import Derived.Shelf.Strconv.ParseInt10
import Derived.Shelf.Strconv.RangeError
import Derived.Shelf.Strconv.ToErrorRange
import Derived.Shelf.Strconv.ParseUintEmpty
import Derived.Shelf.Strconv.ParseUint10b64
import Derived.Shelf.Strconv.ParseUint10b32
import Derived.Shelf.Strconv.ParseUint10b16
import Derived.Shelf.Strconv.ParseUint10b8
import Derived.Shelf.Strconv.ParseUint10At
import Derived.Shelf.Strconv.ParseInt10At64
import Derived.Shelf.Strconv.ParseInt10At32
import Derived.Shelf.Strconv.ParseInt10At16
import Derived.Shelf.Strconv.ParseInt10At8
import Derived.Shelf.Strconv.ParseInt10All
import Derived.Shelf.Strconv.ParseIntPublic10
import Derived.Shelf.Strconv.ErrVarParseInt
import Derived.Shelf.Strings.Search1
import Derived.Shelf.Strings.Prefix
import Derived.Shelf.Unicode.Decode
import Derived.Shelf.Unicode.DecodeSlow
import Derived.Shelf.Unicode.DecodeAny
import Derived.Shelf.Strings.BuilderCap
import Derived.Test.YtplkbdncgkgppaaGreatDoorProg
set_option linter.all false
section
namespace QryP
open SchP
inductive Sz (n:Nat):QT→Prop where
 | mk {k o:Int} {f t u:ByteArray} {l h:List Int} {b p:Int} {ks:List QT} (hf:f.size≤n) (ht:t.size≤n) (hu:u.size≤n) (hl:l.length≤n) (hh:h.length≤n) (hn:ks.length≤n) (hk:∀x∈ks,Sz n x):Sz n (.mk k o f t u l h b p ks)
theorem zyh {n:Nat} {o:Int} {q:QT} (h:Sz n q):Sz n (zcp o q):=by
 cases h with
 | mk hf ht hu hl hh hn hk=>exact .mk hf ht hu hl hh hn hk
theorem zeg (l:R):(bytes l).size=l.length:=by unfold bytes;rfl
theorem zpz {r:R} {f:ByteArray} {r1:R} (h:zdo r = .ok (f,r1)):f.size≤r.length:=by
 unfold zdo at h;have h1:=za6 r;have h2:=zfb zco (zaf r);split at h
 ·cases h;rw[zeg];omega
 ·cases h
theorem yas (at_:Nat):∀(k:Nat) (r:R),r.length≤k→∀b r1,zed at_ r = .ok (b,r1)→b.length≤r.length
 | _,[],_,b,r1,e=>by rw[zed] at e;cases e
 | 0,c::t,h,_,_,_=>by simp at h
 | k+1,c::t,h,b,r1,e=>by
  have push:∀(x:UInt8) (t':R) (b:R),t'.length≤t.length→zfa x (zed at_ t') = .ok (b,r1)→b.length≤(c::t).length:=by
   intro x t' b ht e
   match hx:zed at_ t',e with
   | .ok (b',r'),e=>
     have hb:=yas at_ k t' (by simp at h;omega) b' r' hx;rw[zfa] at e;cases e;simp only[List.length_cons];omega
   | .error x,e=>rw[zfa] at e;cases e
  rw[zed.eq_def] at e;dsimp only at e;split at e
  ·cases e;simp
  ·split at e
   ·cases e
   ·split at e
    ·exact push _ t b (Nat.le_refl _) e
    ·cases t with
     | nil=>cases e
     | cons d t'=>
      dsimp only at e;split at e
      ·exact push _ t' b (by simp) e
      ·match t',e with
       | [],e=>cases e
       | [a],e=>cases e
       | a::b'::t'',e=>
        dsimp only at e;split at e
        ·split at e
         ·exact push _ t'' b (by simp;omega) e
         ·cases e
        ·cases e
theorem zuw {r:R} {f:ByteArray} {r1:R} (h:zee r = .ok (f,r1)):f.size≤r.length:=by
 unfold zee at h
 cases hw:zaj 34 r with
 | error e=>rw[hw] at h;cases h
 | ok t=>
  have hl:=za0 hw;rw[hw] at h;dsimp only at h
  cases hs:zed (zaf r).length t with
  | error e=>rw[hs] at h;cases h
  | ok x=>
   obtain ⟨b,r'⟩:=x;rw[hs] at h;cases h;have:=yas (zaf r).length t.length t (Nat.le_refl _) b _ hs;rw[zeg];omega
section
variable {num:Int→R} {par:R→Option Int}
theorem zux:∀{m:Nat} {r:R} {l:List Int} {r1:R},zgw num par m r = .ok (l,r1)→l.length≤m
 | 0,r,l,r1,h=>by cases h
 | m+1,r,l,r1,h=>by
  unfold zgw at h
  cases hx:zgp num par r with
  | error e=>rw[hx] at h;cases h
  | ok x=>
   obtain ⟨n,r2⟩:=x;rw[hx] at h;dsimp only at h
   cases hk:zaf r2 with
   | nil=>rw[hk] at h;cases h;simp
   | cons c t=>
    rw[hk] at h;dsimp only at h;split at h
    ·cases h;simp
    ·split at h
     ·cases h
     ·cases hy:zgw num par m (c::t) with
      | error e=>rw[hy] at h;cases h
      | ok y=>
       obtain ⟨l',r3⟩:=y;rw[hy] at h;cases h;have:=zux hy;simp only[List.length_cons];omega
theorem zns {qs:R→E (QT × R)} {n:Nat} (hf:∀t,zgx t.length (qs t)) (hq:∀t q r,t.length≤n→qs t = .ok (q,r)→Sz (n+1) q):∀{m:Nat} {r:R} {ks:List QT} {r1:R},r.length≤n→zbk qs m r = .ok (ks,r1)→ks.length≤m∧∀x∈ks,Sz (n+1) x
 | 0,r,ks,r1,_,h=>by cases h
 | m+1,r,ks,r1,hr,h=>by
  unfold zbk at h;have hs:=za6 r
  cases hk:zaf r with
  | nil=>rw[hk] at h;cases h
  | cons c t=>
   rw[hk] at h hs;dsimp only at h;simp only[List.length_cons] at hs;split at h
   ·cases h
   ·have hft:=hf t
    cases hx:qs t with
    | error e=>rw[hx] at h;cases h
    | ok x=>
     obtain ⟨k,r2⟩:=x;have G:=zyh (o:=zc7 c) (hq t k r2 (by omega) hx);rw[hx] at h hft;replace hft:r2.length≤t.length:=hft;have hs2:=za6 r2;dsimp only at h;split at h
     ·rename_i r3 he
      rw[he] at hs2;simp only[List.length_cons] at hs2
      cases hy:zbk qs m r3 with
      | error e=>rw[hy] at h;cases h
      | ok y=>
       obtain ⟨ks',r4⟩:=y;rw[hy] at h;cases h;obtain ⟨i1,i2⟩:=zns hf hq (by omega) hy;refine ⟨by simp only[List.length_cons];omega,?_⟩;intro x hx;rcases List.mem_cons.1 hx with rfl | hx
       ·exact G
       ·exact i2 x hx
     ·cases h;exact ⟨by simp,by simpa using G⟩
theorem zfc {r:R} {n:Int} {r1:R} (h:zgp num par r = .ok (n,r1)):r1.length≤r.length:=by have:=zfy (num:=num) (par:=par) r;rw[h] at this;exact this
theorem zh7 {r:R} {n:ByteArray} {r1:R} (h:zdo r = .ok (n,r1)):r1.length≤r.length:=by have:=zhf r;rw[h] at this;exact this
theorem zrn {r:R} {n:Int} {r1:R} (h:opS r = .ok (n,r1)):r1.length≤r.length:=by have:=zuq r;rw[h] at this;exact this
theorem zsq {r:R} {n:ByteArray} {r1:R} (h:zee r = .ok (n,r1)):r1.length≤r.length:=by have:=zjt r;rw[h] at this;exact this
theorem zuy {m:Nat} {r:R} {n:List Int} {r1:R} (hm:r.length<m) (h:zgw num par m r = .ok (n,r1)):r1.length≤r.length:=by have:=zjg (num:=num) (par:=par) m r hm;rw[h] at this;exact this
theorem zay:emp.size=0:=rfl
theorem ybf {qs:R→E (QT × R)} {n:Nat} (hf:∀t,zgx t.length (qs t)) (hq:∀t q r,t.length≤n→qs t = .ok (q,r)→Sz (n+1) q) {k:Int} {r:R} {q:QT} {r1:R} (hr:r.length≤n) (h:ze6 num par qs k r = .ok (q,r1)):Sz (n+1) q:=by
 unfold ze6 at h;split at h
 ·split at h
  ·cases h;exact .mk (by simp[zay]) (by simp[zay]) (by simp[zay]) (by simp) (by simp) (by simp) (by simp)
  ·obtain ⟨⟨ks,r2⟩,hc,h⟩:=zad h;obtain ⟨r3,_,h⟩:=zad h;cases h;obtain ⟨c1,c2⟩:=zns hf hq hr hc;exact .mk (by simp[zay]) (by simp[zay]) (by simp[zay]) (by simp) (by simp) (by first | omega | (dsimp only;omega)) c2
 ·split at h
  ·obtain ⟨⟨b,r2⟩,hb,h⟩:=zad h;dsimp only at h;have l1:=zfc hb;split at h
   ·cases h
   ·obtain ⟨r3,hw,h⟩:=zad h;have l2:=za0 hw;obtain ⟨⟨q1,r4⟩,hq1,h⟩:=zad h;obtain ⟨r5,_,h⟩:=zad h;cases h;exact .mk (by simp[zay]) (by simp[zay]) (by simp[zay]) (by simp) (by simp) (by simp) (by simpa using hq _ _ _ (by first | omega | (dsimp only;omega)) hq1)
  ·split at h
   ·obtain ⟨⟨p,r2⟩,ho,h⟩:=zad h;obtain ⟨r3,w1,h⟩:=zad h;obtain ⟨⟨f,r4⟩,hnf,h⟩:=zad h;obtain ⟨r5,w2,h⟩:=zad h;obtain ⟨⟨m,r6⟩,hn,h⟩:=zad h;obtain ⟨r7,w3,h⟩:=zad h;obtain ⟨⟨q1,r8⟩,hq1,h⟩:=zad h;obtain ⟨r9,_,h⟩:=zad h;cases h;have a1:=zrn ho;have a2:=za0 w1;have a3:=zh7 hnf;have a4:=zpz hnf;have a5:=za0 w2;have a6:=zfc hn;have a7:=za0 w3;exact .mk (by first | omega | (dsimp only;omega)) (by simp[zay]) (by simp[zay]) (by simp) (by simp) (by simp) (by simpa using hq _ _ _ (by first | omega | (dsimp only;omega)) hq1)
   ·split at h
    ·obtain ⟨⟨f,r2⟩,hnf,h⟩:=zad h;obtain ⟨r3,w1,h⟩:=zad h;obtain ⟨⟨lo,r4⟩,hl,h⟩:=zad h;obtain ⟨r5,w2,h⟩:=zad h;obtain ⟨⟨hi,r6⟩,hh,h⟩:=zad h;dsimp only at h;split at h
     ·cases h
     ·obtain ⟨r7,_,h⟩:=zad h;cases h;have a3:=zh7 hnf;have a4:=zpz hnf;have a5:=za0 w1;have a6:=zux hl;have a7:=zuy (Nat.lt_succ_self _) hl;have a8:=za0 w2;have a9:=zux hh;exact .mk (by first | omega | (dsimp only;omega)) (by simp[zay]) (by simp[zay]) (by first | omega | (dsimp only;omega)) (by first | omega | (dsimp only;omega)) (by simp) (by simp)
    ·obtain ⟨⟨f,r2⟩,hnf,h⟩:=zad h;obtain ⟨r3,w1,h⟩:=zad h;obtain ⟨⟨t,r4⟩,ht,h⟩:=zad h;have a3:=zh7 hnf;have a4:=zpz hnf;have a5:=za0 w1;have a6:=zuw ht;have a7:=zsq ht;dsimp only at h;split at h
     ·obtain ⟨r5,w2,h⟩:=zad h;obtain ⟨⟨u',r6⟩,hu',h⟩:=zad h;obtain ⟨r7,_,h⟩:=zad h;cases h;have a8:=za0 w2;have a9:=zuw hu';exact .mk (by first | omega | (dsimp only;omega)) (by first | omega | (dsimp only;omega)) (by first | omega | (dsimp only;omega)) (by simp) (by simp) (by simp) (by simp)
     ·obtain ⟨r5,w2,h⟩:=zad h;cases h;exact .mk (by first | omega | (dsimp only;omega)) (by first | omega | (dsimp only;omega)) (by simp[zay]) (by simp) (by simp) (by simp) (by simp)
theorem zro {n:Nat}:∀{d:Nat} {r:R} {q:QT} {r1:R},r.length≤n→zaz num par d r = .ok (q,r1)→Sz (n+1) q
 | 0,r,q,r1,_,h=>by rw[zaz] at h;split at h <;> cases h
 | d+1,r,q,r1,hr,h=>by
  rw[zaz] at h;have hkf:=(zef (d+1) r).2
  cases hx:zc0 (d+1) r with
  | error e=>rw[hx] at h;cases h
  | ok x=>
   obtain ⟨k,r2⟩:=x;obtain ⟨k1,k2,k3,_⟩:=hkf k r2 hx;rw[hx] at h;dsimp only at h;split at h
   ·cases h;exact .mk (by simp[zay]) (by simp[zay]) (by simp[zay]) (by simp) (by simp) (by simp) (by simp)
   ·cases hw:zaj 40 r2 with
    | error e=>rw[hw] at h;cases h
    | ok r3=>
     rw[hw] at h;have:=za0 hw;exact ybf (fun t=>zfz d t) (fun t q r ht hq=>zro ht hq) (by omega) h
theorem zyi {r:R} {q:QT} (h:zbf num par r = .ok q):Sz 4097 q:=by
 unfold zbf at h;split at h
 ·cases h
 ·cases hx:zaz num par 6 r with
  | error e=>rw[hx] at h;cases h
  | ok x=>
   obtain ⟨q',r1⟩:=x;rw[hx] at h;dsimp only at h;split at h
   ·cases h;exact zro (by omega) hx
   ·cases h
end
end QryP
end
section
namespace QryP
open SchP
mutual
def zb5:QT→Nat
 | .mk _ _ f t u lo hi _ _ ks=>f.size+t.size+u.size+lo.length+hi.length+zam ks+10
def zam:List QT→Nat
 | []=>0
 | q::ks=>zb5 q+zam ks
end
theorem zli (o:Int):∀q:QT,zb5 (zcp o q)=zb5 q
 | .mk _ _ _ _ _ _ _ _ _ _=>by rw[zcp,zb5,zb5]
theorem zp0 {r:R} {f:ByteArray} {r1:R} (h:zdo r = .ok (f,r1)):f.size+r1.length≤r.length:=by
 unfold zdo at h;have h1:=za6 r;have h2:=zfb zco (zaf r);split at h
 ·cases h;rw[zeg];omega
 ·cases h
theorem yat (at_:Nat):∀(k:Nat) (r:R),r.length≤k→∀b r1,zed at_ r = .ok (b,r1)→b.length+r1.length≤r.length
 | _,[],_,b,r1,e=>by rw[zed] at e;cases e
 | 0,c::t,h,_,_,_=>by simp at h
 | k+1,c::t,h,b,r1,e=>by
  have push:∀(x:UInt8) (t':R) (b:R),t'.length≤t.length→zfa x (zed at_ t') = .ok (b,r1)→b.length+r1.length≤(c::t).length:=by
   intro x t' b ht e
   match hx:zed at_ t',e with
   | .ok (b',r'),e=>
     have hb:=yat at_ k t' (by simp at h;omega) b' r' hx;rw[zfa] at e;cases e;simp only[List.length_cons];omega
   | .error x,e=>rw[zfa] at e;cases e
  rw[zed.eq_def] at e;dsimp only at e;split at e
  ·cases e;simp
  ·split at e
   ·cases e
   ·split at e
    ·exact push _ t b (Nat.le_refl _) e
    ·cases t with
     | nil=>cases e
     | cons d t'=>
      dsimp only at e;split at e
      ·exact push _ t' b (by simp) e
      ·match t',e with
       | [],e=>cases e
       | [a],e=>cases e
       | a::b'::t'',e=>
        dsimp only at e;split at e
        ·split at e
         ·exact push _ t'' b (by simp;omega) e
         ·cases e
        ·cases e
theorem zuz {r:R} {f:ByteArray} {r1:R} (h:zee r = .ok (f,r1)):f.size+r1.length≤r.length:=by
 unfold zee at h
 cases hw:zaj 34 r with
 | error e=>rw[hw] at h;cases h
 | ok t=>
  have hl:=za0 hw;rw[hw] at h;dsimp only at h
  cases hs:zed (zaf r).length t with
  | error e=>rw[hs] at h;cases h
  | ok x=>
   obtain ⟨b,r'⟩:=x;rw[hs] at h;cases h;have:=yat (zaf r).length t.length t (Nat.le_refl _) b _ hs;rw[zeg];omega
section
variable {num:Int→R} {par:R→Option Int}
theorem zu0:∀{m:Nat} {r:R} {l:List Int} {r1:R},zgw num par m r = .ok (l,r1)→l.length+r1.length≤r.length+1
 | 0,r,l,r1,h=>by cases h
 | m+1,r,l,r1,h=>by
  unfold zgw at h
  cases hx:zgp num par r with
  | error e=>rw[hx] at h;cases h
  | ok x=>
   obtain ⟨n,r2⟩:=x;have h2:=zfc hx;rw[hx] at h;dsimp only at h;have hs:=za6 r2
   cases hk:zaf r2 with
   | nil=>rw[hk] at h;cases h;simp
   | cons c t=>
    rw[hk] at h hs;dsimp only at h;split at h
    ·cases h;simp only[List.length_cons,List.length_nil] at hs ⊢;omega
    ·split at h
     ·cases h
     ·rename_i hne
      cases hy:zgw num par m (c::t) with
      | error e=>rw[hy] at h;cases h
      | ok y=>
       obtain ⟨l',r3⟩:=y;rw[hy] at h;cases h;have:=zu0 hy;simp only[List.length_cons] at this hne hs ⊢;omega
theorem znt {qs:R→E (QT × R)} (hq:∀t q r,qs t = .ok (q,r)→zb5 q+10*r.length≤10*t.length):∀{m:Nat} {r:R} {ks:List QT} {r1:R},zbk qs m r = .ok (ks,r1)→zam ks+10*r1.length≤10*r.length
 | 0,r,ks,r1,h=>by cases h
 | m+1,r,ks,r1,h=>by
  unfold zbk at h;have hs:=za6 r
  cases hk:zaf r with
  | nil=>rw[hk] at h;cases h
  | cons c t=>
   rw[hk] at h hs;dsimp only at h;simp only[List.length_cons] at hs;split at h
   ·cases h
   ·cases hx:qs t with
    | error e=>rw[hx] at h;cases h
    | ok x=>
     obtain ⟨k,r2⟩:=x;have G:=hq t k r2 hx;rw[hx] at h;have hs2:=za6 r2;dsimp only at h;split at h
     ·rename_i r3 he
      rw[he] at hs2;simp only[List.length_cons] at hs2
      cases hy:zbk qs m r3 with
      | error e=>rw[hy] at h;cases h
      | ok y=>
       obtain ⟨ks',r4⟩:=y;rw[hy] at h;cases h;have i1:=znt hq hy;rw[zam,zli];omega
     ·cases h;rw[zam,zam,zli];omega
theorem ybg {qs:R→E (QT × R)} (hq:∀t q r,qs t = .ok (q,r)→zb5 q+10*r.length≤10*t.length) {k:Int} {r:R} {q:QT} {r1:R} (h:ze6 num par qs k r = .ok (q,r1)):zb5 q+10*r1.length≤10*r.length+10:=by
 unfold ze6 at h;split at h
 ·have hs:=za6 r;split at h
  ·rename_i t he
   rw[he] at hs;cases h;simp only[zb5,zam,zay,List.length_nil,List.length_cons] at hs ⊢;omega
  ·obtain ⟨⟨ks,r2⟩,hc,h⟩:=zad h;obtain ⟨r3,w1,h⟩:=zad h;cases h;have c1:=znt hq hc;have a1:=za0 w1;simp only[zb5,zay,List.length_nil];omega
 ·split at h
  ·obtain ⟨⟨b,r2⟩,hb,h⟩:=zad h;dsimp only at h;have l1:=zfc hb;split at h
   ·cases h
   ·obtain ⟨r3,hw,h⟩:=zad h;have l2:=za0 hw;obtain ⟨⟨q1,r4⟩,hq1,h⟩:=zad h;obtain ⟨r5,w1,h⟩:=zad h;cases h;have a1:=za0 w1;have a2:=hq _ _ _ hq1;try dsimp only at a1 a2
    simp only[zb5,zam,zay,List.length_nil];omega
  ·split at h
   ·obtain ⟨⟨p,r2⟩,ho,h⟩:=zad h;obtain ⟨r3,w1,h⟩:=zad h;obtain ⟨⟨f,r4⟩,hnf,h⟩:=zad h;obtain ⟨r5,w2,h⟩:=zad h;obtain ⟨⟨m,r6⟩,hn,h⟩:=zad h;obtain ⟨r7,w3,h⟩:=zad h;obtain ⟨⟨q1,r8⟩,hq1,h⟩:=zad h;obtain ⟨r9,w4,h⟩:=zad h;cases h;have a1:=zrn ho;have a2:=za0 w1;have a4:=zp0 hnf;have a5:=za0 w2;have a6:=zfc hn;have a7:=za0 w3;have a8:=hq _ _ _ hq1;have a9:=za0 w4;try dsimp only at a1 a2 a4 a5 a6 a7 a8 a9
    simp only[zb5,zam,zay,List.length_nil,List.length_cons];omega
   ·split at h
    ·obtain ⟨⟨f,r2⟩,hnf,h⟩:=zad h;obtain ⟨r3,w1,h⟩:=zad h;obtain ⟨⟨lo,r4⟩,hl,h⟩:=zad h;obtain ⟨r5,w2,h⟩:=zad h;obtain ⟨⟨hi,r6⟩,hh,h⟩:=zad h;dsimp only at h;split at h
     ·cases h
     ·obtain ⟨r7,w3,h⟩:=zad h;cases h;have a4:=zp0 hnf;have a5:=za0 w1;have a6:=zu0 hl;have a8:=za0 w2;have a9:=zu0 hh;have b1:=za0 w3;try dsimp only at a4 a5 a6 a8 a9 b1
      simp only[zb5,zam,zay];omega
    ·obtain ⟨⟨f,r2⟩,hnf,h⟩:=zad h;obtain ⟨r3,w1,h⟩:=zad h;obtain ⟨⟨t,r4⟩,ht,h⟩:=zad h;have a4:=zp0 hnf;have a5:=za0 w1;have a6:=zuz ht;dsimp only at h;split at h
     ·obtain ⟨r5,w2,h⟩:=zad h;obtain ⟨⟨u',r6⟩,hu',h⟩:=zad h;obtain ⟨r7,w3,h⟩:=zad h;cases h;have a8:=za0 w2;have a9:=zuz hu';have b1:=za0 w3;try dsimp only at a4 a5 a6 a8 a9 b1
      simp only[zb5,zam,List.length_nil];omega
     ·obtain ⟨r5,w2,h⟩:=zad h;cases h;have a8:=za0 w2;try dsimp only at a4 a5 a6 a8
      simp only[zb5,zam,zay,List.length_nil];omega
theorem zrp:∀{d:Nat} {r:R} {q:QT} {r1:R},zaz num par d r = .ok (q,r1)→zb5 q+10*r1.length≤10*r.length
 | 0,r,q,r1,h=>by rw[zaz] at h;split at h <;> cases h
 | d+1,r,q,r1,h=>by
  rw[zaz] at h;have hkf:=(zef (d+1) r).2
  cases hx:zc0 (d+1) r with
  | error e=>rw[hx] at h;cases h
  | ok x=>
   obtain ⟨k,r2⟩:=x;obtain ⟨k1,k2,k3,_⟩:=hkf k r2 hx;rw[hx] at h;dsimp only at h;split at h
   ·cases h;simp only[zb5,zam,zay,List.length_nil];omega
   ·cases hw:zaj 40 r2 with
    | error e=>rw[hw] at h;cases h
    | ok r3=>
     rw[hw] at h;have h1:=za0 hw;have h2:=ybg (fun t q r hq=>zrp hq) h;omega
theorem zyj {r:R} {q:QT} (h:zbf num par r = .ok q):zb5 q≤40960:=by
 unfold zbf at h;split at h
 ·cases h
 ·cases hx:zaz num par 6 r with
  | error e=>rw[hx] at h;cases h
  | ok x=>
   obtain ⟨q',r1⟩:=x;have hm:=zrp hx;rw[hx] at h;dsimp only at h;split at h
   ·cases h;omega
   ·cases h
end
end QryP
end
section
namespace Go.Proofs
open Go.Shelf
def Tryz.lays169_ren:Go.Shelf.Ren:=⟨fun | 169=>56 | n=>n,fun | 70=>108 | 9=>9 | 0=>0 | 72=>110 | 37=>93 | 127=>149 | 3=>3 | 5=>5 | n=>n,fun | n=>n⟩
theorem Tryz.lays169:Go.Proofs.Lays.n169 Tryz.prog Tryz.lays169_ren:={
 mixed:=by kernel_rfl
 f169:=Tryz.func56.trans (congrArg some (by kernel_rfl))
 t0:=Tryz.underlying0
 a0:=Tryz.isAgg0
 z0:=Tryz.sizeOf0
 v0:=Tryz.zeroValue0
 t3:=Tryz.underlying3
 a3:=Tryz.isAgg3
 z3:=Tryz.sizeOf3
 v3:=Tryz.zeroValue3
 t9:=Tryz.underlying9
 a9:=Tryz.isAgg9
 z9:=Tryz.sizeOf9
 v9:=Tryz.zeroValue9
 t37:=Tryz.underlying93
 a37:=Tryz.isAgg93
 z37:=Tryz.sizeOf93
 v37:=Tryz.zeroValue93
 t70:=Tryz.underlying108
 a70:=Tryz.isAgg108
 z70:=Tryz.sizeOf108
 v70:=Tryz.zeroValue108
 t72:=Tryz.underlying110
 a72:=Tryz.isAgg110
 z72:=Tryz.sizeOf110
 v72:=Tryz.zeroValue110
 t127:=Tryz.underlying149
 a127:=Tryz.isAgg149
 z127:=Tryz.sizeOf149
 v127:=Tryz.zeroValue149 }
theorem Tryz.Builder_Extra_169:Builder.Extra Tryz.prog Tryz.lays169_ren:={
 sizeBuilder:=by kernel_rfl
 liesBuilder:=by kernel_rfl
 t5:=Tryz.underlying5
 a5:=Tryz.isAgg5
 z5:=Tryz.sizeOf5
 v5:=Tryz.zeroValue5
 infoByte:=by kernel_rfl
 cellsByte:=by kernel_rfl
 sizeByte:=by kernel_rfl
 neB5:=by decide }
def Tryz.lays137_ren:Go.Shelf.Ren:=⟨fun | 137=>76 | 217=>123 | 266=>153 | n=>n,fun | 9=>9 | 5=>5 | 3=>3 | n=>n,fun | n=>n⟩
theorem Tryz.lays137:Go.Proofs.Lays.n137 Tryz.prog Tryz.lays137_ren:={
 mixed:=by kernel_rfl
 f137:=Tryz.func76.trans (congrArg some (by kernel_rfl))
 f217:=Tryz.func123.trans (congrArg some (by kernel_rfl))
 f266:=Tryz.func153.trans (congrArg some (by kernel_rfl))
 t3:=Tryz.underlying3
 a3:=Tryz.isAgg3
 z3:=Tryz.sizeOf3
 v3:=Tryz.zeroValue3
 t5:=Tryz.underlying5
 a5:=Tryz.isAgg5
 z5:=Tryz.sizeOf5
 v5:=Tryz.zeroValue5
 t9:=Tryz.underlying9
 a9:=Tryz.isAgg9
 z9:=Tryz.sizeOf9
 v9:=Tryz.zeroValue9 }
open Go.RowKit in
theorem Tryz.strings_IndexByte (s:ByteArray) (c:Int) (w:World) :
 Calls Tryz.prog 76 #[.string s,.int .u8 c] w fun e w'=>e = .returned (.int .i64 (Lib.indexByte s.data.toList c.toNat.toUInt8))∧w'=w:=Any.strings_IndexByte Tryz.lays137 s c w
open Go.RowKit in
theorem Tryz.Builder_String_any_k (B b:Nat) (l:List UInt8) (w:World) (h:Lib.IsBuilderF 110 5 B b (Lib.byteCells l) w) (hBw:B≤w.heap.size) :
 Calls Tryz.prog 56 #[.pointer (some ⟨b,0,none⟩)] w fun e w'=>e = .returned (.string ⟨l.toArray⟩)∧(Lib.IsBuilderF 110 5 B b (Lib.byteCells l) w'∧Below B w w'∧Lib.OthersKept 5 (some b) w w'):=Any.Builder_String_any_k Tryz.lays169 Tryz.Builder_Extra_169 B b l w h hBw
def Tryz.lays242_ren:Go.Shelf.Ren:=⟨fun | 242=>193 | 278=>198 | n=>n,fun | 37=>93 | 21=>21 | 51=>213 | 4=>4 | 5=>5 | 46=>68 | n=>n,fun | n=>n⟩
theorem Tryz.lays242:Go.Proofs.Lays.n242 Tryz.prog Tryz.lays242_ren:={
 mixed:=by kernel_rfl
 f242:=Tryz.func193.trans (congrArg some (by kernel_rfl))
 f278:=Tryz.func198.trans (congrArg some (by kernel_rfl))
 t4:=Tryz.underlying4
 a4:=Tryz.isAgg4
 z4:=Tryz.sizeOf4
 v4:=Tryz.zeroValue4
 t5:=Tryz.underlying5
 a5:=Tryz.isAgg5
 z5:=Tryz.sizeOf5
 v5:=Tryz.zeroValue5
 t21:=Tryz.underlying21
 a21:=Tryz.isAgg21
 z21:=Tryz.sizeOf21
 v21:=Tryz.zeroValue21
 t37:=Tryz.underlying93
 a37:=Tryz.isAgg93
 z37:=Tryz.sizeOf93
 v37:=Tryz.zeroValue93
 t46:=Tryz.underlying68
 a46:=Tryz.isAgg68
 z46:=Tryz.sizeOf68
 v46:=Tryz.zeroValue68
 t51:=Tryz.underlying213
 a51:=Tryz.isAgg213
 z51:=Tryz.sizeOf213
 v51:=Tryz.zeroValue213 }
open Go.RowKit in
theorem Tryz.utf8_AppendRune_row (B:Nat) (v:Value) (n:Nat) (xs:List Value) (r:Int) (hr0 : -2147483648≤r) (hr1:r≤2147483647) (w:World) (hown:w.ownsRowF B 5 1 v n xs) (hlen:n+4≤140737488355328) (hBw:B≤w.heap.size) :
 Calls Tryz.prog 193 #[v,.int .i32 r] w fun e w'=>∃v',e = .returned v'∧w'.ownsRowF B 5 1 v' (n+(Lib.runeCells r).length) (xs++Lib.runeCells r)∧∃o,(w.alloc o).grownBy w' v.ownBlock:=Any.utf8_AppendRune_row Tryz.lays242 (by kernel_rfl) B v n xs r hr0 hr1 w hown hlen hBw
def Tryz.laysM173_ren:Go.Shelf.Ren:=⟨fun | 173=>125 | 246=>156 | 283=>174 | 284=>175 | 285=>176 | 286=>177 | 129=>188 | 317=>187 | 318=>189 | 319=>190 | 320=>191 | 337=>196 | 338=>197 | n=>n,fun | 2=>2 | 3=>3 | 9=>9 | 4=>4 | 171=>199 | 0=>0 | 53=>29 | 37=>93 | 5=>5 | 173=>202 | 212=>212 | 51=>213 | 20=>20 | 213=>214 | 46=>68 | 232=>227 | 233=>228 | n=>n,fun | 17=>3 | 18=>6 | 19=>7 | n=>n⟩
theorem Tryz.laysM173:Go.Proofs.LaysM.n173 Tryz.prog Tryz.laysM173_ren:={
 mixed:=by kernel_rfl
 f129:=Tryz.func188.trans (congrArg some (by kernel_rfl))
 f173:=Tryz.func125.trans (congrArg some (by kernel_rfl))
 f246:=Tryz.func156.trans (congrArg some (by kernel_rfl))
 f283:=Tryz.func174.trans (congrArg some (by kernel_rfl))
 f284:=Tryz.func175.trans (congrArg some (by kernel_rfl))
 f285:=Tryz.func176.trans (congrArg some (by kernel_rfl))
 f286:=Tryz.func177.trans (congrArg some (by kernel_rfl))
 f317:=Tryz.func187.trans (congrArg some (by kernel_rfl))
 f318:=Tryz.func189.trans (congrArg some (by kernel_rfl))
 f319:=Tryz.func190.trans (congrArg some (by kernel_rfl))
 f320:=Tryz.func191.trans (congrArg some (by kernel_rfl))
 f337:=Tryz.func196.trans (congrArg some (by kernel_rfl))
 f338:=Tryz.func197.trans (congrArg some (by kernel_rfl))
 t0:=Tryz.underlying0
 a0:=Tryz.isAgg0
 z0:=Tryz.sizeOf0
 v0:=Tryz.zeroValue0
 t2:=Tryz.underlying2
 a2:=Tryz.isAgg2
 z2:=Tryz.sizeOf2
 v2:=Tryz.zeroValue2
 t3:=Tryz.underlying3
 a3:=Tryz.isAgg3
 z3:=Tryz.sizeOf3
 v3:=Tryz.zeroValue3
 t4:=Tryz.underlying4
 a4:=Tryz.isAgg4
 z4:=Tryz.sizeOf4
 v4:=Tryz.zeroValue4
 t5:=Tryz.underlying5
 a5:=Tryz.isAgg5
 z5:=Tryz.sizeOf5
 v5:=Tryz.zeroValue5
 t9:=Tryz.underlying9
 a9:=Tryz.isAgg9
 z9:=Tryz.sizeOf9
 v9:=Tryz.zeroValue9
 t20:=Tryz.underlying20
 a20:=Tryz.isAgg20
 z20:=Tryz.sizeOf20
 v20:=Tryz.zeroValue20
 t37:=Tryz.underlying93
 a37:=Tryz.isAgg93
 z37:=Tryz.sizeOf93
 v37:=Tryz.zeroValue93
 t46:=Tryz.underlying68
 a46:=Tryz.isAgg68
 z46:=Tryz.sizeOf68
 v46:=Tryz.zeroValue68
 t51:=Tryz.underlying213
 a51:=Tryz.isAgg213
 z51:=Tryz.sizeOf213
 v51:=Tryz.zeroValue213
 t53:=Tryz.underlying29
 a53:=Tryz.isAgg29
 z53:=Tryz.sizeOf29
 v53:=Tryz.zeroValue29
 t171:=Tryz.underlying199
 a171:=Tryz.isAgg199
 z171:=Tryz.sizeOf199
 v171:=Tryz.zeroValue199
 t173:=Tryz.underlying202
 a173:=Tryz.isAgg202
 z173:=Tryz.sizeOf202
 v173:=Tryz.zeroValue202
 t212:=Tryz.underlying212
 a212:=Tryz.isAgg212
 z212:=Tryz.sizeOf212
 v212:=Tryz.zeroValue212
 t213:=Tryz.underlying214
 a213:=Tryz.isAgg214
 z213:=Tryz.sizeOf214
 t232:=Tryz.underlying227
 a232:=Tryz.isAgg227
 z232:=Tryz.sizeOf227
 v232:=Tryz.zeroValue227
 t233:=Tryz.underlying228
 a233:=Tryz.isAgg228
 z233:=Tryz.sizeOf228
 v233:=Tryz.zeroValue228
 g17:=by kernel_rfl
 g18:=by kernel_rfl
 g19:=by kernel_rfl
 i0:=by kernel_rfl
 i2:=by kernel_rfl
 i3:=by kernel_rfl
 i4:=by kernel_rfl
 i5:=by kernel_rfl
 i9:=by kernel_rfl
 i20:=by kernel_rfl
 i37:=by kernel_rfl
 i46:=by kernel_rfl
 i51:=by kernel_rfl
 i53:=by kernel_rfl
 i171:=by kernel_rfl
 i173:=by kernel_rfl
 i212:=by kernel_rfl
 i232:=by kernel_rfl
 i233:=by kernel_rfl
 m17:=by kernel_rfl
 m18:=by kernel_rfl
 m19:=by kernel_rfl }
open Go.RowKit Go.Sort Go.Lib in
theorem Tryz.strconv_FormatInt_10 (n:Int) (h0 : -9223372036854775808≤n) (h1:n≤9223372036854775807) (w:World) (htab:Lib.TabIs Tryz.prog w "internal/strconv.uint64pow10" .u64 Lib.pow10Tab) :
 Calls Tryz.prog 125 #[.int .i64 n,.int .i64 10] w fun e w'=>e = .returned (.string ⟨(Lib.itoa n).toArray⟩)∧∃k os,w'=grow (w.drewN k) os:=Any.strconv_FormatInt_10 Tryz.laysM173 n h0 h1 w htab
def Tryz.laysC174_ren:Go.Shelf.Ren:=⟨fun | 174=>124 | 247=>154 | 245=>155 | 287=>169 | 279=>170 | 280=>171 | 281=>172 | 282=>173 | 321=>182 | 322=>183 | 316=>184 | 171=>186 | 205=>185 | 243=>195 | 246=>156 | 283=>174 | 284=>175 | 285=>176 | 286=>177 | 129=>188 | 317=>187 | 318=>189 | 319=>190 | 320=>191 | 337=>196 | 338=>197 | n=>n,fun | 9=>9 | 3=>3 | 2=>2 | 75=>142 | 85=>166 | 4=>4 | 167=>193 | 5=>5 | 53=>29 | 175=>194 | 46=>68 | 168=>196 | 37=>93 | 0=>0 | 210=>209 | 21=>21 | 127=>149 | 145=>221 | 143=>219 | 171=>199 | 173=>202 | 212=>212 | 51=>213 | 20=>20 | 213=>214 | 232=>227 | 233=>228 | 80=>112 | n=>n,fun | 15=>1 | 16=>2 | 17=>3 | 18=>6 | 19=>7 | n=>n⟩
theorem Tryz.laysC174:Go.Proofs.LaysC.n174 Tryz.prog Tryz.laysC174_ren:={
 mixed:=by kernel_rfl
 f129:=Tryz.func188.trans (congrArg some (by kernel_rfl))
 f171:=Tryz.func186.trans (congrArg some (by kernel_rfl))
 f174:=Tryz.func124.trans (congrArg some (by kernel_rfl))
 f205:=Tryz.func185.trans (congrArg some (by kernel_rfl))
 f243:=Tryz.func195.trans (congrArg some (by kernel_rfl))
 f245:=Tryz.func155.trans (congrArg some (by kernel_rfl))
 f246:=Tryz.func156.trans (congrArg some (by kernel_rfl))
 f247:=Tryz.func154.trans (congrArg some (by kernel_rfl))
 f279:=Tryz.func170.trans (congrArg some (by kernel_rfl))
 f280:=Tryz.func171.trans (congrArg some (by kernel_rfl))
 f281:=Tryz.func172.trans (congrArg some (by kernel_rfl))
 f282:=Tryz.func173.trans (congrArg some (by kernel_rfl))
 f283:=Tryz.func174.trans (congrArg some (by kernel_rfl))
 f284:=Tryz.func175.trans (congrArg some (by kernel_rfl))
 f285:=Tryz.func176.trans (congrArg some (by kernel_rfl))
 f286:=Tryz.func177.trans (congrArg some (by kernel_rfl))
 f287:=Tryz.func169.trans (congrArg some (by kernel_rfl))
 f316:=Tryz.func184.trans (congrArg some (by kernel_rfl))
 f317:=Tryz.func187.trans (congrArg some (by kernel_rfl))
 f318:=Tryz.func189.trans (congrArg some (by kernel_rfl))
 f319:=Tryz.func190.trans (congrArg some (by kernel_rfl))
 f320:=Tryz.func191.trans (congrArg some (by kernel_rfl))
 f321:=Tryz.func182.trans (congrArg some (by kernel_rfl))
 f322:=Tryz.func183.trans (congrArg some (by kernel_rfl))
 f337:=Tryz.func196.trans (congrArg some (by kernel_rfl))
 f338:=Tryz.func197.trans (congrArg some (by kernel_rfl))
 t0:=Tryz.underlying0
 a0:=Tryz.isAgg0
 z0:=Tryz.sizeOf0
 v0:=Tryz.zeroValue0
 t2:=Tryz.underlying2
 a2:=Tryz.isAgg2
 z2:=Tryz.sizeOf2
 v2:=Tryz.zeroValue2
 t3:=Tryz.underlying3
 a3:=Tryz.isAgg3
 z3:=Tryz.sizeOf3
 v3:=Tryz.zeroValue3
 t4:=Tryz.underlying4
 a4:=Tryz.isAgg4
 z4:=Tryz.sizeOf4
 v4:=Tryz.zeroValue4
 t5:=Tryz.underlying5
 a5:=Tryz.isAgg5
 z5:=Tryz.sizeOf5
 v5:=Tryz.zeroValue5
 t9:=Tryz.underlying9
 a9:=Tryz.isAgg9
 z9:=Tryz.sizeOf9
 v9:=Tryz.zeroValue9
 t20:=Tryz.underlying20
 a20:=Tryz.isAgg20
 z20:=Tryz.sizeOf20
 v20:=Tryz.zeroValue20
 t21:=Tryz.underlying21
 a21:=Tryz.isAgg21
 z21:=Tryz.sizeOf21
 v21:=Tryz.zeroValue21
 t37:=Tryz.underlying93
 a37:=Tryz.isAgg93
 z37:=Tryz.sizeOf93
 v37:=Tryz.zeroValue93
 t46:=Tryz.underlying68
 a46:=Tryz.isAgg68
 z46:=Tryz.sizeOf68
 v46:=Tryz.zeroValue68
 t51:=Tryz.underlying213
 a51:=Tryz.isAgg213
 z51:=Tryz.sizeOf213
 v51:=Tryz.zeroValue213
 t53:=Tryz.underlying29
 a53:=Tryz.isAgg29
 z53:=Tryz.sizeOf29
 v53:=Tryz.zeroValue29
 t75:=Tryz.underlying142
 a75:=Tryz.isAgg142
 z75:=Tryz.sizeOf142
 v75:=Tryz.zeroValue142
 t85:=Tryz.underlying166
 a85:=Tryz.isAgg166
 z85:=Tryz.sizeOf166
 v85:=Tryz.zeroValue166
 t127:=Tryz.underlying149
 a127:=Tryz.isAgg149
 z127:=Tryz.sizeOf149
 v127:=Tryz.zeroValue149
 t143:=Tryz.underlying219
 a143:=Tryz.isAgg219
 z143:=Tryz.sizeOf219
 v143:=Tryz.zeroValue219
 t145:=Tryz.underlying221
 a145:=Tryz.isAgg221
 z145:=Tryz.sizeOf221
 v145:=Tryz.zeroValue221
 t167:=Tryz.underlying193
 a167:=Tryz.isAgg193
 z167:=Tryz.sizeOf193
 v167:=Tryz.zeroValue193
 t168:=Tryz.underlying196
 a168:=Tryz.isAgg196
 z168:=Tryz.sizeOf196
 v168:=Tryz.zeroValue196
 t171:=Tryz.underlying199
 a171:=Tryz.isAgg199
 z171:=Tryz.sizeOf199
 v171:=Tryz.zeroValue199
 t173:=Tryz.underlying202
 a173:=Tryz.isAgg202
 z173:=Tryz.sizeOf202
 v173:=Tryz.zeroValue202
 t175:=Tryz.underlying194
 a175:=Tryz.isAgg194
 z175:=Tryz.sizeOf194
 v175:=Tryz.zeroValue194
 t210:=Tryz.underlying209
 a210:=Tryz.isAgg209
 z210:=Tryz.sizeOf209
 v210:=Tryz.zeroValue209
 t212:=Tryz.underlying212
 a212:=Tryz.isAgg212
 z212:=Tryz.sizeOf212
 v212:=Tryz.zeroValue212
 t213:=Tryz.underlying214
 a213:=Tryz.isAgg214
 z213:=Tryz.sizeOf214
 t232:=Tryz.underlying227
 a232:=Tryz.isAgg227
 z232:=Tryz.sizeOf227
 v232:=Tryz.zeroValue227
 t233:=Tryz.underlying228
 a233:=Tryz.isAgg228
 z233:=Tryz.sizeOf228
 v233:=Tryz.zeroValue228
 g15:=by kernel_rfl
 g16:=by kernel_rfl
 g17:=by kernel_rfl
 g18:=by kernel_rfl
 g19:=by kernel_rfl
 t80:=Tryz.underlying112
 a80:=Tryz.isAgg112
 z80:=Tryz.sizeOf112
 v80:=Tryz.zeroValue112
 i0:=by kernel_rfl
 i2:=by kernel_rfl
 i3:=by kernel_rfl
 i4:=by kernel_rfl
 i5:=by kernel_rfl
 i9:=by kernel_rfl
 i20:=by kernel_rfl
 i21:=by kernel_rfl
 i37:=by kernel_rfl
 i46:=by kernel_rfl
 i51:=by kernel_rfl
 i53:=by kernel_rfl
 i75:=by kernel_rfl
 i80:=by kernel_rfl
 i85:=by kernel_rfl
 i127:=by kernel_rfl
 i143:=by kernel_rfl
 i145:=by kernel_rfl
 i167:=by kernel_rfl
 i168:=by kernel_rfl
 i171:=by kernel_rfl
 i173:=by kernel_rfl
 i175:=by kernel_rfl
 i210:=by kernel_rfl
 i212:=by kernel_rfl
 i232:=by kernel_rfl
 i233:=by kernel_rfl
 m15:=by kernel_rfl
 m16:=by kernel_rfl
 m17:=by kernel_rfl
 m18:=by kernel_rfl
 m19:=by kernel_rfl
 c0:=by kernel_rfl
 c2:=by kernel_rfl
 c3:=by kernel_rfl
 c4:=by kernel_rfl
 c5:=by kernel_rfl
 c9:=by kernel_rfl
 c20:=by kernel_rfl
 c21:=by kernel_rfl
 c37:=by kernel_rfl
 c46:=by kernel_rfl
 c51:=by kernel_rfl
 c53:=by kernel_rfl
 c75:=by kernel_rfl
 c80:=by kernel_rfl
 c85:=by kernel_rfl
 c127:=by kernel_rfl
 c143:=by kernel_rfl
 c145:=by kernel_rfl
 c167:=by kernel_rfl
 c168:=by kernel_rfl
 c171:=by kernel_rfl
 c173:=by kernel_rfl
 c175:=by kernel_rfl
 c210:=by kernel_rfl
 c212:=by kernel_rfl
 c213:=by kernel_rfl
 c232:=by kernel_rfl
 c233:=by kernel_rfl }
open Go.RowKit in
theorem Tryz.strconv_ParseInt_10_at64_ok (s:ByteArray) (hmax:s.size≤9223372036854775806) (v:Int) (h:Lib.parseIntB 64 s.data.toList = .ok v) (w:World) :
 Calls Tryz.prog 124 #[.string s,.int .i64 10,.int .i64 64] w fun e w'=>e = .returned (.tuple #[.int .i64 v,.nilIface])∧(w'=w∨∃t,w'=Lib.bytesWorld w 5 t):=Any.strconv_ParseInt_10_at64_ok Tryz.laysC174 s hmax v h w
open Go.RowKit in
theorem Tryz.strconv_ParseInt_10_at64_none (s:ByteArray) (hlim:s.size≤281474976710656) (h1:∀v,Lib.parseIntB 64 s.data.toList≠.ok v) (h2:Lib.parseIntB 64 s.data.toList≠.range) (ev:Value) (w:World) (hv:w.cell? ⟨1,0,none⟩=some ev) (hev:ev = .nilIface∨∃te pe,ev = .iface te pe) :
 Calls Tryz.prog 124 #[.string s,.int .i64 10,.int .i64 64] w fun e w'=>∃N,e = .returned (.tuple #[.int .i64 (0),.iface 196 (.pointer (some ⟨N,0,none⟩))])∧w.heap.size≤N∧w'.heap[N]?=some (.cells #[.string ⟨#[80,97,114,115,101,73,110,116]⟩,.string s,ev] 209 (0,0))∧Below w.heap.size w w':=by
 cases hh:Lib.parseIntB 64 s.data.toList with
 | ok v=>exact absurd hh (h1 v)
 | range=>exact absurd hh h2
 | _=>exact Any.strconv_ParseInt_10_at64_syntax Tryz.laysC174 s hlim hh ev w hv hev
open Go.RowKit in
theorem Tryz.strconv_ParseInt_10_at64_range (s:ByteArray) (hlim:s.size≤281474976710656) (h:Lib.parseIntB 64 s.data.toList = .range) (ev:Value) (w:World) (hv:w.cell? ⟨2,0,none⟩=some ev) (hev:ev = .nilIface∨∃te pe,ev = .iface te pe) :
 Calls Tryz.prog 124 #[.string s,.int .i64 10,.int .i64 64] w fun e w'=>∃N,e = .returned (.tuple #[.int .i64 (Lib.intSat 64 s.data.toList),.iface 196 (.pointer (some ⟨N,0,none⟩))])∧w.heap.size≤N∧w'.heap[N]?=some (.cells #[.string ⟨#[80,97,114,115,101,73,110,116]⟩,.string s,ev] 209 (0,0))∧Below w.heap.size w w':=Any.strconv_ParseInt_10_at64_range Tryz.laysC174 s hlim h ev w hv hev
def Tryz.lays99_ren:Go.Shelf.Ren:=⟨fun | 99=>157 | 206=>178 | n=>n,fun | 9=>9 | 4=>4 | 3=>3 | n=>n,fun | n=>n⟩
theorem Tryz.lays99:Go.Proofs.Lays.n99 Tryz.prog Tryz.lays99_ren:={
 mixed:=by kernel_rfl
 f99:=Tryz.func157.trans (congrArg some (by kernel_rfl))
 f206:=Tryz.func178.trans (congrArg some (by kernel_rfl))
 t3:=Tryz.underlying3
 a3:=Tryz.isAgg3
 z3:=Tryz.sizeOf3
 v3:=Tryz.zeroValue3
 t4:=Tryz.underlying4
 a4:=Tryz.isAgg4
 z4:=Tryz.sizeOf4
 v4:=Tryz.zeroValue4
 t9:=Tryz.underlying9
 a9:=Tryz.isAgg9
 z9:=Tryz.sizeOf9
 v9:=Tryz.zeroValue9 }
open Go.RowKit Go.Lib in
theorem Tryz.strings_HasPrefix (s p:ByteArray) (w:World) :
 Calls Tryz.prog 157 #[.string s,.string p] w fun e w'=>e = .returned (.bool (Lib.hasPrefix s.data.toList p.data.toList))∧w'=w:=Any.strings_HasPrefix Tryz.lays99 s p w
def Tryz.lays197_ren:Go.Shelf.Ren:=⟨fun | 197=>181 | 260=>194 | n=>n,fun | 9=>9 | 21=>21 | 3=>3 | 4=>4 | 5=>5 | 105=>186 | 119=>223 | 0=>0 | 46=>68 | 139=>226 | 138=>225 | n=>n,fun | 3=>4 | 4=>5 | n=>n⟩
theorem Tryz.lays197:Go.Proofs.Lays.n197 Tryz.prog Tryz.lays197_ren:={
 mixed:=by kernel_rfl
 f197:=Tryz.func181.trans (congrArg some (by kernel_rfl))
 f260:=Tryz.func194.trans (congrArg some (by kernel_rfl))
 t0:=Tryz.underlying0
 a0:=Tryz.isAgg0
 z0:=Tryz.sizeOf0
 v0:=Tryz.zeroValue0
 t3:=Tryz.underlying3
 a3:=Tryz.isAgg3
 z3:=Tryz.sizeOf3
 v3:=Tryz.zeroValue3
 t4:=Tryz.underlying4
 a4:=Tryz.isAgg4
 z4:=Tryz.sizeOf4
 v4:=Tryz.zeroValue4
 t5:=Tryz.underlying5
 a5:=Tryz.isAgg5
 z5:=Tryz.sizeOf5
 v5:=Tryz.zeroValue5
 t9:=Tryz.underlying9
 a9:=Tryz.isAgg9
 z9:=Tryz.sizeOf9
 v9:=Tryz.zeroValue9
 t21:=Tryz.underlying21
 a21:=Tryz.isAgg21
 z21:=Tryz.sizeOf21
 v21:=Tryz.zeroValue21
 t46:=Tryz.underlying68
 a46:=Tryz.isAgg68
 z46:=Tryz.sizeOf68
 v46:=Tryz.zeroValue68
 t105:=Tryz.underlying186
 a105:=Tryz.isAgg186
 z105:=Tryz.sizeOf186
 v105:=Tryz.zeroValue186
 t119:=Tryz.underlying223
 a119:=Tryz.isAgg223
 z119:=Tryz.sizeOf223
 t138:=Tryz.underlying225
 a138:=Tryz.isAgg225
 z138:=Tryz.sizeOf225
 v138:=Tryz.zeroValue225
 t139:=Tryz.underlying226
 a139:=Tryz.isAgg226
 z139:=Tryz.sizeOf226
 v139:=Tryz.zeroValue226
 g3:=by kernel_rfl
 g4:=by kernel_rfl }
def Tryz.lays260_ren:Go.Shelf.Ren:=⟨fun | 260=>194 | n=>n,fun | 9=>9 | 21=>21 | 3=>3 | 4=>4 | 5=>5 | 119=>223 | 0=>0 | 46=>68 | 139=>226 | 138=>225 | n=>n,fun | 3=>4 | 4=>5 | n=>n⟩
theorem Tryz.lays260:Go.Proofs.Lays.n260 Tryz.prog Tryz.lays260_ren:={
 mixed:=by kernel_rfl
 f260:=Tryz.func194.trans (congrArg some (by kernel_rfl))
 t0:=Tryz.underlying0
 a0:=Tryz.isAgg0
 z0:=Tryz.sizeOf0
 v0:=Tryz.zeroValue0
 t3:=Tryz.underlying3
 a3:=Tryz.isAgg3
 z3:=Tryz.sizeOf3
 v3:=Tryz.zeroValue3
 t4:=Tryz.underlying4
 a4:=Tryz.isAgg4
 z4:=Tryz.sizeOf4
 v4:=Tryz.zeroValue4
 t5:=Tryz.underlying5
 a5:=Tryz.isAgg5
 z5:=Tryz.sizeOf5
 v5:=Tryz.zeroValue5
 t9:=Tryz.underlying9
 a9:=Tryz.isAgg9
 z9:=Tryz.sizeOf9
 v9:=Tryz.zeroValue9
 t21:=Tryz.underlying21
 a21:=Tryz.isAgg21
 z21:=Tryz.sizeOf21
 v21:=Tryz.zeroValue21
 t46:=Tryz.underlying68
 a46:=Tryz.isAgg68
 z46:=Tryz.sizeOf68
 v46:=Tryz.zeroValue68
 t119:=Tryz.underlying223
 a119:=Tryz.isAgg223
 z119:=Tryz.sizeOf223
 t138:=Tryz.underlying225
 a138:=Tryz.isAgg225
 z138:=Tryz.sizeOf225
 v138:=Tryz.zeroValue225
 t139:=Tryz.underlying226
 a139:=Tryz.isAgg226
 z139:=Tryz.sizeOf226
 v139:=Tryz.zeroValue226
 g3:=by kernel_rfl
 g4:=by kernel_rfl }
open Go.RowKit Go.Lib in
theorem Tryz.utf8_DecodeRuneInString (s:ByteArray) (w:World) (hT:Lib.Utf8Tabs 4 5 w) :
 Calls Tryz.prog 181 #[.string s] w fun e w'=>e = .returned (.tuple #[.int .i32 (Lib.decodeGo s).1,.int .i64 (Lib.decodeGo s).2])∧Below w.heap.size w w':=Any.utf8_DecodeRuneInString Tryz.lays197 s w hT
end Go.Proofs
end
