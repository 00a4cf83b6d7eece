/- Lemmas that the last text leans on. -/
import Derived.Test.YtplkbdncgkgppaaGreatDoorTake
import Derived.Test.YtplkbdncgkgppaaGreatDoorPack39
import Derived.Test.YtplkbdncgkgppaaGreatDoorPack9
import Derived.Test.YtplkbdncgkgppaaGreatDoorPack7
import Derived.Lib.ItoaLen
import Derived.Test.YtplkbdncgkgppaaGreatDoorPack14
import Derived.Test.YtplkbdncgkgppaaGreatDoorPack10
import Derived.Test.YtplkbdncgkgppaaGreatDoorPack6
import Derived.Deep.LoopGhost
import Derived.Deep.RegionHeld3
import Derived.Deep.QuietTactic
import Derived.BigQuiet
set_option linter.all false
section
namespace QryP
open SchP
inductive Sz (n:Nat):QT→Prop where
 | mk {k o:Int} {f t u:ByteArray} {l h:List Int} {b p:Int} {ks:List QT} (hf:f.size≤n) (ht:t.size≤n) (hu:u.size≤n) (hl:l.length≤n) (hh:h.length≤n) (hn:ks.length≤n) (hk:∀x∈ks,Sz n x):Sz n (.mk k o f t u l h b p ks)
theorem ycm {n:Nat} {o:Int} {q:QT} (h:Sz n q):Sz n (zc8 o q):=by
 cases h with
 | mk hf ht hu hl hh hn hk=>exact .mk hf ht hu hl hh hn hk
theorem zfg (l:R):(bytes l).size=l.length:=by unfold bytes;rfl
theorem zsk {r:R} {f:ByteArray} {r1:R} (h:zei r = .ok (f,r1)):f.size≤r.length:=by
 unfold zei at h;have h1:=zba r;have h2:=zgq zc7 (zah r);split at h
 ·cases h;rw[zfg];omega
 ·cases h
theorem ydn (at_:Nat):∀(k:Nat) (r:R),r.length≤k→∀b r1,ze4 at_ r = .ok (b,r1)→b.length≤r.length
 | _,[],_,b,r1,e=>by rw[ze4] at e;cases e
 | 0,c::t,h,_,_,_=>by simp at h
 | k+1,c::t,h,b,r1,e=>by
  have push:∀(x:UInt8) (t':R) (b:R),t'.length≤t.length→zgl x (ze4 at_ t') = .ok (b,r1)→b.length≤(c::t).length:=by
   intro x t' b ht e
   match hx:ze4 at_ t',e with
   | .ok (b',r'),e=>
     have hb:=ydn at_ k t' (by simp at h;omega) b' r' hx;rw[zgl] at e;cases e;simp only[List.length_cons];omega
   | .error x,e=>rw[zgl] at e;cases e
  rw[ze4.eq_def] at e;dsimp only at e;split at e
  ·cases e;simp
  ·split at e
   ·cases e
   ·split at e
    ·exact push _ t b (Nat.le_refl _) e
    ·cases t with
     | nil=>cases e
     | cons d t'=>
      dsimp only at e;split at e
      ·exact push _ t' b (by simp) e
      ·match t',e with
       | [],e=>cases e
       | [a],e=>cases e
       | a::b'::t'',e=>
        dsimp only at e;split at e
        ·split at e
         ·exact push _ t'' b (by simp;omega) e
         ·cases e
        ·cases e
theorem zzp {r:R} {f:ByteArray} {r1:R} (h:zfc r = .ok (f,r1)):f.size≤r.length:=by
 unfold zfc at h
 cases hw:zam 34 r with
 | error e=>rw[hw] at h;cases h
 | ok t=>
  have hl:=za3 hw;rw[hw] at h;dsimp only at h
  cases hs:ze4 (zah r).length t with
  | error e=>rw[hs] at h;cases h
  | ok x=>
   obtain ⟨b,r'⟩:=x;rw[hs] at h;cases h;have:=ydn (zah r).length t.length t (Nat.le_refl _) b _ hs;rw[zfg];omega
section
variable {num:Int→R} {par:R→Option Int}
theorem zzq:∀{m:Nat} {r:R} {l:List Int} {r1:R},zhu num par m r = .ok (l,r1)→l.length≤m
 | 0,r,l,r1,h=>by cases h
 | m+1,r,l,r1,h=>by
  unfold zhu at h
  cases hx:zha num par r with
  | error e=>rw[hx] at h;cases h
  | ok x=>
   obtain ⟨n,r2⟩:=x;rw[hx] at h;dsimp only at h
   cases hk:zah r2 with
   | nil=>rw[hk] at h;cases h;simp
   | cons c t=>
    rw[hk] at h;dsimp only at h;split at h
    ·cases h;simp
    ·split at h
     ·cases h
     ·cases hy:zhu num par m (c::t) with
      | error e=>rw[hy] at h;cases h
      | ok y=>
       obtain ⟨l',r3⟩:=y;rw[hy] at h;cases h;have:=zzq hy;simp only[List.length_cons];omega
theorem zqj {qs:R→E (QT × R)} {n:Nat} (hf:∀t,zhy t.length (qs t)) (hq:∀t q r,t.length≤n→qs t = .ok (q,r)→Sz (n+1) q):∀{m:Nat} {r:R} {ks:List QT} {r1:R},r.length≤n→zbo qs m r = .ok (ks,r1)→ks.length≤m∧∀x∈ks,Sz (n+1) x
 | 0,r,ks,r1,_,h=>by cases h
 | m+1,r,ks,r1,hr,h=>by
  unfold zbo at h;have hs:=zba r
  cases hk:zah r with
  | nil=>rw[hk] at h;cases h
  | cons c t=>
   rw[hk] at h hs;dsimp only at h;simp only[List.length_cons] at hs;split at h
   ·cases h
   ·have hft:=hf t
    cases hx:qs t with
    | error e=>rw[hx] at h;cases h
    | ok x=>
     obtain ⟨k,r2⟩:=x;have G:=ycm (o:=zd0 c) (hq t k r2 (by omega) hx);rw[hx] at h hft;replace hft:r2.length≤t.length:=hft;have hs2:=zba r2;dsimp only at h;split at h
     ·rename_i r3 he
      rw[he] at hs2;simp only[List.length_cons] at hs2
      cases hy:zbo qs m r3 with
      | error e=>rw[hy] at h;cases h
      | ok y=>
       obtain ⟨ks',r4⟩:=y;rw[hy] at h;cases h;obtain ⟨i1,i2⟩:=zqj hf hq (by omega) hy;refine ⟨by simp only[List.length_cons];omega,?_⟩;intro x hx;rcases List.mem_cons.1 hx with rfl | hx
       ·exact G
       ·exact i2 x hx
     ·cases h;exact ⟨by simp,by simpa using G⟩
theorem zgr {r:R} {n:Int} {r1:R} (h:zha num par r = .ok (n,r1)):r1.length≤r.length:=by have:=zg3 (num:=num) (par:=par) r;rw[h] at this;exact this
theorem zje {r:R} {n:ByteArray} {r1:R} (h:zei r = .ok (n,r1)):r1.length≤r.length:=by have:=zin r;rw[h] at this;exact this
theorem zt5 {r:R} {n:Int} {r1:R} (h:opS r = .ok (n,r1)):r1.length≤r.length:=by have:=zzk r;rw[h] at this;exact this
theorem zv8 {r:R} {n:ByteArray} {r1:R} (h:zfc r = .ok (n,r1)):r1.length≤r.length:=by have:=zlt r;rw[h] at this;exact this
theorem zzr {m:Nat} {r:R} {n:List Int} {r1:R} (hm:r.length<m) (h:zhu num par m r = .ok (n,r1)):r1.length≤r.length:=by have:=zj9 (num:=num) (par:=par) m r hm;rw[h] at this;exact this
theorem zax:emp.size=0:=rfl
theorem yfc {qs:R→E (QT × R)} {n:Nat} (hf:∀t,zhy t.length (qs t)) (hq:∀t q r,t.length≤n→qs t = .ok (q,r)→Sz (n+1) q) {k:Int} {r:R} {q:QT} {r1:R} (hr:r.length≤n) (h:zf4 num par qs k r = .ok (q,r1)):Sz (n+1) q:=by
 unfold zf4 at h;split at h
 ·split at h
  ·cases h;exact .mk (by simp[zax]) (by simp[zax]) (by simp[zax]) (by simp) (by simp) (by simp) (by simp)
  ·obtain ⟨⟨ks,r2⟩,hc,h⟩:=zad h;obtain ⟨r3,_,h⟩:=zad h;cases h;obtain ⟨c1,c2⟩:=zqj hf hq hr hc;exact .mk (by simp[zax]) (by simp[zax]) (by simp[zax]) (by simp) (by simp) (by first | omega | (dsimp only;omega)) c2
 ·split at h
  ·obtain ⟨⟨b,r2⟩,hb,h⟩:=zad h;dsimp only at h;have l1:=zgr hb;split at h
   ·cases h
   ·obtain ⟨r3,hw,h⟩:=zad h;have l2:=za3 hw;obtain ⟨⟨q1,r4⟩,hq1,h⟩:=zad h;obtain ⟨r5,_,h⟩:=zad h;cases h;exact .mk (by simp[zax]) (by simp[zax]) (by simp[zax]) (by simp) (by simp) (by simp) (by simpa using hq _ _ _ (by first | omega | (dsimp only;omega)) hq1)
  ·split at h
   ·obtain ⟨⟨p,r2⟩,ho,h⟩:=zad h;obtain ⟨r3,w1,h⟩:=zad h;obtain ⟨⟨f,r4⟩,hnf,h⟩:=zad h;obtain ⟨r5,w2,h⟩:=zad h;obtain ⟨⟨m,r6⟩,hn,h⟩:=zad h;obtain ⟨r7,w3,h⟩:=zad h;obtain ⟨⟨q1,r8⟩,hq1,h⟩:=zad h;obtain ⟨r9,_,h⟩:=zad h;cases h;have a1:=zt5 ho;have a2:=za3 w1;have a3:=zje hnf;have a4:=zsk hnf;have a5:=za3 w2;have a6:=zgr hn;have a7:=za3 w3;exact .mk (by first | omega | (dsimp only;omega)) (by simp[zax]) (by simp[zax]) (by simp) (by simp) (by simp) (by simpa using hq _ _ _ (by first | omega | (dsimp only;omega)) hq1)
   ·split at h
    ·obtain ⟨⟨f,r2⟩,hnf,h⟩:=zad h;obtain ⟨r3,w1,h⟩:=zad h;obtain ⟨⟨lo,r4⟩,hl,h⟩:=zad h;obtain ⟨r5,w2,h⟩:=zad h;obtain ⟨⟨hi,r6⟩,hh,h⟩:=zad h;dsimp only at h;split at h
     ·cases h
     ·obtain ⟨r7,_,h⟩:=zad h;cases h;have a3:=zje hnf;have a4:=zsk hnf;have a5:=za3 w1;have a6:=zzq hl;have a7:=zzr (Nat.lt_succ_self _) hl;have a8:=za3 w2;have a9:=zzq hh;exact .mk (by first | omega | (dsimp only;omega)) (by simp[zax]) (by simp[zax]) (by first | omega | (dsimp only;omega)) (by first | omega | (dsimp only;omega)) (by simp) (by simp)
    ·obtain ⟨⟨f,r2⟩,hnf,h⟩:=zad h;obtain ⟨r3,w1,h⟩:=zad h;obtain ⟨⟨t,r4⟩,ht,h⟩:=zad h;have a3:=zje hnf;have a4:=zsk hnf;have a5:=za3 w1;have a6:=zzp ht;have a7:=zv8 ht;dsimp only at h;split at h
     ·obtain ⟨r5,w2,h⟩:=zad h;obtain ⟨⟨u',r6⟩,hu',h⟩:=zad h;obtain ⟨r7,_,h⟩:=zad h;cases h;have a8:=za3 w2;have a9:=zzp hu';exact .mk (by first | omega | (dsimp only;omega)) (by first | omega | (dsimp only;omega)) (by first | omega | (dsimp only;omega)) (by simp) (by simp) (by simp) (by simp)
     ·obtain ⟨r5,w2,h⟩:=zad h;cases h;exact .mk (by first | omega | (dsimp only;omega)) (by first | omega | (dsimp only;omega)) (by simp[zax]) (by simp) (by simp) (by simp) (by simp)
theorem zt6 {n:Nat}:∀{d:Nat} {r:R} {q:QT} {r1:R},r.length≤n→zaz num par d r = .ok (q,r1)→Sz (n+1) q
 | 0,r,q,r1,_,h=>by rw[zaz] at h;split at h <;> cases h
 | d+1,r,q,r1,hr,h=>by
  rw[zaz] at h;have hkf:=(zff (d+1) r).2
  cases hx:zdo (d+1) r with
  | error e=>rw[hx] at h;cases h
  | ok x=>
   obtain ⟨k,r2⟩:=x;obtain ⟨k1,k2,k3,_⟩:=hkf k r2 hx;rw[hx] at h;dsimp only at h;split at h
   ·cases h;exact .mk (by simp[zax]) (by simp[zax]) (by simp[zax]) (by simp) (by simp) (by simp) (by simp)
   ·cases hw:zam 40 r2 with
    | error e=>rw[hw] at h;cases h
    | ok r3=>
     rw[hw] at h;have:=za3 hw;exact yfc (fun t=>zg4 d t) (fun t q r ht hq=>zt6 ht hq) (by omega) h
theorem ycn {r:R} {q:QT} (h:zbh num par r = .ok q):Sz 4097 q:=by
 unfold zbh at h;split at h
 ·cases h
 ·cases hx:zaz num par 6 r with
  | error e=>rw[hx] at h;cases h
  | ok x=>
   obtain ⟨q',r1⟩:=x;rw[hx] at h;dsimp only at h;split at h
   ·cases h;exact zt6 (by omega) hx
   ·cases h
end
end QryP
end
section
namespace QryP
open SchP
mutual
def zna:QT→Nat
 | .mk _ _ f t u lo hi _ _ ks=>f.size+t.size+u.size+lo.length+hi.length+zhb ks+10
def zhb:List QT→Nat
 | []=>0
 | q::ks=>zna q+zhb ks
end
theorem znb (o:Int):∀q:QT,zna (zc8 o q)=zna q
 | .mk _ _ _ _ _ _ _ _ _ _=>by rw[zc8,zna,zna]
theorem zsl {r:R} {f:ByteArray} {r1:R} (h:zei r = .ok (f,r1)):f.size+r1.length≤r.length:=by
 unfold zei at h;have h1:=zba r;have h2:=zgq zc7 (zah r);split at h
 ·cases h;rw[zfg];omega
 ·cases h
theorem ydo (at_:Nat):∀(k:Nat) (r:R),r.length≤k→∀b r1,ze4 at_ r = .ok (b,r1)→b.length+r1.length≤r.length
 | _,[],_,b,r1,e=>by rw[ze4] at e;cases e
 | 0,c::t,h,_,_,_=>by simp at h
 | k+1,c::t,h,b,r1,e=>by
  have push:∀(x:UInt8) (t':R) (b:R),t'.length≤t.length→zgl x (ze4 at_ t') = .ok (b,r1)→b.length+r1.length≤(c::t).length:=by
   intro x t' b ht e
   match hx:ze4 at_ t',e with
   | .ok (b',r'),e=>
     have hb:=ydo at_ k t' (by simp at h;omega) b' r' hx;rw[zgl] at e;cases e;simp only[List.length_cons];omega
   | .error x,e=>rw[zgl] at e;cases e
  rw[ze4.eq_def] at e;dsimp only at e;split at e
  ·cases e;simp
  ·split at e
   ·cases e
   ·split at e
    ·exact push _ t b (Nat.le_refl _) e
    ·cases t with
     | nil=>cases e
     | cons d t'=>
      dsimp only at e;split at e
      ·exact push _ t' b (by simp) e
      ·match t',e with
       | [],e=>cases e
       | [a],e=>cases e
       | a::b'::t'',e=>
        dsimp only at e;split at e
        ·split at e
         ·exact push _ t'' b (by simp;omega) e
         ·cases e
        ·cases e
theorem zzs {r:R} {f:ByteArray} {r1:R} (h:zfc r = .ok (f,r1)):f.size+r1.length≤r.length:=by
 unfold zfc at h
 cases hw:zam 34 r with
 | error e=>rw[hw] at h;cases h
 | ok t=>
  have hl:=za3 hw;rw[hw] at h;dsimp only at h
  cases hs:ze4 (zah r).length t with
  | error e=>rw[hs] at h;cases h
  | ok x=>
   obtain ⟨b,r'⟩:=x;rw[hs] at h;cases h;have:=ydo (zah r).length t.length t (Nat.le_refl _) b _ hs;rw[zfg];omega
section
variable {num:Int→R} {par:R→Option Int}
theorem zzt:∀{m:Nat} {r:R} {l:List Int} {r1:R},zhu num par m r = .ok (l,r1)→l.length+r1.length≤r.length+1
 | 0,r,l,r1,h=>by cases h
 | m+1,r,l,r1,h=>by
  unfold zhu at h
  cases hx:zha num par r with
  | error e=>rw[hx] at h;cases h
  | ok x=>
   obtain ⟨n,r2⟩:=x;have h2:=zgr hx;rw[hx] at h;dsimp only at h;have hs:=zba r2
   cases hk:zah r2 with
   | nil=>rw[hk] at h;cases h;simp
   | cons c t=>
    rw[hk] at h hs;dsimp only at h;split at h
    ·cases h;simp only[List.length_cons,List.length_nil] at hs ⊢;omega
    ·split at h
     ·cases h
     ·rename_i hne
      cases hy:zhu num par m (c::t) with
      | error e=>rw[hy] at h;cases h
      | ok y=>
       obtain ⟨l',r3⟩:=y;rw[hy] at h;cases h;have:=zzt hy;simp only[List.length_cons] at this hne hs ⊢;omega
theorem zqk {qs:R→E (QT × R)} (hq:∀t q r,qs t = .ok (q,r)→zna q+10*r.length≤10*t.length):∀{m:Nat} {r:R} {ks:List QT} {r1:R},zbo qs m r = .ok (ks,r1)→zhb ks+10*r1.length≤10*r.length
 | 0,r,ks,r1,h=>by cases h
 | m+1,r,ks,r1,h=>by
  unfold zbo at h;have hs:=zba r
  cases hk:zah r with
  | nil=>rw[hk] at h;cases h
  | cons c t=>
   rw[hk] at h hs;dsimp only at h;simp only[List.length_cons] at hs;split at h
   ·cases h
   ·cases hx:qs t with
    | error e=>rw[hx] at h;cases h
    | ok x=>
     obtain ⟨k,r2⟩:=x;have G:=hq t k r2 hx;rw[hx] at h;have hs2:=zba r2;dsimp only at h;split at h
     ·rename_i r3 he
      rw[he] at hs2;simp only[List.length_cons] at hs2
      cases hy:zbo qs m r3 with
      | error e=>rw[hy] at h;cases h
      | ok y=>
       obtain ⟨ks',r4⟩:=y;rw[hy] at h;cases h;have i1:=zqk hq hy;rw[zhb,znb];omega
     ·cases h;rw[zhb,zhb,znb];omega
theorem yfd {qs:R→E (QT × R)} (hq:∀t q r,qs t = .ok (q,r)→zna q+10*r.length≤10*t.length) {k:Int} {r:R} {q:QT} {r1:R} (h:zf4 num par qs k r = .ok (q,r1)):zna q+10*r1.length≤10*r.length+10:=by
 unfold zf4 at h;split at h
 ·have hs:=zba r;split at h
  ·rename_i t he
   rw[he] at hs;cases h;simp only[zna,zhb,zax,List.length_nil,List.length_cons] at hs ⊢;omega
  ·obtain ⟨⟨ks,r2⟩,hc,h⟩:=zad h;obtain ⟨r3,w1,h⟩:=zad h;cases h;have c1:=zqk hq hc;have a1:=za3 w1;simp only[zna,zax,List.length_nil];omega
 ·split at h
  ·obtain ⟨⟨b,r2⟩,hb,h⟩:=zad h;dsimp only at h;have l1:=zgr hb;split at h
   ·cases h
   ·obtain ⟨r3,hw,h⟩:=zad h;have l2:=za3 hw;obtain ⟨⟨q1,r4⟩,hq1,h⟩:=zad h;obtain ⟨r5,w1,h⟩:=zad h;cases h;have a1:=za3 w1;have a2:=hq _ _ _ hq1;try dsimp only at a1 a2
    simp only[zna,zhb,zax,List.length_nil];omega
  ·split at h
   ·obtain ⟨⟨p,r2⟩,ho,h⟩:=zad h;obtain ⟨r3,w1,h⟩:=zad h;obtain ⟨⟨f,r4⟩,hnf,h⟩:=zad h;obtain ⟨r5,w2,h⟩:=zad h;obtain ⟨⟨m,r6⟩,hn,h⟩:=zad h;obtain ⟨r7,w3,h⟩:=zad h;obtain ⟨⟨q1,r8⟩,hq1,h⟩:=zad h;obtain ⟨r9,w4,h⟩:=zad h;cases h;have a1:=zt5 ho;have a2:=za3 w1;have a4:=zsl hnf;have a5:=za3 w2;have a6:=zgr hn;have a7:=za3 w3;have a8:=hq _ _ _ hq1;have a9:=za3 w4;try dsimp only at a1 a2 a4 a5 a6 a7 a8 a9
    simp only[zna,zhb,zax,List.length_nil,List.length_cons];omega
   ·split at h
    ·obtain ⟨⟨f,r2⟩,hnf,h⟩:=zad h;obtain ⟨r3,w1,h⟩:=zad h;obtain ⟨⟨lo,r4⟩,hl,h⟩:=zad h;obtain ⟨r5,w2,h⟩:=zad h;obtain ⟨⟨hi,r6⟩,hh,h⟩:=zad h;dsimp only at h;split at h
     ·cases h
     ·obtain ⟨r7,w3,h⟩:=zad h;cases h;have a4:=zsl hnf;have a5:=za3 w1;have a6:=zzt hl;have a8:=za3 w2;have a9:=zzt hh;have b1:=za3 w3;try dsimp only at a4 a5 a6 a8 a9 b1
      simp only[zna,zhb,zax];omega
    ·obtain ⟨⟨f,r2⟩,hnf,h⟩:=zad h;obtain ⟨r3,w1,h⟩:=zad h;obtain ⟨⟨t,r4⟩,ht,h⟩:=zad h;have a4:=zsl hnf;have a5:=za3 w1;have a6:=zzs ht;dsimp only at h;split at h
     ·obtain ⟨r5,w2,h⟩:=zad h;obtain ⟨⟨u',r6⟩,hu',h⟩:=zad h;obtain ⟨r7,w3,h⟩:=zad h;cases h;have a8:=za3 w2;have a9:=zzs hu';have b1:=za3 w3;try dsimp only at a4 a5 a6 a8 a9 b1
      simp only[zna,zhb,List.length_nil];omega
     ·obtain ⟨r5,w2,h⟩:=zad h;cases h;have a8:=za3 w2;try dsimp only at a4 a5 a6 a8
      simp only[zna,zhb,zax,List.length_nil];omega
theorem zt7:∀{d:Nat} {r:R} {q:QT} {r1:R},zaz num par d r = .ok (q,r1)→zna q+10*r1.length≤10*r.length
 | 0,r,q,r1,h=>by rw[zaz] at h;split at h <;> cases h
 | d+1,r,q,r1,h=>by
  rw[zaz] at h;have hkf:=(zff (d+1) r).2
  cases hx:zdo (d+1) r with
  | error e=>rw[hx] at h;cases h
  | ok x=>
   obtain ⟨k,r2⟩:=x;obtain ⟨k1,k2,k3,_⟩:=hkf k r2 hx;rw[hx] at h;dsimp only at h;split at h
   ·cases h;simp only[zna,zhb,zax,List.length_nil];omega
   ·cases hw:zam 40 r2 with
    | error e=>rw[hw] at h;cases h
    | ok r3=>
     rw[hw] at h;have h1:=za3 hw;have h2:=yfd (fun t q r hq=>zt7 hq) h;omega
theorem yco {r:R} {q:QT} (h:zbh num par r = .ok q):zna q≤40960:=by
 unfold zbh at h;split at h
 ·cases h
 ·cases hx:zaz num par 6 r with
  | error e=>rw[hx] at h;cases h
  | ok x=>
   obtain ⟨q',r1⟩:=x;have hm:=zt7 hx;rw[hx] at h;dsimp only at h;split at h
   ·cases h;omega
   ·cases h
end
end QryP
end
section
namespace Go.Proofs.YtplkbdncgkgppaaGreatDoor.Qry
open Go.RowKit Words Tree QryP Kit
theorem zql (k:IntKind):∀l:List Int,T.bulkL (l.map fun z=>T.lit (.int k z))=l.length
 | []=>by simp[T.bulkL]
 | z::l=>by rw[List.map_cons,T.bulkL,zql k l,T.bulk,List.length_cons];omega;intro s h;cases h
theorem znc (k o:Int) (f t u:ByteArray) (lo hi:List Int) (b p:Int) (ks:List QT):T.bulkL (cells (.mk k o f t u lo hi b p ks))=f.size+t.size+u.size+lo.length+hi.length+T.bulkL (zau ks)+10:=by
 rw[cells];simp only[T.bulkL,zen,T.bulk,zql];omega
theorem zqm (s:ByteArray):(zcw s).length≤4*s.size+2:=by
 have h:∀l:List UInt8,(l.flatMap zb1).length≤4*l.length:=by
  intro l
  induction l with
  | nil=>simp
  | cons c l ih=>
   have:(zb1 c).length≤4:=by unfold zb1;split;simp;split <;> simp
   rw[List.flatMap_cons,List.length_append,List.length_cons];omega
 have:=h s.data.toList;have h2:s.data.toList.length=s.size:=by simp
 unfold zcw;simp only[List.length_cons,List.length_append,List.length_nil];omega
theorem zoi (sep:List UInt8) (hs:sep.length≤2):∀l:List (List UInt8),(zby sep l).length≤(l.map fun x=>x.length+2).sum
 | []=>by simp[zby]
 | [a]=>by simp[zby]
 | a::b::l=>by have:=zoi sep hs (b::l);rw[zby,List.map_cons,List.sum_cons,List.length_append,List.length_append];omega
theorem zt8 {l:List Int} (h:∀z∈l,I64 z):(zcu zap l).length≤23*l.length:=by
 unfold zcu;refine Nat.le_trans (zoi [32] (by decide) _) ?_
 induction l with
 | nil=>simp
 | cons z l ih=>
  have h1:=Lib.itoa_length_le z (h z (by simp)).1 (h z (by simp)).2;have h2:=ih fun y hy=>h y (List.mem_cons_of_mem _ hy);simp only[List.map_cons,List.sum_cons,List.length_cons];show (Lib.itoa z).length+2+_≤_;omega
theorem ycp (k:Int):(wordF k).length≤6:=by unfold wordF;split <;> decide
theorem yho (k:Int):(opF k).length≤3:=by unfold opF;split <;> decide
theorem ycq (k:Int):(markF k).length≤1:=by unfold markF;split <;> decide
theorem zv9 {k o:Int} {f t u:ByteArray} {lo hi:List Int} {b p:Int} {ks:List QT} (hlo:∀z∈lo,I64 z) (hhi:∀z∈hi,I64 z) (hb:I64 b) :
 ((zhh zap (.mk k o f t u lo hi b p ks)).map fun x=>x.length+2).sum≤f.size+4*t.size+4*u.size+23*lo.length+23*hi.length+40:=by
 have h1:=zqm t;have h2:=zqm u;have h3:=zt8 hlo;have h4:=zt8 hhi;have h5:=Lib.itoa_length_le b hb.1 hb.2;have h6:=yho p;have hf:f.data.toList.length=f.size:=by simp
 unfold zhh;split
 ·simp only[List.map_cons,List.map_nil,List.sum_cons,List.sum_nil,QryP.fd,QryP.tx];omega
 ·split
  ·simp only[List.map_cons,List.map_nil,List.sum_cons,List.sum_nil,QryP.fd,QryP.tx,QryP.up];omega
  ·split
   ·simp only[List.map_cons,List.map_nil,List.sum_cons,List.sum_nil,QryP.fd,QryP.lo,QryP.hi];omega
   ·split
    ·simp only[List.map_cons,List.map_nil,List.sum_cons,List.sum_nil,QryP.bo];show (Lib.itoa b).length+2+0≤_;omega
    ·split
     ·simp only[List.map_cons,List.map_nil,List.sum_cons,List.sum_nil,QryP.fd,QryP.lo,QryP.op];omega
     ·simp
mutual
theorem zqn:∀{q:QT},Ok q→(zbw zap q).length+3≤23*T.bulkL (cells q)
 | .mk k o f t u lo hi b p ks,h=>by
  cases h with
  | mk _ _ _ _ _ h1 h2 h3 _ _ h4=>
   rw[znc];have hw:=ycp k;have hl:=zlx h4;rw[zbw];split
   ·omega
   ·have hp:=zv9 (k:=k) (o:=o) (f:=f) (t:=t) (u:=u) (p:=p) (ks:=ks) h1.2 h2.2 h3;have hj:=zoi [44,32] (by decide) (zhh zap (.mk k o f t u lo hi b p ks)++zbm zap ks);rw[List.map_append,List.sum_append] at hj;simp only[List.length_append,List.length_cons,List.length_nil];omega
theorem zlx:∀{ks:List QT},(∀q∈ks,Ok q)→((zbm zap ks).map fun x=>x.length+2).sum≤23*T.bulkL (zau ks)
 | [],h=>by simp[zbm]
 | q::ks,h=>by have h1:=zqn (h q (by simp));have h2:=zlx (ks:=ks) fun x hx=>h x (List.mem_cons_of_mem _ hx);have h3:=ycq (QryP.oc q);rw[zbm,zau,zcr,List.map_cons,List.sum_cons,List.length_append];omega
end
end Go.Proofs.YtplkbdncgkgppaaGreatDoor.Qry
end
section
namespace Go.Proofs.YtplkbdncgkgppaaGreatDoor.Qry
open Go.RowKit Words Tree QryP Kit Sch Owned
abbrev rem (s:ByteArray) (k:Nat):R:=s.data.toList.drop k
structure Pa (s:ByteArray) (gp k:Nat) (w:World):Prop where
 blk:Blk w gp 104 #[.string s,.int .i64 k]
 le:k≤s.size
theorem Pa.keep {s:ByteArray} {gp k:Nat} {w w':World} (h:Pa s gp k w) (hb:Below w.heap.size w w'):Pa s gp k w':=⟨h.blk.below hb h.blk.lt,h.le⟩
theorem Pa.grown {s:ByteArray} {gp k:Nat} {w w':World} {row:Option Nat} (h:Pa s gp k w) (hg:w.grownBy w' row) (hr:row≠some gp):Pa s gp k w':=⟨h.blk.grown hg (Ne.symm hr),h.le⟩
theorem zab {a b c:World} {row:Option Nat} (h:a.grownBy b row) (k:b.grownBy c row):a.grownBy c row:=
 ⟨k.os.trans h.os,k.tape.trans h.tape,k.output.trans h.output,Nat.le_trans h.size k.size,fun i hi hne=>(k.block i (Nat.lt_of_lt_of_le hi h.size) hne).trans (h.block i hi hne)⟩
theorem Pa.drewN {s:ByteArray} {gp k:Nat} {w:World} (h:Pa s gp k w) (n:Nat):Pa s gp k (w.drewN n):=⟨h.blk.drewN n,h.le⟩
theorem Pa.next {s:ByteArray} {gp k:Nat} {w:World} (h:Pa s gp k w) (m:Nat) (hk:k+m≤s.size) (v:Int) (hv:v=(k+m:Nat)):Pa s gp (k+m) (w.setCell ⟨gp,1,none⟩ (.int .i64 v)):=by
 subst hv;exact ⟨h.blk.set_ 1 _,hk⟩
theorem zdj {w0 w:World} {gp:Nat} (h:w0.grownBy w (some gp)) (i:Nat) (u:Value):w0.grownBy (w.setCell ⟨gp,i,none⟩ u) (some gp):=zak h (.inl rfl) u
def zqo (k:Int) (c:Int):Value:=.iface 100 (.agg #[.int .i64 k,.int .i64 c])
def zf1 (k:Int) (c:Int):Ending:=.panicked [{ v:=zqo k c,recovered:=false }]
theorem za4 (k:Int) (w:World):Calls Tryz.prog 53 #[.int .i64 k] w fun e w'=>e=zf1 k 180∧w'=w:=by
 go_enter Tryz.func53,Tryz.ntmps53;go_wp2_with fail;exact ⟨rfl,rfl,rfl⟩
theorem zbf {s:ByteArray} {k:Nat} (h:k<s.size):rem s k=s[k]::rem s (k+1):=by
 have h2:k<s.data.toList.length:=by simpa using h
 unfold rem;rw[List.drop_eq_getElem_cons h2];congr 1
theorem zd2 (s:ByteArray):rem s s.size=[]:=by unfold rem;rw[List.drop_eq_nil_iff];simp
theorem zem (s:ByteArray) (k:Nat):(rem s k).length=s.size - k:=by unfold rem;rw[List.length_drop];simp
theorem zzu (c:UInt8):((c.toNat:Int)).toNat.toUInt8=c:=by simp
theorem zoj {p:UInt8→Prop} (h:∀n:Fin 256,p (UInt8.ofNat n.val)) (c:UInt8):p c:=by
 have:=h ⟨c.toNat,c.toNat_lt⟩;simpa using this
theorem ycr (c:UInt8):(if zto c then 0≤Lib.indexByte [9,10,13,32] c else Lib.indexByte [9,10,13,32] c<0):=by
 revert c;exact zoj (by decide +kernel)
theorem ycs {s:ByteArray} {k:Nat} (h:k<s.size):zah (rem s k)=if zto s[k] then zah (rem s (k+1)) else rem s k:=by
 rw[zbf h];unfold zah;rw[List.dropWhile_cons]
def At (s:ByteArray) (gp k:Nat) (w:World) (r:R) (w':World):Prop:=w.grownBy w' (some gp)∧∃k',k≤k'∧Pa s gp k' w'∧rem s k'=r
def yhp (s:ByteArray) (gp k:Nat) (w:World) (r:R) (e:Ending) (w':World):Prop:=e = .returned (.tuple #[])∧At s gp k w r w'
set_option maxRecDepth 100000 in
set_option maxHeartbeats 4000000 in
theorem zd7 (s:ByteArray) (gp k:Nat) (w:World) (h:Pa s gp k w) (hs:s.size≤4096):Calls Tryz.prog 52 #[.pointer (some ⟨gp,0,none⟩)] w (yhp s gp k w (zah (rem s k))):=by
 have HP:=hX h
 obtain ⟨r,hr⟩:∃r,zah (rem s k)=r:=⟨_,rfl⟩
 rw[hr];have H0:Hid (w.grownBy w (some gp)∧zah (rem s k)=r):=hX ⟨World.grownBy.refl w _,hr⟩;clear h hr;go_enter Tryz.func52,Tryz.ntmps52;go_wp2_with fail;go_loopg [] (s.size - k) (fun n wr=>∃j:Nat,k≤j∧j≤s.size∧n=s.size - j∧Hid (Pa s gp j wr)∧Hid (w.grownBy wr (some gp)∧zah (rem s j)=r))
 case atStart=>exact ⟨k,Nat.le_refl _,HP.out.le,rfl,HP,H0⟩
 case round=>
  obtain ⟨j,hkj,hj,rfl,HJ,HE⟩:=hrel;by_cases hlt:j<s.size
  ·have c0:wr.cell? ⟨gp,0,none⟩=some (.string s):=HJ.out.blk.cell 0;have c1:wr.cell? ⟨gp,1,none⟩=some (.int .i64 j):=HJ.out.blk.cell 1;have z1:wr.frozen? ⟨gp,1,none⟩=false:=HJ.out.blk.frozen 1;have h1:(0:Int)≤(j:Int):=by omega
   have h2:(j:Int)<(s.size:Int):=by omega
   have HS:=hX (ycs hlt);have hix:=ycr s[j]
   cases hb:zto s[j] with
   | true=>
    rw[hb] at hix HS;have d1:decide (0≤Lib.indexByte [9,10,13,32] s[j])=true:=decide_eq_true hix;clear hix hb;go_upto_region 0 with fail;go_quiet ((go_at_call 76;exact Calls.quiet_of_same (Tryz.strings_IndexByte _ _ _)));go_wp2_with fail;have HN:Hid (Pa s gp (j+1) ((wr.drewN nq).setCell ⟨gp,1,none⟩ (.int .i64 (j+1)))):=hX ((HJ.out.drewN nq).next 1 hlt _ (by omega));have HG:Hid (w.grownBy ((wr.drewN nq).setCell ⟨gp,1,none⟩ (.int .i64 (j+1))) (some gp)∧zah (rem s (j+1))=r):=hX ⟨zdj (zaq HE.out.1 nq) 1 _,by rw[←HE.out.2,HS.out];rfl⟩;go_roundg (s.size - (j+1))
    case measure=>omega
    case rel=>exact ⟨j+1,by omega,by omega,rfl,HN,HG⟩
   | false=>
    rw[hb] at hix HS;have d1:decide (0≤Lib.indexByte [9,10,13,32] s[j])=false:=decide_eq_false (by simpa using hix);clear hix hb;go_upto_region 0 with fail;go_quiet ((go_at_call 76;exact Calls.quiet_of_same (Tryz.strings_IndexByte _ _ _)));go_wp2_with fail;go_end0;exact ⟨rfl,zaq HE.out.1 nq,j,hkj,HJ.out.drewN nq,by rw[←HE.out.2,HS.out];rfl⟩
  ·obtain rfl:j=s.size:=by omega
   have c0:wr.cell? ⟨gp,0,none⟩=some (.string s):=HJ.out.blk.cell 0;have c1:wr.cell? ⟨gp,1,none⟩=some (.int .i64 s.size):=HJ.out.blk.cell 1;go_upto_region 0 with fail;go_quiet (fail);go_wp2_with fail;go_end0;exact ⟨rfl,zaq HE.out.1 nq,s.size,hkj,HJ.out.drewN nq,by rw[←HE.out.2,zd2];rfl⟩
end Go.Proofs.YtplkbdncgkgppaaGreatDoor.Qry
end
