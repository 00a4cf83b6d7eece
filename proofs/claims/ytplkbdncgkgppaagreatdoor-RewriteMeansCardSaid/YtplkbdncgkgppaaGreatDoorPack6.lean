/- Lemmas that the last text leans on. -/
import Derived.Test.YtplkbdncgkgppaaGreatDoorPack5
import Derived.RowKit
import Derived.Laws.Bits64
import Derived.Laws.BitsAllLaws
import Derived.Shelf.Strings.Builder1
import Derived.Shelf.Small.Strs
import Derived.Shelf.Strings.BuilderF
import Derived.Shelf.Strings.BuilderK
import Derived.Shelf.Strings.BuilderRune
import Derived.Shelf.Utf8.AppendRune
import Derived.Shelf.Utf8.AppendRunePlain
import Derived.Shelf.Strconv.Itoa0
import Derived.Shelf.Strconv.Itoa1
import Derived.Shelf.LaysM
import Derived.Shelf.Strconv.Itoa2
import Derived.Shelf.Strconv.Itoa3
import Derived.Shelf.Strconv.Itoa4
import Derived.Shelf.Strconv.ParseIntEmpty
import Derived.Shelf.Strconv.Clone
import Derived.Shelf.Strconv.SyntaxError
import Derived.Shelf.LaysC
import Derived.Shelf.Strconv.ToError
import Derived.Shelf.Strconv.Lower
import Derived.Shelf.Strconv.ParseUint10
import Derived.Shelf.Strconv.ParseUint10Empty
import Derived.Shelf.Strconv.ParseUint10Any
import Derived.Shelf.Strconv.ParseInt10
import Derived.Shelf.Strconv.RangeError
import Derived.Shelf.Strconv.ToErrorRange
import Derived.Shelf.Strconv.ParseUintEmpty
import Derived.Shelf.Strconv.ParseUint10b64
import Derived.Shelf.Strconv.ParseUint10b32
import Derived.Shelf.Strconv.ParseUint10b16
import Derived.Shelf.Strconv.ParseUint10b8
import Derived.Shelf.Strconv.ParseUint10At
import Derived.Shelf.Strconv.ParseInt10At64
import Derived.Shelf.Strconv.ParseInt10At32
import Derived.Shelf.Strconv.ParseInt10At16
import Derived.Shelf.Strconv.ParseInt10At8
import Derived.Shelf.Strconv.ParseInt10All
import Derived.Shelf.Strconv.ParseIntPublic10
import Derived.Shelf.Strconv.ErrVarParseInt
import Derived.Shelf.Strings.Search1
import Derived.Shelf.Strings.Prefix
import Derived.Shelf.Unicode.Decode
import Derived.Shelf.Unicode.DecodeSlow
import Derived.Shelf.Unicode.DecodeAny
import Derived.Shelf.Strings.BuilderCap
import Derived.Test.YtplkbdncgkgppaaGreatDoorProg
set_option linter.all false
section
namespace RewP
open SchP QryP AnaP QckP
section
variable {l:List FT} {leaf:QT→Bool × Int} {wv:QT→Int→Int} (L:LeafOk l leaf wv)
theorem zku:∀{u:Int} {ks:List QT},zat u ks=true→∀k∈ks,zf2 k u=true
 | u,[],_,k,hk=>by cases hk
 | u,q::qs,h,k,hk=>by
  rw[zat,Bool.and_eq_true] at h;rcases List.mem_cons.1 hk with rfl | hk
  ·have:=h.1;rw[ze6,Bool.and_eq_true] at this;exact this.1
  ·exact zku h.2 k hk
theorem yaz {k:QT} (h:zf2 k 8=true):1≤oc k∧oc k≤4:=by
 unfold zf2 at h;simp only[Bool.and_eq_true] at h;have:=h.1.1.1.1.1.1.1.1;simpa using this
theorem zs9 {k:QT} {u:Int} (hu:u≠8) (h:zf2 k u=true):oc k=0:=by
 unfold zf2 at h;simp only[Bool.and_eq_true] at h;have:=h.1.1.1.1.1.1.1.1;rw[if_neg hu] at this;simpa using this
theorem ygb {k:QT} {u:Int} (h:zf2 k u=true):1≤kd k∧kd k≤10:=by
 unfold zf2 at h;simp only[Bool.and_eq_true] at h;have:=h.1.1.1.1.1.1.1.2;simpa using this
theorem zw1 {k:QT} {u:Int} (h:zf2 k u=true) (h9:kd k=9):0≤bo k:=by
 unfold zf2 at h;simp only[Bool.and_eq_true] at h;have:=h.1.1.2;rw[if_pos h9] at this;have:=of_decide_eq_true this;exact this.1
theorem zw2 {k:QT} {u:Int} (h:zf2 k u=true) (h9:kd k=9∨kd k=10):(kids k).length=1:=by
 unfold zf2 at h;simp only[Bool.and_eq_true] at h;have:=h.2;rw[if_pos h9] at this;exact of_decide_eq_true this
include L
theorem ya0 (s:Bool) (q:QT) (u:Int) (xs:List QT) (ho:zf2 q u=true) (hf:zat (kd q) (kids q)=true) (hk:Kids (leaf:=leaf) (wv:=wv) s xs (kids q)):zjy leaf wv s (zho l s (withKids xs q)) q:=by
 have hkd:=ygb ho;have hocc:=zku hf;rcases (show kd q=1∨kd q=2∨(kd q=3∨kd q=4)∨kd q=5∨kd q=6∨kd q=7∨kd q=8∨kd q=9∨kd q=10 by omega) with h | h | h | h | h | h | h | h | h
 ·have e1:=(zcg xs q).1;unfold zho;rw[if_neg (by omega),if_neg (by omega),if_neg (by omega),if_neg (by omega),if_neg (by omega)];exact zgf (by rw[zgw leaf wv q h,zgw leaf wv _ (e1.trans h)]) (fun _=>zet (by omega))
 ·have e1:=(zcg xs q).1;unfold zho;rw[if_neg (by omega),if_neg (by omega),if_neg (by omega),if_neg (by omega),if_neg (by omega)];exact zgf (by rw[zcl leaf wv q h,zcl leaf wv _ (e1.trans h)]) (fun _=>zet (by omega))
 ·exact yik L s q xs h
 ·have e1:=(zcg xs q).1;unfold zho;rw[if_neg (by omega),if_neg (by omega),if_neg (by omega),if_neg (by omega),if_neg (by omega)];exact zgg xs q (by omega)
 ·exact yjn L s q xs h
 ·exact yjo L s q xs h
 ·rw[h] at hocc;exact yjp L s q xs h hk (fun k hkk=>yaz (hocc k hkk))
 ·have hl:=zw2 ho (.inl h);obtain ⟨k,hq⟩:=List.length_eq_one_iff.1 hl;rw[hq] at hk hocc;have h0:=zs9 (by omega) (hocc k (by simp))
  cases hk with
  | cons hoc hg hn=>
   cases hn;refine yjq L s q _ k h hq (zw1 ho h) ?_;rw[h0] at hg;have e:(s && decide ((0:Int)≠4) && decide ((0:Int)≠3))=s:=by cases s <;> rfl
   rwa [e] at hg
 ·have hl:=zw2 ho (.inr h);obtain ⟨k,hq⟩:=List.length_eq_one_iff.1 hl;rw[hq] at hk hocc;have h0:=zs9 (by omega) (hocc k (by simp))
  cases hk with
  | cons hoc hg hn=>
   cases hn;refine yij s q _ k h hq ?_;rw[h0] at hg;have e:(s && decide ((0:Int)≠4) && decide ((0:Int)≠3))=s:=by cases s <;> rfl
   rwa [e] at hg
end
section
variable {l:List FT} {leaf:QT→Bool × Int} {wv:QT→Int→Int}
mutual
theorem zmr (L:LeafOk l leaf wv) (s:Bool) (u:Int):∀q:QT,za0 u q=true→zjy leaf wv s (ze0 l s q) q
 | .mk k o f t up' lo' hi' b p ks,h=>by rw[za0,Bool.and_eq_true] at h;rw[ze0];exact zup o (ya0 L s (.mk k o f t up' lo' hi' b p ks) u (zb8 l s ks) h.1 h.2 (zms L s k ks h.2))
theorem zms (L:LeafOk l leaf wv) (s:Bool) (u:Int):∀ks:List QT,zat u ks=true→Kids (leaf:=leaf) (wv:=wv) s (zb8 l s ks) ks
 | [],_=>by rw[zb8];exact .nil
 | q::qs,h=>by rw[zat,Bool.and_eq_true] at h;rw[zb8];refine .cons ?_ (zmr L _ u q h.1) (zms L s u qs h.2);cases q;rw[ze0,zj3];rfl
end
end
end RewP
end
section
namespace RewP
open SchP QryP AnaP QckP
def zdx (n:Int):List UInt8:=(List.range 8).map fun i=>UInt8.ofNat (((n % 18446744073709551616).toNat / 256 ^ i) % 256)
def zb3 (p0:Int):List TokD→List UInt8
 | []=>[]
 | t::ts=>t.text.data.toList++zdx (t.pos - p0)++zb3 p0 ts
def zbj:List Int→List Int→Option (List UInt8)
 | a::l,b::r=>if b<a then none else (zbj l r).map fun x=>zdx a++zdx b++x
 | _,_=>some []
def zdy (l:List FT) (q:QT):List UInt8:=
 if kd q=3∨kd q=4 then (match zbc l (fd q) with
  | none=>[]
  | some f=>if f.kind=1 then (match (zf6 f.chain (tx q)).1 with
   | []=>[]
   | t::ts=>119::((fd q).data.toList++0::zb3 t.pos (t::ts))) else 116::((fd q).data.toList++0::((tx q).data.toList++0::(tx q).data.toList)))
 else if kd q=6 then (if gtL (tx q).data.toList (up q).data.toList then [] else 116::((fd q).data.toList++0::((tx q).data.toList++0::(up q).data.toList)))
 else if kd q=5 then 112::((fd q).data.toList++0::(tx q).data.toList)
 else match zbj (lo q) (hi q) with
  | none=>[]
  | some x=>114::((fd q).data.toList++0::x)
def zmt (h:Nat):Int:=if h / 256 % 8=0 then 9223372036854775807 else if h / 256 % 8=1 then -4611686018427387904 else ((h % 18446744073709551616) / 1099511627776:Nat)
def zbn (l:List FT) (mix:List UInt8→Nat) (q:QT):Bool × Int:=if zdy l q=[] then (false,0) else (decide (mix (zdy l q) % 2=1),zmt (mix (zdy l q)))
theorem zw3 (h:Nat):zes (zmt h):=by
 unfold zmt zes;split
 ·omega
 ·split
  ·omega
  ·omega
theorem zta:∀l:List UInt8,gtL l l=false
 | []=>rfl
 | a::l=>by rw[gtL,if_neg (UInt8.lt_irrefl a),if_neg (UInt8.lt_irrefl a)];exact zta l
theorem zo7:∀{l r:List Int},zg8 l r=true→zbj l r=none
 | [],_,h=>by rw[zg8] at h;cases h;intro _ _ _ _ h;cases h
 | _::_,[],h=>by rw[zg8] at h;cases h;intro _ _ _ _ _ h;cases h
 | a::l,b::r,h=>by
  rw[zg8,Bool.or_eq_true,decide_eq_true_eq] at h;rw[zbj];rcases h with h | h
  ·rw[if_pos h]
  ·split
   ·rfl
   ·rw[zo7 h];rfl
section
variable (l:List FT) (o:Int) (fl t u:ByteArray) (lo' hi':List Int) (b p:Int) (ks:List QT)
theorem zgx (k:Int) (h:k=3∨k=4) (f:FT) (hf:zbc l fl=some f):zdy l (.mk k o fl t u lo' hi' b p ks)=if f.kind=1 then (match (zf6 f.chain t).1 with
 | []=>[]
 | x::ts=>119::(fl.data.toList++0::zb3 x.pos (x::ts))) else 116::(fl.data.toList++0::(t.data.toList++0::t.data.toList)):=by
 refine Eq.trans (if_pos h) ?_
 show (match zbc l fl with
  | none=>[]
  | some f=>if f.kind=1 then (match (zf6 f.chain t).1 with
   | []=>[]
   | x::ts=>119::(fl.data.toList++0::zb3 x.pos (x::ts))) else 116::(fl.data.toList++0::(t.data.toList++0::t.data.toList)))=_
 rw[hf]
theorem znm:zdy l (.mk 6 o fl t u lo' hi' b p ks)=if gtL t.data.toList u.data.toList then [] else 116::(fl.data.toList++0::(t.data.toList++0::u.data.toList)):=
 Eq.trans (if_neg (show ¬((6:Int)=3∨(6:Int)=4) by omega)) (if_pos rfl)
theorem zw4:zdy l (.mk 7 o fl t u lo' hi' b p ks)=match zbj lo' hi' with
 | none=>[]
 | some x=>114::(fl.data.toList++0::x):=
 Eq.trans (if_neg (show ¬((7:Int)=3∨(7:Int)=4) by omega)) (Eq.trans (if_neg (show ¬(7:Int)=6 by omega)) (if_neg (show ¬(7:Int)=5 by omega)))
end
theorem ya1 (l:List FT) (mix:List UInt8→Nat) (wv:QT→Int→Int) (hw:∀q n,zes (wv q n)):LeafOk l (zbn l mix) wv where
 range:=fun q=>by
  unfold zbn;split
  ·exact ⟨by decide,by decide⟩
  ·exact zw3 _
 wrange:=hw
 term0:=fun q f hk hf h1 h0=>by
  have e:zdy l (zdw q)=[]:=by
   cases q with
   | mk k o fl t u lo' hi' b p ks=>
    have hk:k=3∨k=4:=hk;have hf:zbc l fl=some f:=hf;have h0:(zf6 f.chain t).1.length=0:=h0;refine (zgx l 0 fl t u lo' hi' b p [] k hk f hf).trans ?_;rw[if_pos h1,List.eq_nil_of_length_eq_zero h0]
  unfold zbn;rw[if_pos e]
 term1:=fun q f k' hk hf h1 h0 hk'=>by
  have e:zdy l (zdw (withK k' q))=zdy l (zdw q):=by
   cases q with
   | mk k o fl t u lo' hi' b p ks=>
    have hk:k=3∨k=4:=hk;have hf:zbc l fl=some f:=hf;exact (zgx l 0 fl t u lo' hi' b p [] k' hk' f hf).trans (zgx l 0 fl t u lo' hi' b p [] k hk f hf).symm
  unfold zbn;rw[e]
 terms0:=fun q hk hg=>by
  have e:zdy l (zdw q)=[]:=by
   cases q with
   | mk k o fl t u lo' hi' b p ks=>
    have hk:k=6:=hk;subst hk;have hg:gtL t.data.toList u.data.toList=true:=hg;exact (znm l 0 fl t u lo' hi' b p []).trans (if_pos hg)
  unfold zbn;rw[if_pos e]
 terms1:=fun q hk ht h2=>by
  have e:zdy l (zdw (withT q))=zdy l (zdw q):=by
   cases q with
   | mk k o fl t u lo' hi' b p ks=>
    have hk:k=6:=hk;subst hk;have ht:t=u:=ht;subst ht;have h2:zrg l fl=2:=h2;unfold zrg at h2
    cases hf:zbc l fl with
    | none=>rw[hf] at h2;cases h2
    | some f=>
     rw[hf] at h2;have h2:f.kind=2:=h2;have e1:=(zgx l 0 fl t ⟨#[]⟩ lo' hi' b p [] 3 (.inl rfl) f hf).trans (if_neg (by omega));have e2:=(znm l 0 fl t t lo' hi' b p []).trans (if_neg (show ¬gtL t.data.toList t.data.toList=true by rw[zta];decide));exact e1.trans e2.symm
  unfold zbn;rw[e]
 range0:=fun q hk ho=>by
  have e:zdy l (zdw q)=[]:=by
   cases q with
   | mk k o fl t u lo' hi' b p ks=>
    have hk:k=7:=hk;subst hk;have ho:zg8 lo' hi'=true:=ho;refine (zw4 l 0 fl t u lo' hi' b p []).trans ?_;rw[zo7 ho]
  unfold zbn;rw[if_pos e]
end RewP
end
section
namespace RewP
open SchP QryP AnaP QckP Go Go.RowKit
theorem zkv (n:Int):zes (wrap64 n):=by unfold wrap64 zes;omega
theorem zh8 {n:Int} (h:zes n):wrap64 n=n:=by unfold zes at h;unfold wrap64;omega
theorem ya2 {a b:Int} (ha:zes a) (hb:zes b) :
 (0<a∧0<b∧wrap64 (a+b)<0→zd4 (a+b)=9223372036854775807)∧(¬(0<a∧0<b∧wrap64 (a+b)<0)→a<0∧b<0∧0≤wrap64 (a+b)→zd4 (a+b) = -9223372036854775808)∧
   (¬(0<a∧0<b∧wrap64 (a+b)<0)→¬(a<0∧b<0∧0≤wrap64 (a+b))→zd4 (a+b)=wrap64 (a+b)):=by
 unfold zes at ha hb;unfold zd4 wrap64;refine ⟨fun h=>?_,fun h h'=>?_,fun h h'=>?_⟩
 ·rw[if_pos (by omega)]
 ·rw[if_neg (by omega),if_pos (by omega)]
 ·split
  ·omega
  ·split <;> omega
theorem yd7 (c b:Int):(c.tdiv b).natAbs≤c.natAbs:=by
 rw[Int.natAbs_tdiv];exact Nat.div_le_self _ _
theorem zuq {a b:Int} (ha:zes a) (hb:zes b) (hb0:b≠0):(wrap64 ((wrap64 (a*b)).tdiv b)=a∧¬(a = -9223372036854775808∧b = -1)∧¬(b = -9223372036854775808∧a = -1))↔zes (a*b):=by
 constructor
 ·rintro ⟨h1,h2,h3⟩;have hc:=zkv (a*b)
  have hk:∃k:Int,a*b=wrap64 (a*b)+k*18446744073709551616:=(by refine ⟨(a*b+9223372036854775808) / 18446744073709551616,?_⟩;unfold wrap64;omega)
  obtain ⟨k,hk⟩:=hk;generalize wrap64 (a*b)=c at *;have hm:=Int.mul_tdiv_add_tmod c b
  have hl:(c.tmod b).natAbs<b.natAbs:=(by rw[Int.natAbs_tmod];exact Nat.mod_lt _ (by omega))
  have hq:=yd7 c b;by_cases hx:c = -9223372036854775808∧b = -1
  ·obtain ⟨rfl,rfl⟩:=hx
   have e:wrap64 (Int.tdiv (-9223372036854775808) (-1)) = -9223372036854775808:=(by rw[show Int.tdiv (-9223372036854775808) (-1)=9223372036854775808 from rfl];unfold wrap64;omega)
   rw[e] at h1;exact absurd ⟨h1.symm,rfl⟩ h2
  ·have hin:zes (c.tdiv b):=by
    unfold zes at hc ⊢;by_cases hc1:c = -9223372036854775808
    ·by_cases hb1:b=1
     ·subst hb1;rw[Int.tdiv_one];omega
     ·have hb2:b≠-1:=fun h=>hx ⟨hc1,h⟩;have hbn:2≤b.natAbs:=by omega
      have:(c.tdiv b).natAbs*2≤c.natAbs:=by
       rw[Int.natAbs_tdiv]
       calc c.natAbs / b.natAbs*2≤c.natAbs / b.natAbs*b.natAbs:=Nat.mul_le_mul_left _ hbn
        _≤c.natAbs:=Nat.div_mul_le_self _ _
      omega
    ·omega
   rw[zh8 hin] at h1;rw[h1] at hm;have e:b*a=a*b:=Int.mul_comm _ _;unfold zes at hb hc ⊢;have:k=0:=by omega
   omega
 ·intro h;refine ⟨?_,?_,?_⟩
  ·rw[zh8 h,Int.mul_tdiv_cancel _ hb0,zh8 ha]
  ·rintro ⟨rfl,rfl⟩;exact absurd h (by unfold zes;decide)
  ·rintro ⟨rfl,rfl⟩;exact absurd h (by unfold zes;decide)
theorem ztb {n:Int} (h:zes n):zd4 n=n:=zrh h.1 h.2
theorem zw5 {a b:Int} (h:¬zes (a*b)):(decide (a<0)=decide (b<0)→zd4 (a*b)=9223372036854775807)∧(decide (a<0)≠decide (b<0)→zd4 (a*b) = -9223372036854775808):=by
 unfold zes at h;refine ⟨fun e=>?_,fun e=>?_⟩
 ·have:0≤a*b:=by
   by_cases ha:a<0
   ·rw[decide_eq_true ha] at e;have hb:b<0:=of_decide_eq_true e.symm;exact Int.le_of_lt (Int.mul_pos_of_neg_of_neg ha hb)
   ·rw[decide_eq_false ha] at e;have hb:¬b<0:=of_decide_eq_false e.symm;exact Int.mul_nonneg (by omega) (by omega)
  unfold zd4;rw[if_pos (by omega)]
 ·have:a*b≤0:=by
   by_cases ha:a<0
   ·rw[decide_eq_true ha] at e;have hb:¬b<0:=fun h=>e (decide_eq_true h).symm;exact Int.mul_nonpos_of_nonpos_of_nonneg (by omega) (by omega)
   ·rw[decide_eq_false ha] at e
    have hb:b<0:=by
     cases hd:decide (b<0) with
     | true=>exact of_decide_eq_true hd
     | false=>rw[hd] at e;exact absurd rfl e
    exact Int.mul_nonpos_of_nonneg_of_nonpos (by omega) (by omega)
  unfold zd4;rw[if_neg (by omega),if_pos (by omega)]
def zfm (h:Int) (c:UInt8):Int:=
 let x:=IntKind.u64.wrap (bits .xor .u64 h (IntKind.u64.wrap c.toNat)*1099511628211);bits .xor .u64 x (x / 536870912)
def ztc (h:Int):Int:=
 let x:=IntKind.u64.wrap (h*13787848793156543929);bits .xor .u64 x (x / 4294967296)
def ydg (seed:Int) (l:List UInt8):Int:=ztc (l.foldl zfm (bits .xor .u64 seed 11400714819323198485))
def U64 (n:Int):Prop:=0≤n∧n<18446744073709551616
theorem zri (n:Int):U64 (IntKind.u64.wrap n):=by
 have:IntKind.u64.wrap n=n % 18446744073709551616:=by simp[IntKind.wrap,IntKind.signed,IntKind.bits]
 rw[this];unfold U64;omega
theorem zrj (o:BinOp) (a b:Int):U64 (bits o .u64 a b):=zri _
theorem zw6 (seed:Int) (l:List UInt8):U64 (ydg seed l):=by unfold ydg ztc;exact zrj _ _ _
def zbx (seed:Int) (l:List UInt8):Nat:=(ydg seed l).toNat
theorem zw7 (seed:Int) (l:List UInt8):((zbx seed l:Nat):Int)=ydg seed l:=by
 have:=zw6 seed l;unfold zbx U64 at *;omega
theorem zw8 (seed:Int) (l:List UInt8):zbx seed l<18446744073709551616:=by
 have:=zw6 seed l;unfold zbx U64 at *;omega
theorem zw9 (n m k:Nat) (hn:n<18446744073709551616) (hm:m=2 ^ k - 1) (hk:m<18446744073709551616):bits .and .u64 (n:Int) (m:Int)=((n % 2 ^ k:Nat):Int):=by
 rw[u64_and_nat n m hn hk,hm,Nat.and_two_pow_sub_one_eq_mod]
theorem zxa (n:Nat) (hn:n<18446744073709551616):bits .and .u64 (n:Int) 1=((n % 2:Nat):Int):=zw9 n 1 1 hn rfl (by decide)
theorem zxb (n:Nat) (hn:n<18446744073709551616):bits .and .u64 (n:Int) 7=((n % 8:Nat):Int):=zw9 n 7 3 hn rfl (by decide)
def wvH (op:Int) (h n:Int):Int:=if op=1 then zd4 (n+wrap64 h) else if op=2 then zd4 (n*(h % 1000)) else zd4 (max n (wrap64 h))
def ygc (q:QT):List UInt8:=118::((fd q).data.toList++zdx ((lo q).headD 0))
def wvM (mix:List UInt8→Nat) (q:QT) (n:Int):Int:=wvH (op q) (mix (ygc q)) n
theorem ydh (mix:List UInt8→Nat) (q:QT) (n:Int):zes (wvM mix q n):=by
 unfold wvM wvH;split
 ·exact zef _
 ·split
  ·exact zef _
  ·exact zef _
theorem zur (l:List FT) (seed:Int):LeafOk l (zbn l (zbx seed)) (wvM (zbx seed)):=ya1 l _ _ (ydh _)
theorem zxc (l:List FT) (seed:Int) (q:QT) (h:za0 0 q=true):zjy (zbn l (zbx seed)) (wvM (zbx seed)) true (ze0 l true q) q:=zmr (zur l seed) true 0 q h
end RewP
end
section
namespace Go.Proofs
open Go.Shelf
def Tryz.lays169_ren:Go.Shelf.Ren:=⟨fun | 169=>56 | n=>n,fun | 70=>108 | 9=>9 | 0=>0 | 72=>110 | 37=>93 | 127=>149 | 3=>3 | 5=>5 | n=>n,fun | n=>n⟩
theorem Tryz.lays169:Go.Proofs.Lays.n169 Tryz.prog Tryz.lays169_ren:={
 mixed:=by kernel_rfl
 f169:=Tryz.func56.trans (congrArg some (by kernel_rfl))
 t0:=Tryz.underlying0
 a0:=Tryz.isAgg0
 z0:=Tryz.sizeOf0
 v0:=Tryz.zeroValue0
 t3:=Tryz.underlying3
 a3:=Tryz.isAgg3
 z3:=Tryz.sizeOf3
 v3:=Tryz.zeroValue3
 t9:=Tryz.underlying9
 a9:=Tryz.isAgg9
 z9:=Tryz.sizeOf9
 v9:=Tryz.zeroValue9
 t37:=Tryz.underlying93
 a37:=Tryz.isAgg93
 z37:=Tryz.sizeOf93
 v37:=Tryz.zeroValue93
 t70:=Tryz.underlying108
 a70:=Tryz.isAgg108
 z70:=Tryz.sizeOf108
 v70:=Tryz.zeroValue108
 t72:=Tryz.underlying110
 a72:=Tryz.isAgg110
 z72:=Tryz.sizeOf110
 v72:=Tryz.zeroValue110
 t127:=Tryz.underlying149
 a127:=Tryz.isAgg149
 z127:=Tryz.sizeOf149
 v127:=Tryz.zeroValue149 }
theorem Tryz.Builder_Extra_169:Builder.Extra Tryz.prog Tryz.lays169_ren:={
 sizeBuilder:=by kernel_rfl
 liesBuilder:=by kernel_rfl
 t5:=Tryz.underlying5
 a5:=Tryz.isAgg5
 z5:=Tryz.sizeOf5
 v5:=Tryz.zeroValue5
 infoByte:=by kernel_rfl
 cellsByte:=by kernel_rfl
 sizeByte:=by kernel_rfl
 neB5:=by decide }
def Tryz.lays137_ren:Go.Shelf.Ren:=⟨fun | 137=>76 | 217=>123 | 266=>153 | n=>n,fun | 9=>9 | 5=>5 | 3=>3 | n=>n,fun | n=>n⟩
theorem Tryz.lays137:Go.Proofs.Lays.n137 Tryz.prog Tryz.lays137_ren:={
 mixed:=by kernel_rfl
 f137:=Tryz.func76.trans (congrArg some (by kernel_rfl))
 f217:=Tryz.func123.trans (congrArg some (by kernel_rfl))
 f266:=Tryz.func153.trans (congrArg some (by kernel_rfl))
 t3:=Tryz.underlying3
 a3:=Tryz.isAgg3
 z3:=Tryz.sizeOf3
 v3:=Tryz.zeroValue3
 t5:=Tryz.underlying5
 a5:=Tryz.isAgg5
 z5:=Tryz.sizeOf5
 v5:=Tryz.zeroValue5
 t9:=Tryz.underlying9
 a9:=Tryz.isAgg9
 z9:=Tryz.sizeOf9
 v9:=Tryz.zeroValue9 }
open Go.RowKit in
theorem Tryz.strings_IndexByte (s:ByteArray) (c:Int) (w:World) :
 Calls Tryz.prog 76 #[.string s,.int .u8 c] w fun e w'=>e = .returned (.int .i64 (Lib.indexByte s.data.toList c.toNat.toUInt8))∧w'=w:=Any.strings_IndexByte Tryz.lays137 s c w
open Go.RowKit in
theorem Tryz.Builder_String_any_k (B b:Nat) (l:List UInt8) (w:World) (h:Lib.IsBuilderF 110 5 B b (Lib.byteCells l) w) (hBw:B≤w.heap.size) :
 Calls Tryz.prog 56 #[.pointer (some ⟨b,0,none⟩)] w fun e w'=>e = .returned (.string ⟨l.toArray⟩)∧(Lib.IsBuilderF 110 5 B b (Lib.byteCells l) w'∧Below B w w'∧Lib.OthersKept 5 (some b) w w'):=Any.Builder_String_any_k Tryz.lays169 Tryz.Builder_Extra_169 B b l w h hBw
def Tryz.lays242_ren:Go.Shelf.Ren:=⟨fun | 242=>193 | 278=>198 | n=>n,fun | 37=>93 | 21=>21 | 51=>213 | 4=>4 | 5=>5 | 46=>68 | n=>n,fun | n=>n⟩
theorem Tryz.lays242:Go.Proofs.Lays.n242 Tryz.prog Tryz.lays242_ren:={
 mixed:=by kernel_rfl
 f242:=Tryz.func193.trans (congrArg some (by kernel_rfl))
 f278:=Tryz.func198.trans (congrArg some (by kernel_rfl))
 t4:=Tryz.underlying4
 a4:=Tryz.isAgg4
 z4:=Tryz.sizeOf4
 v4:=Tryz.zeroValue4
 t5:=Tryz.underlying5
 a5:=Tryz.isAgg5
 z5:=Tryz.sizeOf5
 v5:=Tryz.zeroValue5
 t21:=Tryz.underlying21
 a21:=Tryz.isAgg21
 z21:=Tryz.sizeOf21
 v21:=Tryz.zeroValue21
 t37:=Tryz.underlying93
 a37:=Tryz.isAgg93
 z37:=Tryz.sizeOf93
 v37:=Tryz.zeroValue93
 t46:=Tryz.underlying68
 a46:=Tryz.isAgg68
 z46:=Tryz.sizeOf68
 v46:=Tryz.zeroValue68
 t51:=Tryz.underlying213
 a51:=Tryz.isAgg213
 z51:=Tryz.sizeOf213
 v51:=Tryz.zeroValue213 }
open Go.RowKit in
theorem Tryz.utf8_AppendRune_row (B:Nat) (v:Value) (n:Nat) (xs:List Value) (r:Int) (hr0 : -2147483648≤r) (hr1:r≤2147483647) (w:World) (hown:w.ownsRowF B 5 1 v n xs) (hlen:n+4≤140737488355328) (hBw:B≤w.heap.size) :
 Calls Tryz.prog 193 #[v,.int .i32 r] w fun e w'=>∃v',e = .returned v'∧w'.ownsRowF B 5 1 v' (n+(Lib.runeCells r).length) (xs++Lib.runeCells r)∧∃o,(w.alloc o).grownBy w' v.ownBlock:=Any.utf8_AppendRune_row Tryz.lays242 (by kernel_rfl) B v n xs r hr0 hr1 w hown hlen hBw
def Tryz.laysM173_ren:Go.Shelf.Ren:=⟨fun | 173=>125 | 246=>156 | 283=>174 | 284=>175 | 285=>176 | 286=>177 | 129=>188 | 317=>187 | 318=>189 | 319=>190 | 320=>191 | 337=>196 | 338=>197 | n=>n,fun | 2=>2 | 3=>3 | 9=>9 | 4=>4 | 171=>199 | 0=>0 | 53=>29 | 37=>93 | 5=>5 | 173=>202 | 212=>212 | 51=>213 | 20=>20 | 213=>214 | 46=>68 | 232=>227 | 233=>228 | n=>n,fun | 17=>3 | 18=>6 | 19=>7 | n=>n⟩
theorem Tryz.laysM173:Go.Proofs.LaysM.n173 Tryz.prog Tryz.laysM173_ren:={
 mixed:=by kernel_rfl
 f129:=Tryz.func188.trans (congrArg some (by kernel_rfl))
 f173:=Tryz.func125.trans (congrArg some (by kernel_rfl))
 f246:=Tryz.func156.trans (congrArg some (by kernel_rfl))
 f283:=Tryz.func174.trans (congrArg some (by kernel_rfl))
 f284:=Tryz.func175.trans (congrArg some (by kernel_rfl))
 f285:=Tryz.func176.trans (congrArg some (by kernel_rfl))
 f286:=Tryz.func177.trans (congrArg some (by kernel_rfl))
 f317:=Tryz.func187.trans (congrArg some (by kernel_rfl))
 f318:=Tryz.func189.trans (congrArg some (by kernel_rfl))
 f319:=Tryz.func190.trans (congrArg some (by kernel_rfl))
 f320:=Tryz.func191.trans (congrArg some (by kernel_rfl))
 f337:=Tryz.func196.trans (congrArg some (by kernel_rfl))
 f338:=Tryz.func197.trans (congrArg some (by kernel_rfl))
 t0:=Tryz.underlying0
 a0:=Tryz.isAgg0
 z0:=Tryz.sizeOf0
 v0:=Tryz.zeroValue0
 t2:=Tryz.underlying2
 a2:=Tryz.isAgg2
 z2:=Tryz.sizeOf2
 v2:=Tryz.zeroValue2
 t3:=Tryz.underlying3
 a3:=Tryz.isAgg3
 z3:=Tryz.sizeOf3
 v3:=Tryz.zeroValue3
 t4:=Tryz.underlying4
 a4:=Tryz.isAgg4
 z4:=Tryz.sizeOf4
 v4:=Tryz.zeroValue4
 t5:=Tryz.underlying5
 a5:=Tryz.isAgg5
 z5:=Tryz.sizeOf5
 v5:=Tryz.zeroValue5
 t9:=Tryz.underlying9
 a9:=Tryz.isAgg9
 z9:=Tryz.sizeOf9
 v9:=Tryz.zeroValue9
 t20:=Tryz.underlying20
 a20:=Tryz.isAgg20
 z20:=Tryz.sizeOf20
 v20:=Tryz.zeroValue20
 t37:=Tryz.underlying93
 a37:=Tryz.isAgg93
 z37:=Tryz.sizeOf93
 v37:=Tryz.zeroValue93
 t46:=Tryz.underlying68
 a46:=Tryz.isAgg68
 z46:=Tryz.sizeOf68
 v46:=Tryz.zeroValue68
 t51:=Tryz.underlying213
 a51:=Tryz.isAgg213
 z51:=Tryz.sizeOf213
 v51:=Tryz.zeroValue213
 t53:=Tryz.underlying29
 a53:=Tryz.isAgg29
 z53:=Tryz.sizeOf29
 v53:=Tryz.zeroValue29
 t171:=Tryz.underlying199
 a171:=Tryz.isAgg199
 z171:=Tryz.sizeOf199
 v171:=Tryz.zeroValue199
 t173:=Tryz.underlying202
 a173:=Tryz.isAgg202
 z173:=Tryz.sizeOf202
 v173:=Tryz.zeroValue202
 t212:=Tryz.underlying212
 a212:=Tryz.isAgg212
 z212:=Tryz.sizeOf212
 v212:=Tryz.zeroValue212
 t213:=Tryz.underlying214
 a213:=Tryz.isAgg214
 z213:=Tryz.sizeOf214
 t232:=Tryz.underlying227
 a232:=Tryz.isAgg227
 z232:=Tryz.sizeOf227
 v232:=Tryz.zeroValue227
 t233:=Tryz.underlying228
 a233:=Tryz.isAgg228
 z233:=Tryz.sizeOf228
 v233:=Tryz.zeroValue228
 g17:=by kernel_rfl
 g18:=by kernel_rfl
 g19:=by kernel_rfl
 i0:=by kernel_rfl
 i2:=by kernel_rfl
 i3:=by kernel_rfl
 i4:=by kernel_rfl
 i5:=by kernel_rfl
 i9:=by kernel_rfl
 i20:=by kernel_rfl
 i37:=by kernel_rfl
 i46:=by kernel_rfl
 i51:=by kernel_rfl
 i53:=by kernel_rfl
 i171:=by kernel_rfl
 i173:=by kernel_rfl
 i212:=by kernel_rfl
 i232:=by kernel_rfl
 i233:=by kernel_rfl
 m17:=by kernel_rfl
 m18:=by kernel_rfl
 m19:=by kernel_rfl }
open Go.RowKit Go.Sort Go.Lib in
theorem Tryz.strconv_FormatInt_10 (n:Int) (h0 : -9223372036854775808≤n) (h1:n≤9223372036854775807) (w:World) (htab:Lib.TabIs Tryz.prog w "internal/strconv.uint64pow10" .u64 Lib.pow10Tab) :
 Calls Tryz.prog 125 #[.int .i64 n,.int .i64 10] w fun e w'=>e = .returned (.string ⟨(Lib.itoa n).toArray⟩)∧∃k os,w'=grow (w.drewN k) os:=Any.strconv_FormatInt_10 Tryz.laysM173 n h0 h1 w htab
def Tryz.laysC174_ren:Go.Shelf.Ren:=⟨fun | 174=>124 | 247=>154 | 245=>155 | 287=>169 | 279=>170 | 280=>171 | 281=>172 | 282=>173 | 321=>182 | 322=>183 | 316=>184 | 171=>186 | 205=>185 | 243=>195 | 246=>156 | 283=>174 | 284=>175 | 285=>176 | 286=>177 | 129=>188 | 317=>187 | 318=>189 | 319=>190 | 320=>191 | 337=>196 | 338=>197 | n=>n,fun | 9=>9 | 3=>3 | 2=>2 | 75=>142 | 85=>166 | 4=>4 | 167=>193 | 5=>5 | 53=>29 | 175=>194 | 46=>68 | 168=>196 | 37=>93 | 0=>0 | 210=>209 | 21=>21 | 127=>149 | 145=>221 | 143=>219 | 171=>199 | 173=>202 | 212=>212 | 51=>213 | 20=>20 | 213=>214 | 232=>227 | 233=>228 | 80=>112 | n=>n,fun | 15=>1 | 16=>2 | 17=>3 | 18=>6 | 19=>7 | n=>n⟩
theorem Tryz.laysC174:Go.Proofs.LaysC.n174 Tryz.prog Tryz.laysC174_ren:={
 mixed:=by kernel_rfl
 f129:=Tryz.func188.trans (congrArg some (by kernel_rfl))
 f171:=Tryz.func186.trans (congrArg some (by kernel_rfl))
 f174:=Tryz.func124.trans (congrArg some (by kernel_rfl))
 f205:=Tryz.func185.trans (congrArg some (by kernel_rfl))
 f243:=Tryz.func195.trans (congrArg some (by kernel_rfl))
 f245:=Tryz.func155.trans (congrArg some (by kernel_rfl))
 f246:=Tryz.func156.trans (congrArg some (by kernel_rfl))
 f247:=Tryz.func154.trans (congrArg some (by kernel_rfl))
 f279:=Tryz.func170.trans (congrArg some (by kernel_rfl))
 f280:=Tryz.func171.trans (congrArg some (by kernel_rfl))
 f281:=Tryz.func172.trans (congrArg some (by kernel_rfl))
 f282:=Tryz.func173.trans (congrArg some (by kernel_rfl))
 f283:=Tryz.func174.trans (congrArg some (by kernel_rfl))
 f284:=Tryz.func175.trans (congrArg some (by kernel_rfl))
 f285:=Tryz.func176.trans (congrArg some (by kernel_rfl))
 f286:=Tryz.func177.trans (congrArg some (by kernel_rfl))
 f287:=Tryz.func169.trans (congrArg some (by kernel_rfl))
 f316:=Tryz.func184.trans (congrArg some (by kernel_rfl))
 f317:=Tryz.func187.trans (congrArg some (by kernel_rfl))
 f318:=Tryz.func189.trans (congrArg some (by kernel_rfl))
 f319:=Tryz.func190.trans (congrArg some (by kernel_rfl))
 f320:=Tryz.func191.trans (congrArg some (by kernel_rfl))
 f321:=Tryz.func182.trans (congrArg some (by kernel_rfl))
 f322:=Tryz.func183.trans (congrArg some (by kernel_rfl))
 f337:=Tryz.func196.trans (congrArg some (by kernel_rfl))
 f338:=Tryz.func197.trans (congrArg some (by kernel_rfl))
 t0:=Tryz.underlying0
 a0:=Tryz.isAgg0
 z0:=Tryz.sizeOf0
 v0:=Tryz.zeroValue0
 t2:=Tryz.underlying2
 a2:=Tryz.isAgg2
 z2:=Tryz.sizeOf2
 v2:=Tryz.zeroValue2
 t3:=Tryz.underlying3
 a3:=Tryz.isAgg3
 z3:=Tryz.sizeOf3
 v3:=Tryz.zeroValue3
 t4:=Tryz.underlying4
 a4:=Tryz.isAgg4
 z4:=Tryz.sizeOf4
 v4:=Tryz.zeroValue4
 t5:=Tryz.underlying5
 a5:=Tryz.isAgg5
 z5:=Tryz.sizeOf5
 v5:=Tryz.zeroValue5
 t9:=Tryz.underlying9
 a9:=Tryz.isAgg9
 z9:=Tryz.sizeOf9
 v9:=Tryz.zeroValue9
 t20:=Tryz.underlying20
 a20:=Tryz.isAgg20
 z20:=Tryz.sizeOf20
 v20:=Tryz.zeroValue20
 t21:=Tryz.underlying21
 a21:=Tryz.isAgg21
 z21:=Tryz.sizeOf21
 v21:=Tryz.zeroValue21
 t37:=Tryz.underlying93
 a37:=Tryz.isAgg93
 z37:=Tryz.sizeOf93
 v37:=Tryz.zeroValue93
 t46:=Tryz.underlying68
 a46:=Tryz.isAgg68
 z46:=Tryz.sizeOf68
 v46:=Tryz.zeroValue68
 t51:=Tryz.underlying213
 a51:=Tryz.isAgg213
 z51:=Tryz.sizeOf213
 v51:=Tryz.zeroValue213
 t53:=Tryz.underlying29
 a53:=Tryz.isAgg29
 z53:=Tryz.sizeOf29
 v53:=Tryz.zeroValue29
 t75:=Tryz.underlying142
 a75:=Tryz.isAgg142
 z75:=Tryz.sizeOf142
 v75:=Tryz.zeroValue142
 t85:=Tryz.underlying166
 a85:=Tryz.isAgg166
 z85:=Tryz.sizeOf166
 v85:=Tryz.zeroValue166
 t127:=Tryz.underlying149
 a127:=Tryz.isAgg149
 z127:=Tryz.sizeOf149
 v127:=Tryz.zeroValue149
 t143:=Tryz.underlying219
 a143:=Tryz.isAgg219
 z143:=Tryz.sizeOf219
 v143:=Tryz.zeroValue219
 t145:=Tryz.underlying221
 a145:=Tryz.isAgg221
 z145:=Tryz.sizeOf221
 v145:=Tryz.zeroValue221
 t167:=Tryz.underlying193
 a167:=Tryz.isAgg193
 z167:=Tryz.sizeOf193
 v167:=Tryz.zeroValue193
 t168:=Tryz.underlying196
 a168:=Tryz.isAgg196
 z168:=Tryz.sizeOf196
 v168:=Tryz.zeroValue196
 t171:=Tryz.underlying199
 a171:=Tryz.isAgg199
 z171:=Tryz.sizeOf199
 v171:=Tryz.zeroValue199
 t173:=Tryz.underlying202
 a173:=Tryz.isAgg202
 z173:=Tryz.sizeOf202
 v173:=Tryz.zeroValue202
 t175:=Tryz.underlying194
 a175:=Tryz.isAgg194
 z175:=Tryz.sizeOf194
 v175:=Tryz.zeroValue194
 t210:=Tryz.underlying209
 a210:=Tryz.isAgg209
 z210:=Tryz.sizeOf209
 v210:=Tryz.zeroValue209
 t212:=Tryz.underlying212
 a212:=Tryz.isAgg212
 z212:=Tryz.sizeOf212
 v212:=Tryz.zeroValue212
 t213:=Tryz.underlying214
 a213:=Tryz.isAgg214
 z213:=Tryz.sizeOf214
 t232:=Tryz.underlying227
 a232:=Tryz.isAgg227
 z232:=Tryz.sizeOf227
 v232:=Tryz.zeroValue227
 t233:=Tryz.underlying228
 a233:=Tryz.isAgg228
 z233:=Tryz.sizeOf228
 v233:=Tryz.zeroValue228
 g15:=by kernel_rfl
 g16:=by kernel_rfl
 g17:=by kernel_rfl
 g18:=by kernel_rfl
 g19:=by kernel_rfl
 t80:=Tryz.underlying112
 a80:=Tryz.isAgg112
 z80:=Tryz.sizeOf112
 v80:=Tryz.zeroValue112
 i0:=by kernel_rfl
 i2:=by kernel_rfl
 i3:=by kernel_rfl
 i4:=by kernel_rfl
 i5:=by kernel_rfl
 i9:=by kernel_rfl
 i20:=by kernel_rfl
 i21:=by kernel_rfl
 i37:=by kernel_rfl
 i46:=by kernel_rfl
 i51:=by kernel_rfl
 i53:=by kernel_rfl
 i75:=by kernel_rfl
 i80:=by kernel_rfl
 i85:=by kernel_rfl
 i127:=by kernel_rfl
 i143:=by kernel_rfl
 i145:=by kernel_rfl
 i167:=by kernel_rfl
 i168:=by kernel_rfl
 i171:=by kernel_rfl
 i173:=by kernel_rfl
 i175:=by kernel_rfl
 i210:=by kernel_rfl
 i212:=by kernel_rfl
 i232:=by kernel_rfl
 i233:=by kernel_rfl
 m15:=by kernel_rfl
 m16:=by kernel_rfl
 m17:=by kernel_rfl
 m18:=by kernel_rfl
 m19:=by kernel_rfl
 c0:=by kernel_rfl
 c2:=by kernel_rfl
 c3:=by kernel_rfl
 c4:=by kernel_rfl
 c5:=by kernel_rfl
 c9:=by kernel_rfl
 c20:=by kernel_rfl
 c21:=by kernel_rfl
 c37:=by kernel_rfl
 c46:=by kernel_rfl
 c51:=by kernel_rfl
 c53:=by kernel_rfl
 c75:=by kernel_rfl
 c80:=by kernel_rfl
 c85:=by kernel_rfl
 c127:=by kernel_rfl
 c143:=by kernel_rfl
 c145:=by kernel_rfl
 c167:=by kernel_rfl
 c168:=by kernel_rfl
 c171:=by kernel_rfl
 c173:=by kernel_rfl
 c175:=by kernel_rfl
 c210:=by kernel_rfl
 c212:=by kernel_rfl
 c213:=by kernel_rfl
 c232:=by kernel_rfl
 c233:=by kernel_rfl }
open Go.RowKit in
theorem Tryz.strconv_ParseInt_10_at64_ok (s:ByteArray) (hmax:s.size≤9223372036854775806) (v:Int) (h:Lib.parseIntB 64 s.data.toList = .ok v) (w:World) :
 Calls Tryz.prog 124 #[.string s,.int .i64 10,.int .i64 64] w fun e w'=>e = .returned (.tuple #[.int .i64 v,.nilIface])∧(w'=w∨∃t,w'=Lib.bytesWorld w 5 t):=Any.strconv_ParseInt_10_at64_ok Tryz.laysC174 s hmax v h w
open Go.RowKit in
theorem Tryz.strconv_ParseInt_10_at64_none (s:ByteArray) (hlim:s.size≤281474976710656) (h1:∀v,Lib.parseIntB 64 s.data.toList≠.ok v) (h2:Lib.parseIntB 64 s.data.toList≠.range) (ev:Value) (w:World) (hv:w.cell? ⟨1,0,none⟩=some ev) (hev:ev = .nilIface∨∃te pe,ev = .iface te pe) :
 Calls Tryz.prog 124 #[.string s,.int .i64 10,.int .i64 64] w fun e w'=>∃N,e = .returned (.tuple #[.int .i64 (0),.iface 196 (.pointer (some ⟨N,0,none⟩))])∧w.heap.size≤N∧w'.heap[N]?=some (.cells #[.string ⟨#[80,97,114,115,101,73,110,116]⟩,.string s,ev] 209 (0,0))∧Below w.heap.size w w':=by
 cases hh:Lib.parseIntB 64 s.data.toList with
 | ok v=>exact absurd hh (h1 v)
 | range=>exact absurd hh h2
 | _=>exact Any.strconv_ParseInt_10_at64_syntax Tryz.laysC174 s hlim hh ev w hv hev
open Go.RowKit in
theorem Tryz.strconv_ParseInt_10_at64_range (s:ByteArray) (hlim:s.size≤281474976710656) (h:Lib.parseIntB 64 s.data.toList = .range) (ev:Value) (w:World) (hv:w.cell? ⟨2,0,none⟩=some ev) (hev:ev = .nilIface∨∃te pe,ev = .iface te pe) :
 Calls Tryz.prog 124 #[.string s,.int .i64 10,.int .i64 64] w fun e w'=>∃N,e = .returned (.tuple #[.int .i64 (Lib.intSat 64 s.data.toList),.iface 196 (.pointer (some ⟨N,0,none⟩))])∧w.heap.size≤N∧w'.heap[N]?=some (.cells #[.string ⟨#[80,97,114,115,101,73,110,116]⟩,.string s,ev] 209 (0,0))∧Below w.heap.size w w':=Any.strconv_ParseInt_10_at64_range Tryz.laysC174 s hlim h ev w hv hev
def Tryz.lays99_ren:Go.Shelf.Ren:=⟨fun | 99=>157 | 206=>178 | n=>n,fun | 9=>9 | 4=>4 | 3=>3 | n=>n,fun | n=>n⟩
theorem Tryz.lays99:Go.Proofs.Lays.n99 Tryz.prog Tryz.lays99_ren:={
 mixed:=by kernel_rfl
 f99:=Tryz.func157.trans (congrArg some (by kernel_rfl))
 f206:=Tryz.func178.trans (congrArg some (by kernel_rfl))
 t3:=Tryz.underlying3
 a3:=Tryz.isAgg3
 z3:=Tryz.sizeOf3
 v3:=Tryz.zeroValue3
 t4:=Tryz.underlying4
 a4:=Tryz.isAgg4
 z4:=Tryz.sizeOf4
 v4:=Tryz.zeroValue4
 t9:=Tryz.underlying9
 a9:=Tryz.isAgg9
 z9:=Tryz.sizeOf9
 v9:=Tryz.zeroValue9 }
open Go.RowKit Go.Lib in
theorem Tryz.strings_HasPrefix (s p:ByteArray) (w:World) :
 Calls Tryz.prog 157 #[.string s,.string p] w fun e w'=>e = .returned (.bool (Lib.hasPrefix s.data.toList p.data.toList))∧w'=w:=Any.strings_HasPrefix Tryz.lays99 s p w
def Tryz.lays197_ren:Go.Shelf.Ren:=⟨fun | 197=>181 | 260=>194 | n=>n,fun | 9=>9 | 21=>21 | 3=>3 | 4=>4 | 5=>5 | 105=>186 | 119=>223 | 0=>0 | 46=>68 | 139=>226 | 138=>225 | n=>n,fun | 3=>4 | 4=>5 | n=>n⟩
theorem Tryz.lays197:Go.Proofs.Lays.n197 Tryz.prog Tryz.lays197_ren:={
 mixed:=by kernel_rfl
 f197:=Tryz.func181.trans (congrArg some (by kernel_rfl))
 f260:=Tryz.func194.trans (congrArg some (by kernel_rfl))
 t0:=Tryz.underlying0
 a0:=Tryz.isAgg0
 z0:=Tryz.sizeOf0
 v0:=Tryz.zeroValue0
 t3:=Tryz.underlying3
 a3:=Tryz.isAgg3
 z3:=Tryz.sizeOf3
 v3:=Tryz.zeroValue3
 t4:=Tryz.underlying4
 a4:=Tryz.isAgg4
 z4:=Tryz.sizeOf4
 v4:=Tryz.zeroValue4
 t5:=Tryz.underlying5
 a5:=Tryz.isAgg5
 z5:=Tryz.sizeOf5
 v5:=Tryz.zeroValue5
 t9:=Tryz.underlying9
 a9:=Tryz.isAgg9
 z9:=Tryz.sizeOf9
 v9:=Tryz.zeroValue9
 t21:=Tryz.underlying21
 a21:=Tryz.isAgg21
 z21:=Tryz.sizeOf21
 v21:=Tryz.zeroValue21
 t46:=Tryz.underlying68
 a46:=Tryz.isAgg68
 z46:=Tryz.sizeOf68
 v46:=Tryz.zeroValue68
 t105:=Tryz.underlying186
 a105:=Tryz.isAgg186
 z105:=Tryz.sizeOf186
 v105:=Tryz.zeroValue186
 t119:=Tryz.underlying223
 a119:=Tryz.isAgg223
 z119:=Tryz.sizeOf223
 t138:=Tryz.underlying225
 a138:=Tryz.isAgg225
 z138:=Tryz.sizeOf225
 v138:=Tryz.zeroValue225
 t139:=Tryz.underlying226
 a139:=Tryz.isAgg226
 z139:=Tryz.sizeOf226
 v139:=Tryz.zeroValue226
 g3:=by kernel_rfl
 g4:=by kernel_rfl }
def Tryz.lays260_ren:Go.Shelf.Ren:=⟨fun | 260=>194 | n=>n,fun | 9=>9 | 21=>21 | 3=>3 | 4=>4 | 5=>5 | 119=>223 | 0=>0 | 46=>68 | 139=>226 | 138=>225 | n=>n,fun | 3=>4 | 4=>5 | n=>n⟩
theorem Tryz.lays260:Go.Proofs.Lays.n260 Tryz.prog Tryz.lays260_ren:={
 mixed:=by kernel_rfl
 f260:=Tryz.func194.trans (congrArg some (by kernel_rfl))
 t0:=Tryz.underlying0
 a0:=Tryz.isAgg0
 z0:=Tryz.sizeOf0
 v0:=Tryz.zeroValue0
 t3:=Tryz.underlying3
 a3:=Tryz.isAgg3
 z3:=Tryz.sizeOf3
 v3:=Tryz.zeroValue3
 t4:=Tryz.underlying4
 a4:=Tryz.isAgg4
 z4:=Tryz.sizeOf4
 v4:=Tryz.zeroValue4
 t5:=Tryz.underlying5
 a5:=Tryz.isAgg5
 z5:=Tryz.sizeOf5
 v5:=Tryz.zeroValue5
 t9:=Tryz.underlying9
 a9:=Tryz.isAgg9
 z9:=Tryz.sizeOf9
 v9:=Tryz.zeroValue9
 t21:=Tryz.underlying21
 a21:=Tryz.isAgg21
 z21:=Tryz.sizeOf21
 v21:=Tryz.zeroValue21
 t46:=Tryz.underlying68
 a46:=Tryz.isAgg68
 z46:=Tryz.sizeOf68
 v46:=Tryz.zeroValue68
 t119:=Tryz.underlying223
 a119:=Tryz.isAgg223
 z119:=Tryz.sizeOf223
 t138:=Tryz.underlying225
 a138:=Tryz.isAgg225
 z138:=Tryz.sizeOf225
 v138:=Tryz.zeroValue225
 t139:=Tryz.underlying226
 a139:=Tryz.isAgg226
 z139:=Tryz.sizeOf226
 v139:=Tryz.zeroValue226
 g3:=by kernel_rfl
 g4:=by kernel_rfl }
open Go.RowKit Go.Lib in
theorem Tryz.utf8_DecodeRuneInString (s:ByteArray) (w:World) (hT:Lib.Utf8Tabs 4 5 w) :
 Calls Tryz.prog 181 #[.string s] w fun e w'=>e = .returned (.tuple #[.int .i32 (Lib.decodeGo s).1,.int .i64 (Lib.decodeGo s).2])∧Below w.heap.size w w':=Any.utf8_DecodeRuneInString Tryz.lays197 s w hT
end Go.Proofs
end
