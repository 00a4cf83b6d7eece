/- Lemmas that the last text leans on. -/
import Derived.Test.YtplkbdncgkgppaaGreatDoorPack24
import Derived.Test.YtplkbdncgkgppaaGreatDoorPack2
set_option linter.all false
section
namespace AnaP
open Go.Lib Go FoldP
structure TokD where
 text:ByteArray
 pos:Int
 frm:Int
 til:Int
def TokD.cells (t:TokD):List Value:=[.string t.text,.int .i64 t.pos,.int .i64 t.frm,.int .i64 t.til]
def zah (l:List TokD):List Value:=l.flatMap TokD.cells
theorem cells_len (t:TokD):t.cells.length=4:=rfl
def zcu (l:List UInt8) (k:Nat):List Nat:=(za9 k (l.drop k)).map (·.1)++[l.length]
def zk6 (l:List UInt8):List Nat:=zcu l 0
def nR (l:List UInt8):Nat:=(zbe l).length
theorem zet (l:List UInt8):(zk6 l).length=nR l+1:=by simp[zk6,zcu,nR,zbe]
theorem zi1 (l:List UInt8) (k:Nat) (h:k<l.length):zcu l k=k::zcu l (k+(decodeL (l.drop k)).2):=by
 unfold zcu;rw[zg1 l k h];rfl
theorem zg4 (l:List UInt8) (k:Nat) (h:l.length≤k):zcu l k=[l.length]:=by
 unfold zcu;rw[zci l k h];rfl
theorem zi2 (l:List UInt8) (k:Nat) (h:k≤l.length):(zcu l k)[0]?=some k:=by
 rcases Nat.lt_or_ge k l.length with h1 | h1
 ·rw[zi1 l k h1];rfl
 ·rw[zg4 l k h1,show k=l.length by omega];rfl
theorem zi3 (l:List UInt8):∀(f k:Nat),l.length - k≤f→k≤l.length→∀(i p q:Nat),(zcu l k)[i]?=some p→(zcu l k)[i+1]?=some q→p<l.length∧q=p+(decodeL (l.drop p)).2
 | 0,k,hf,hk,i,p,q,h1,h2=>by rw[zg4 l k (by omega)] at h2;simp at h2
 | f+1,k,hf,hk,i,p,q,h1,h2=>by
  rcases Nat.lt_or_ge k l.length with h | h
  ·have hs:=zfm l k h;rw[zi1 l k h] at h1 h2
   cases i with
   | zero=>
    simp only[List.getElem?_cons_zero,Option.some.injEq] at h1;rw[List.getElem?_cons_succ,zi2 l _ (by omega)] at h2;simp only[Option.some.injEq] at h2;subst h1;subst h2;exact ⟨h,rfl⟩
   | succ i=>
    rw[List.getElem?_cons_succ] at h1 h2;exact zi3 l f _ (by omega) (by omega) i p q h1 h2
  ·rw[zg4 l k h] at h2;simp at h2
def zae (l:List UInt8) (i:Nat):Nat:=(zk6 l).getD i l.length
theorem zc2 (l:List UInt8) (i:Nat) (h:i≤nR l):(zk6 l)[i]?=some (zae l i):=by
 have hl:i<(zk6 l).length:=by rw[zet];omega
 unfold zae;rw[List.getD_eq_getElem?_getD,List.getElem?_eq_getElem hl];rfl
theorem ztd (l:List UInt8):zae l 0=0:=by
 have:=zc2 l 0 (by omega);rw[zk6,zi2 l 0 (by omega)] at this;exact (Option.some.inj this).symm
theorem zkd (l:List UInt8):zae l (nR l)=l.length:=by
 unfold zae zk6 zcu;rw[List.getD_eq_getElem?_getD,List.getElem?_append_right (by simp[nR,zbe])];simp[nR,zbe]
theorem zii (l:List UInt8) (i:Nat) (h:i<nR l):zae l i<l.length∧zae l (i+1)=zae l i+(decodeL (l.drop (zae l i))).2:=
 zi3 l l.length 0 (by omega) (by omega) i _ _ (zc2 l i (by omega)) (zc2 l (i+1) (by omega))
theorem zek (l:List UInt8) (i:Nat) (h:i<nR l):zae l i<zae l (i+1)∧zae l (i+1)≤l.length:=by
 obtain ⟨h1,h2⟩:=zii l i h;have:=zfm l _ h1;omega
theorem zd2 (l:List UInt8) (i:Nat):zae l i≤l.length:=by
 rcases Nat.lt_or_ge (nR l) i with h | h
 ·unfold zae;rw[List.getD_eq_getElem?_getD,List.getElem?_eq_none (by rw[zet];omega)];simp
 ·cases i with
  | zero=>rw[ztd];omega
  | succ i=>exact (zek l i (by omega)).2
theorem zb3 (l:List UInt8) (i j:Nat) (h:i≤j) (hj:j≤nR l):zae l i≤zae l j:=by
 induction j with
 | zero=>rw[show i=0 by omega];exact Nat.le_refl _
 | succ j ih=>
  rcases Nat.lt_or_ge j i with h1 | h1
  ·rw[show i=j+1 by omega];exact Nat.le_refl _
  ·exact Nat.le_trans (ih h1 (by omega)) (Nat.le_of_lt (zek l j (by omega)).1)
theorem zol (l:List UInt8):nR l≤l.length:=zdh l
theorem zom (l:List UInt8) (i:Nat) (h:i<nR l):(zbe l)[i]?=some (zae l i,((decodeL (l.drop (zae l i))).1:Int)):=by
 have hl:i<(zbe l).length:=h;have h1:=zc2 l i (by omega);unfold zk6 zcu at h1;rw[List.drop_zero,List.getElem?_append_left (by rw[List.length_map];exact hl),List.getElem?_map,show za9 0 l=zbe l from rfl,List.getElem?_eq_getElem hl] at h1;simp only[Option.map_some,Option.some.injEq] at h1;rw[List.getElem?_eq_getElem hl];have h2:=zgj (List.getElem_mem hl);rw[h1] at h2;exact congrArg some (Prod.ext h1 h2.2)
def zhm:List (List UInt8):=[[97],[97,110],[97,110,100],[97,114,101],[97,115],[97,116],[98,101],[98,117,116],[98,121],[102,111,114],[105,102],[105,110],[105,110,116,111],[105,115],[105,116],[110,111],[110,111,116],[111,102],[111,110],[111,114],[115,117,99,104],[116,104,97,116],[116,104,101],[116,104,101,105,114],[116,104,101,110],[116,104,101,114,101],[116,104,101,115,101],[116,104,101,121],[116,104,105,115],[116,111],[119,97,115],[119,105,108,108],[119,105,116,104]]
def zke (s:ByteArray):Bool:=zhm.contains s.data.toList
def zgs (n:Nat) (s:ByteArray):List ByteArray:=if nR s.data.toList≤n then [s] else (List.range (nR s.data.toList+1 - n)).map fun i=>s.extract (zae s.data.toList i) (zae s.data.toList (i+n))
def zr9 (s:ByteArray):List ByteArray:=if 16<nR s.data.toList then [s.extract 0 (zae s.data.toList 16)] else [s]
def zij (l:List UInt8) (i:Nat):List UInt8:=if markF ((decodeL (l.drop (zae l i))).1:Int) then [] else (l.drop (zae l i)).take (zae l (i+1) - zae l i)
def zb4 (l:List UInt8) (n:Nat):List UInt8:=(List.range n).flatMap (zij l)
theorem zhn (l:List UInt8) (n:Nat):zb4 l (n+1)=zb4 l n++zij l n:=by simp[zb4,List.range_succ,List.flatMap_append]
theorem zfn (l:List UInt8):∀n,n≤nR l→(zb4 l n).length≤zae l n
 | 0,_=>by simp[zb4]
 | n+1,h=>by
  rw[zhn,List.length_append];have h1:=zfn l n (by omega);have h2:=zek l n (by omega)
  have h3:(zij l n).length≤zae l (n+1) - zae l n:=by
   unfold zij;split
   ·simp
   ·rw[List.length_take,List.length_drop];omega
  omega
def zlw (s:ByteArray):List ByteArray:=if zb4 s.data.toList (nR s.data.toList)=[] then [] else [⟨(zb4 s.data.toList (nR s.data.toList)).toArray⟩]
def zdb (n:Int):Bool:=decide (10≤n∧n≤15)
def zzb (n:Int) (s:ByteArray):List ByteArray:=
 if n=10 then [⟨(zej s.data.toList).toArray⟩] else if n=11 then (if zke s then [] else [s]) else if n=12 then zgs 2 s else if n=13 then zgs 3 s else if n=14 then zr9 s else zlw s
def znn (n:Int) (t:TokD):List TokD:=(zzb n t.text).map fun x=>{ t with text:=x }
def zd3 (n:Int):List TokD→List TokD→Option (List TokD)
 | [],acc=>some acc
 | t::ts,acc=>if 4096<(acc++znn n t).length then none else zd3 n ts (acc++znn n t)
def zkf (n:Int) (l:List TokD):Option (List TokD):=zd3 n l []
theorem zlx (n:Nat) (s:ByteArray):(zgs n s).length≤s.size+1:=by
 have:=zol s.data.toList;have e:s.data.toList.length=s.size:=by simp
 unfold zgs;split <;> simp;omega
theorem zzc (n:Int) (s:ByteArray):(zzb n s).length≤s.size+1:=by
 have h1:=zlx 2 s;have h2:=zlx 3 s;unfold zzb zr9 zlw;repeat' split
 all_goals first | exact h1 | exact h2 | simp
def zly (r:Int):Bool:=decide (9≤r∧r≤13) || r == 32 || r == 133 || r == 160 || decide (8192≤r∧r≤8202) || r == 8232 || r == 8233 || r == 12288
end AnaP
end
section
namespace FoldP
open Go.Lib Go
def ycl (b:UInt8):Prop:=128≤b.toNat∧b.toNat<192
theorem zcz (z:Int) (h0:0≤z) (h1:z<256):((z.toNat.toUInt8).toNat:Int)=z:=by
 have:z.toNat.toUInt8.toNat=z.toNat % 256:=by simp
 rw[this];omega
theorem zfo (r:Int):Lib.validRune r=true↔(0≤r∧r<55296)∨(57343<r∧r≤1114111):=by
 unfold Lib.validRune;rw[decide_eq_true_eq]
theorem zon (r:Int) (h:Lib.validRune r=true) :
 (r<128∧∃b0:UInt8,encodeRune r=[b0]∧(b0.toNat:Int)=r)∨
 (128≤r∧r<2048∧∃b0 b1:UInt8,encodeRune r=[b0,b1]∧(b0.toNat:Int)=192+r / 64∧(b1.toNat:Int)=128+r % 64)∨
 (2048≤r∧r<65536∧∃b0 b1 b2:UInt8,encodeRune r=[b0,b1,b2]∧(b0.toNat:Int)=224+r / 4096∧(b1.toNat:Int)=128+r / 64 % 64∧(b2.toNat:Int)=128+r % 64)∨
 (65536≤r∧∃b0 b1 b2 b3:UInt8,encodeRune r=[b0,b1,b2,b3]∧(b0.toNat:Int)=240+r / 262144∧(b1.toNat:Int)=128+r / 4096 % 64∧(b2.toNat:Int)=128+r / 64 % 64∧(b3.toNat:Int)=128+r % 64):=by
 rw[zfo] at h;by_cases h1:r<128
 ·left;exact ⟨h1,_,by rw[encodeRune,encodeRuneZ_one (by omega) (by omega)];rfl,zcz _ (by omega) (by omega)⟩
 by_cases h2:r<2048
 ·right;left;exact ⟨by omega,h2,_,_,by rw[encodeRune,encodeRuneZ_two (by omega) (by omega)];rfl,zcz _ (by omega) (by omega),zcz _ (by omega) (by omega)⟩
 by_cases h3:r<65536
 ·right;right;left;exact ⟨by omega,h3,_,_,_,by rw[encodeRune,encodeRuneZ_three (by omega)];rfl,zcz _ (by omega) (by omega),zcz _ (by omega) (by omega),zcz _ (by omega) (by omega)⟩
 ·right;right;right;exact ⟨by omega,_,_,_,_,by rw[encodeRune,encodeRuneZ_four (by omega) (by omega)];rfl,zcz _ (by omega) (by omega),zcz _ (by omega) (by omega),zcz _ (by omega) (by omega),zcz _ (by omega) (by omega)⟩
theorem dN1 (n b0 b1 b2 b3:Nat) (h:b0<128):decodeN n b0 b1 b2 b3=(b0,1):=by unfold decodeN;rw[if_pos h]
theorem dN2 (n b0 b1 b2 b3:Nat) (h:b0 / 32=6∧1<n∧b1 / 64=2∧128≤b0 % 32*64+b1 % 64):decodeN n b0 b1 b2 b3=(b0 % 32*64+b1 % 64,2):=by
 unfold decodeN;rw[if_neg (by omega),if_pos (by omega),if_pos (by omega)]
theorem dN3 (n b0 b1 b2 b3 c:Nat) (hc:b0 % 16*4096+b1 % 64*64+b2 % 64=c) (h:b0 / 16=14∧2<n∧b1 / 64=2∧b2 / 64=2∧2048≤c∧(c<55296∨57344≤c)):decodeN n b0 b1 b2 b3=(c,3):=by
 unfold decodeN;rw[hc,if_neg (by omega),if_neg (by omega),if_pos (by omega),if_pos (by omega)]
theorem dN4 (n b0 b1 b2 b3 c:Nat) (hc:b0 % 8*262144+b1 % 64*4096+b2 % 64*64+b3 % 64=c) (h:b0 / 8=30∧3<n∧b1 / 64=2∧b2 / 64=2∧b3 / 64=2∧65536≤c∧c≤1114111):decodeN n b0 b1 b2 b3=(c,4):=by
 unfold decodeN;rw[hc,if_neg (by omega),if_neg (by omega),if_neg (by omega),if_pos (by omega),if_pos (by omega)]
theorem zlz (r:Int) (h:Lib.validRune r=true) (t:List UInt8):decodeL (encodeRune r++t)=(r.toNat,(encodeRune r).length):=by
 have hv:=(zfo r).1 h
 rcases zon r h with ⟨c,b0,e,e0⟩ | ⟨c,c',b0,b1,e,e0,e1⟩ | ⟨c,c',b0,b1,b2,e,e0,e1,e2⟩ | ⟨c,b0,b1,b2,b3,e,e0,e1,e2,e3⟩
 ·rw[e,decodeL_N];simp only[List.cons_append,List.nil_append,List.getD_cons_zero,List.getD_cons_succ,List.length_cons,List.length_nil];rw[dN1 _ _ _ _ _ (by omega)];exact Prod.ext (by dsimp only;omega) rfl
 ·rw[e,decodeL_N];simp only[List.cons_append,List.nil_append,List.getD_cons_zero,List.getD_cons_succ,List.length_cons,List.length_nil];rw[dN2 _ _ _ _ _ (by omega)];exact Prod.ext (by dsimp only;omega) rfl
 ·rw[e,decodeL_N];simp only[List.cons_append,List.nil_append,List.getD_cons_zero,List.getD_cons_succ,List.length_cons,List.length_nil];rw[dN3 _ _ _ _ _ r.toNat (by omega) (by omega)]
 ·rw[e,decodeL_N];simp only[List.cons_append,List.nil_append,List.getD_cons_zero,List.getD_cons_succ,List.length_cons,List.length_nil];rw[dN4 _ _ _ _ _ r.toNat (by omega) (by omega)]
theorem zsa (r:Int) (h:Lib.validRune r=true):∃b0 bs,encodeRune r=b0::bs∧¬ycl b0∧(∀b∈bs,ycl b)∧(bs=[]↔r<128):=by
 have hv:=(zfo r).1 h;unfold ycl
 rcases zon r h with ⟨c,b0,e,e0⟩ | ⟨c,c',b0,b1,e,e0,e1⟩ | ⟨c,c',b0,b1,b2,e,e0,e1,e2⟩ | ⟨c,b0,b1,b2,b3,e,e0,e1,e2,e3⟩
 ·exact ⟨b0,[],e,by omega,by simp,by simp[c]⟩
 ·exact ⟨b0,[b1],e,by omega,by simp;omega,by simp;omega⟩
 ·exact ⟨b0,[b1,b2],e,by omega,by simp;omega,by simp;omega⟩
 ·exact ⟨b0,[b1,b2,b3],e,by omega,by simp;omega,by simp;omega⟩
theorem zte (l:List UInt8):Lib.validRune ((decodeL l).1:Int)=true∧(decodeL l).2≤4:=by
 have k0:=(l.getD 0 0).toNat_lt;rw[decodeL_N];unfold Lib.validRune;rw[decide_eq_true_eq];rcases decodeN_shape l.length (l.getD 0 0).toNat (l.getD 1 0).toNat (l.getD 2 0).toNat (l.getD 3 0).toNat with ⟨c,e⟩ | ⟨c1,c2,c3,cv,e⟩ | ⟨c1,c2,c3,c4,cv,cs,e⟩ | ⟨c1,c2,c3,c4,c5,cv,cw,e⟩ | e
 all_goals (rw[e];dsimp only;omega)
theorem zv9 (l:List UInt8) (hne:l≠[]):decodeL l=odd∨∃(r:Int) (t:List UInt8),Lib.validRune r=true∧l=encodeRune r++t∧decodeL l=(r.toNat,(encodeRune r).length):=by
 by_cases h:(decodeL l).1=65533∧(decodeL l).2=1
 ·left;exact Prod.ext h.1 h.2
 ·right;have e:=encode_decode l hne h;have hv:=(zte l).1;refine ⟨_,l.drop (decodeL l).2,hv,by rw[e,List.take_append_drop],?_⟩;rw[e,List.length_take,Nat.min_eq_left (decodeL_le l hne)];exact Prod.ext (by simp) rfl
theorem zwa (l:List UInt8) (_hne:l≠[]) (h:decodeL l=odd):zg2 l=l.take 1:=by
 unfold zg2;rw[h];rw[if_pos (show za4 ((odd.1:Nat):Int)=((odd.1:Nat):Int) by decide)];rfl
theorem zwb (r:Int) (h:Lib.validRune r=true):(encodeRune (za4 r)).length=(encodeRune r).length:=by
 have hv:=(zfo r).1 h;by_cases e:za4 r=r
 ·rw[e]
 ·have e1:∀z,(encodeRune z).length=(encodeRuneZ z).length:=fun z=>by simp[encodeRune]
  rw[e1,e1];rcases zg3 r (by omega) e with hm | hm
  ·rw[encodeRuneZ_one (by omega) (by omega),encodeRuneZ_one (by omega) (by omega)];rfl
  ·rw[encodeRuneZ_two (by omega) (by omega),encodeRuneZ_two (by omega) (by omega)];rfl
theorem ztf (r:Int) (h:Lib.validRune r=true) (t:List UInt8):zg2 (encodeRune r++t)=encodeRune (za4 r):=by
 have hv:=(zfo r).1 h;unfold zg2;rw[zlz r h t];dsimp only;rw[show ((r.toNat:Nat):Int)=r from by omega];by_cases e:za4 r=r
 ·rw[if_pos e,e,List.take_left'];rfl
 ·rw[if_neg e]
theorem zwc (r:Int) (h:Lib.validRune r=true) (t:List UInt8):zej (encodeRune r++t)=encodeRune (za4 r)++zej t:=by
 obtain ⟨b0,bs,e,_⟩:=zsa r h;rw[zih _ (by rw[e];simp),ztf r h t,zlz r h t,List.drop_left'];rfl
theorem zzd (b:UInt8) (t:List UInt8) (h:decodeL (b::t)=odd):zej (b::t)=b::zej t:=by
 rw[zih _ (by simp),zwa _ (by simp) h,h];rfl
theorem zeu:∀(n:Nat) (l:List UInt8),l.length≤n→(zej l).length=l.length
 | 0,l,h=>by have:l=[]:=List.eq_nil_of_length_eq_zero (by omega);subst this;rfl
 | n+1,l,h=>by
  cases l with
  | nil=>rfl
  | cons b t=>
   rcases zv9 (b::t) (by simp) with ho | ⟨r,t',hr,e,hd⟩
   ·rw[zzd b t ho,List.length_cons,List.length_cons,zeu n t (by simpa using h)]
   ·have hlen:(encodeRune r).length+t'.length=(b::t).length:=by rw[e,List.length_append]
    obtain ⟨b0,bs,e0,_⟩:=zsa r hr;have ih:=zeu n t' (by rw[e0] at hlen;simp only[List.length_cons] at hlen h;omega);rw[e,zwc r hr,List.length_append,List.length_append,ih,zwb r hr]
theorem zqj (l:List UInt8):(zej l).length=l.length:=zeu l.length l (Nat.le_refl _)
end FoldP
end
section
namespace AnaP
open Go.Lib Go FoldP
def wordF (r:Int):Bool:=zes r || zhk r
def zmv (r:Int):Bool:=wordF r || markF r
def zd4 (r:Int):Bool:=!zly r
def zpv (_:Int):Bool:=true
def za2 (may begins:Int→Bool):List Int→Nat→Option Nat→List (Nat × Nat)
 | [],_,none=>[]
 | [],j,some a=>[(a,j)]
 | r::l,j,none=>if may r && begins r then za2 may begins l (j+1) (some j) else za2 may begins l (j+1) none
 | r::l,j,some a=>if may r then za2 may begins l (j+1) (some a) else (a,j)::za2 may begins l (j+1) none
def zmw (s:ByteArray) (i:Nat) (c:Nat × Nat):TokD:=⟨s.extract (zae s.data.toList c.1) (zae s.data.toList c.2),i,zae s.data.toList c.1,zae s.data.toList c.2⟩
def za7 (s:ByteArray) (cuts:List (Nat × Nat)):List TokD:=cuts.mapIdx (zmw s)
theorem zcj (s:ByteArray) (cuts:List (Nat × Nat)):(za7 s cuts).length=cuts.length:=by simp[za7]
theorem zl0 (s:ByteArray) (cuts:List (Nat × Nat)) (c:Nat × Nat):za7 s (cuts++[c])=za7 s cuts++[zmw s cuts.length c]:=by simp[za7,List.mapIdx_append]
def zbt (l:List UInt8):List Int:=(zbe l).map (·.2)
theorem zkg (l:List UInt8):(zbt l).length=nR l:=by simp[zbt,nR]
def zai (c:Nat × Nat):List (Nat × Nat):=if c.2=c.1+1 then [c] else (List.range (c.2 - c.1 - 1)).map fun i=>(c.1+i,c.1+i+2)
def yfe (n:Int) (l:List Int):List (Nat × Nat):=
 if n=1 then za2 zmv wordF l 0 none else if n=2 then za2 zd4 zd4 l 0 none else if n=3 then (if l=[] then [] else [(0,l.length)]) else (za2 zmv wordF l 0 none).flatMap zai
def zby (n:Int) (s:ByteArray):List TokD:=za7 s (yfe n (zbt s.data.toList))
theorem zdu {may begins:Int→Bool}:∀(l:List Int) (j:Nat) (fr:Option Nat),(∀a,fr=some a→a<j)→∀c∈za2 may begins l j fr,c.1<c.2∧c.2≤j+l.length∧fr.getD j≤c.1
 | [],j,none,_,c,hc=>by cases hc
 | [],j,some a,h,c,hc=>by simp only[za2,List.mem_singleton] at hc;subst hc;exact ⟨h a rfl,by simp,Nat.le_refl _⟩
 | r::l,j,none,h,c,hc=>by
  unfold za2 at hc;split at hc
  ·have:=zdu l (j+1) (some j) (fun a e=>by cases e;omega) c hc;simp only[Option.getD_some,Option.getD_none,List.length_cons] at *;omega
  ·have:=zdu l (j+1) none (fun a e=>by cases e) c hc;simp only[Option.getD_none,List.length_cons] at *;omega
 | r::l,j,some a,h,c,hc=>by
  have ha:=h a rfl;unfold za2 at hc;split at hc
  ·have:=zdu l (j+1) (some a) (fun a' e=>by cases e;omega) c hc;simp only[Option.getD_some,List.length_cons] at *;omega
  ·rcases List.mem_cons.1 hc with rfl | hc
   ·simp only[Option.getD_some,List.length_cons];omega
   ·have:=zdu l (j+1) none (fun a' e=>by cases e) c hc;simp only[Option.getD_some,Option.getD_none,List.length_cons] at *;omega
theorem zel {may begins:Int→Bool}:∀(l:List Int) (j:Nat) (fr:Option Nat),(∀a,fr=some a→a<j)→(za2 may begins l j fr).Pairwise (fun x y=>x.2≤y.1)
 | [],j,none,_=>List.Pairwise.nil
 | [],j,some a,h=>List.pairwise_singleton _ _
 | r::l,j,none,h=>by
  unfold za2;split
  ·exact zel l (j+1) (some j) (fun a e=>by cases e;omega)
  ·exact zel l (j+1) none (fun a e=>by cases e)
 | r::l,j,some a,h=>by
  have ha:=h a rfl;unfold za2;split
  ·exact zel l (j+1) (some a) (fun a' e=>by cases e;omega)
  ·refine List.pairwise_cons.2 ⟨fun c hc=>?_,zel l (j+1) none (fun a' e=>by cases e)⟩;have:=zdu l (j+1) none (fun a' e=>by cases e) c hc;simp only[Option.getD_none] at this;show j≤c.1;omega
theorem zdv {may begins:Int→Bool}:∀(l:List Int) (j:Nat) (fr:Option Nat),(za2 may begins l j fr).length≤l.length+(if fr=none then 0 else 1)
 | [],j,none=>by simp[za2]
 | [],j,some a=>by simp[za2]
 | r::l,j,none=>by
  unfold za2;split
  ·have:=zdv (may:=may) (begins:=begins) l (j+1) (some j);simp only[reduceCtorEq,if_false,List.length_cons,if_true] at *;omega
  ·have:=zdv (may:=may) (begins:=begins) l (j+1) none;simp only[List.length_cons,if_true] at *;omega
 | r::l,j,some a=>by
  unfold za2;split
  ·have:=zdv (may:=may) (begins:=begins) l (j+1) (some a);simp only[reduceCtorEq,if_false,List.length_cons] at *;omega
  ·have:=zdv (may:=may) (begins:=begins) l (j+1) none;simp only[reduceCtorEq,if_false,List.length_cons,if_true] at *;omega
theorem zoo:∀(l:List Int) (j:Nat) (a:Nat),za2 zpv zpv l j (some a)=[(a,j+l.length)]
 | [],j,a=>by simp[za2]
 | r::l,j,a=>by simp only[za2,zpv,if_true];rw[zoo l (j+1) a,List.length_cons];congr 2;omega
theorem zqk (l:List Int):za2 zpv zpv l 0 none=if l=[] then [] else [(0,l.length)]:=by
 cases l with
 | nil=>rfl
 | cons r l=>simp only[za2,zpv,Bool.and_self,if_true];rw[zoo l (0+1) 0,List.length_cons,if_neg (by simp)];congr 2;omega
theorem zql (c:Nat × Nat) (h:c.1<c.2):(zai c).length≤c.2 - c.1:=by
 unfold zai;split
 ·simp only[List.length_singleton];omega
 ·simp only[List.length_map,List.length_range];omega
theorem zsb:∀(L:List (Nat × Nat)) (lo hi:Nat),lo≤hi→(∀c∈L,c.1<c.2∧lo≤c.1∧c.2≤hi)→L.Pairwise (fun x y=>x.2≤y.1)→(L.flatMap zai).length≤hi - lo
 | [],lo,hi,_,_,_=>by simp
 | c::L,lo,hi,hlh,h,hp=>by rw[List.pairwise_cons] at hp;obtain ⟨h1,h2,h3⟩:=h c (by simp);have:=zsb L c.2 hi h3 (fun x hx=>⟨(h x (List.mem_cons_of_mem _ hx)).1,hp.1 x hx,(h x (List.mem_cons_of_mem _ hx)).2.2⟩) hp.2;have:=zql c h1;rw[List.flatMap_cons,List.length_append];omega
theorem zsc (n:Int) (l:List Int):(yfe n l).length≤l.length:=by
 unfold yfe;split
 ·have:=zdv (may:=zmv) (begins:=wordF) l 0 none;simpa using this
 ·split
  ·have:=zdv (may:=zd4) (begins:=zd4) l 0 none;simpa using this
  ·split
   ·split
    ·simp
    ·rename_i hl
     have:0<l.length:=List.length_pos_iff.2 hl;simp only[List.length_singleton];omega
   ·have:=zsb (za2 zmv wordF l 0 none) 0 l.length (Nat.zero_le _) (fun c hc=>by have:=zdu l 0 none (fun a e=>by cases e) c hc;omega) (zel l 0 none (fun a e=>by cases e));omega
def zca:List Int→List Int→Bool
 | _,[]=>true
 | seen,n::t=>zdb n && !seen.contains n && zca (seen++[n]) t
def zd5:List Int→Bool
 | []=>false
 | c::t=>decide (t.length≤7) && decide (1≤c) && decide (c≤4) && zca [] t
theorem zkh:∀(t seen:List Int),zca seen t=true↔(∀(i:Nat),i<t.length→zdb (t.getD i 0)=true∧t.getD i 0∉seen∧∀k<i,t.getD k 0≠t.getD i 0)
 | [],seen=>by simp[zca]
 | n::t,seen=>by
  rw[zca,Bool.and_eq_true,Bool.and_eq_true,zkh t (seen++[n])];constructor
  ·rintro ⟨⟨h1,h2⟩,h3⟩ i hi
   cases i with
   | zero=>exact ⟨by simpa using h1,by simpa using h2,fun k hk=>by omega⟩
   | succ i=>
    obtain ⟨a,b,c⟩:=h3 i (by simpa using hi);simp only[List.getD_cons_succ] at *;rw[List.mem_append,not_or] at b;refine ⟨a,b.1,fun k hk=>?_⟩
    cases k with
    | zero=>simp only[List.getD_cons_zero];intro e;exact b.2 (by simp[e])
    | succ k=>simp only[List.getD_cons_succ];exact c k (by omega)
  ·intro h;refine ⟨⟨?_,?_⟩,fun i hi=>?_⟩
   ·have:=h 0 (by simp);simpa using this.1
   ·have:=h 0 (by simp);simpa using this.2.1
   ·obtain ⟨a,b,c⟩:=h (i+1) (by simpa using hi);simp only[List.getD_cons_succ] at *;refine ⟨a,?_,fun k hk=>by have:=c (k+1) (by omega);simpa using this⟩;rw[List.mem_append,not_or];refine ⟨b,fun e=>?_⟩;have:=c 0 (by omega);simp only[List.getD_cons_zero] at this;simp only[List.mem_singleton] at e;exact this e.symm
theorem zqm (n:Int):zdb n=true↔10≤n∧n≤15:=by unfold zdb;simp
def zg5:List Int→List TokD→List TokD × Int
 | [],t=>(t,0)
 | n::ns,t=>match zkf n t with
  | none=>([],84)
  | some t'=>zg5 ns t'
def zmx (chain:List Int) (s:ByteArray):List TokD × Int:=
 if zd5 chain=false then ([],60) else if 4096<s.size then ([],3) else if 4096<(zby (chain.getD 0 0) s).length then ([],84) else zg5 chain.tail (zby (chain.getD 0 0) s)
theorem zze (n:Int) (s x:ByteArray) (h:x∈zzb n s):x.size≤s.size:=by
 have e1:∀a b,(s.extract a b).size≤s.size:=fun a b=>by rw[ByteArray.size_extract];omega
 have e2:s.data.toList.length=s.size:=by simp
 unfold zzb at h;split at h
 ·simp only[List.mem_singleton] at h;subst h;show (zej s.data.toList).toArray.size≤s.size;rw[List.size_toArray,zqj,e2];exact Nat.le_refl _
 ·split at h
  ·split at h
   ·cases h
   ·simp only[List.mem_singleton] at h;subst h;exact Nat.le_refl _
  ·split at h
   ·unfold zgs at h;split at h
    ·simp only[List.mem_singleton] at h;subst h;exact Nat.le_refl _
    ·rw[List.mem_map] at h;obtain ⟨i,_,rfl⟩:=h;exact e1 _ _
   ·split at h
    ·unfold zgs at h;split at h
     ·simp only[List.mem_singleton] at h;subst h;exact Nat.le_refl _
     ·rw[List.mem_map] at h;obtain ⟨i,_,rfl⟩:=h;exact e1 _ _
    ·split at h
     ·unfold zr9 at h;split at h
      ·simp only[List.mem_singleton] at h;subst h;exact e1 _ _
      ·simp only[List.mem_singleton] at h;subst h;exact Nat.le_refl _
     ·unfold zlw at h;split at h
      ·cases h
      ·simp only[List.mem_singleton] at h;subst h;show (zb4 s.data.toList (nR s.data.toList)).toArray.size≤s.size;have:=zfn s.data.toList (nR s.data.toList) (Nat.le_refl _);rw[zkd,e2] at this;rw[List.size_toArray];exact this
theorem zl1 {p:TokD→Prop} {n:Int} (hp:∀t x,p t→x∈zzb n t.text→p { t with text:=x }):∀(l acc ts:List TokD),(∀t∈l,p t)→(∀t∈acc,p t)→zd3 n l acc=some ts→∀t∈ts,p t
 | [],acc,ts,_,ha,e=>by unfold zd3 at e;cases e;exact ha
 | t::l,acc,ts,hl,ha,e=>by
  unfold zd3 at e;split at e
  ·cases e
  ·refine zl1 hp l _ ts (fun x hx=>hl x (List.mem_cons_of_mem _ hx)) (fun x hx=>?_) e;rcases List.mem_append.1 hx with hx | hx
   ·exact ha x hx
   ·unfold znn at hx;rw[List.mem_map] at hx;obtain ⟨y,hy,rfl⟩:=hx;exact hp t y (hl t (by simp)) hy
theorem zzf {p:TokD→Prop} {n:Int} {l ts:List TokD} (hp:∀t x,p t→x∈zzb n t.text→p { t with text:=x }) (hl:∀t∈l,p t) (e:zkf n l=some ts):∀t∈ts,p t:=zl1 hp l [] ts hl (fun t h=>by cases h) e
theorem zki (n:Int):∀(l acc ts:List TokD),acc.length≤4096→zd3 n l acc=some ts→ts.length≤4096
 | [],acc,ts,h,e=>by unfold zd3 at e;cases e;exact h
 | t::l,acc,ts,h,e=>by
  unfold zd3 at e;split at e
  ·cases e
  ·exact zki n l _ ts (by omega) e
theorem ztg {n:Int} {l ts:List TokD} (e:zkf n l=some ts):ts.length≤4096:=zki n l [] ts (by simp) e
theorem zop (n:Int) (s:ByteArray) (t:TokD) (h:t∈zby n s):t.text.size≤s.size:=by
 unfold zby za7 at h;rw[List.mem_mapIdx] at h;obtain ⟨i,hi,rfl⟩:=h;show (s.extract _ _).size≤s.size;rw[ByteArray.size_extract];omega
theorem zqn (n:Int) (s:ByteArray):(zby n s).length≤s.size:=by
 unfold zby;rw[zcj];have h1:=zsc n (zbt s.data.toList);have h2:=zol s.data.toList;have e2:s.data.toList.length=s.size:=by simp
 rw[zkg] at h1;omega
end AnaP
end
section
namespace SchP
open AnaP
structure FT where
 name:ByteArray
 kind:Int
 chain:List Int
 scale:Int
 dims:Int
 many:Bool
 stored:Bool
structure ET where
 field:ByteArray
 text:ByteArray
 nums:List Int
def yeb (f:FT):Bool:=if f.kind=1 then zd5 f.chain else if f.kind=2∨f.kind=3 then true else if f.kind=4 then decide (0≤f.scale∧f.scale≤9) else if f.kind=5 then decide (1≤f.dims∧f.dims≤4) else false
def mayB (f:FT):Bool:=zbx f.name && (decide (f.kind=1) || decide (f.chain.length=0)) && (decide (f.kind=4) || decide (f.scale=0)) && (decide (f.kind=5) || decide (f.dims=0)) && yeb f
def zcv:List FT→ByteArray→Option Nat
 | [],_=>none
 | f::l,s=>if f.name=s then some 0 else (zcv l s).map (· + 1)
def zjc (l:List FT) (s:ByteArray):Int:=match zcv l s with
 | some i=>i
 | none=>-1
theorem zcw:∀{l:List FT} {s:ByteArray} {i:Nat},zcv l s=some i→∃h:i<l.length,l[i].name=s∧∀(k:Nat) (hk:k<i),(l[k]'(by omega)).name≠s
 | [],s,i,h=>by cases h
 | f::l,s,i,h=>by
  unfold zcv at h;split at h
  ·rename_i hf
   cases h;exact ⟨by simp,hf,fun k hk=>by omega⟩
  ·rename_i hf
   cases hl:zcv l s with
   | none=>rw[hl] at h;cases h
   | some j=>
    rw[hl] at h;cases h;obtain ⟨h1,h2,h3⟩:=zcw hl;refine ⟨by simp;omega,by simpa using h2,fun k hk=>?_⟩
    cases k with
    | zero=>simpa using hf
    | succ k=>
     have:=h3 k (Nat.lt_of_succ_lt_succ hk);simpa using this
theorem zik:∀{l:List FT} {s:ByteArray},zcv l s=none→∀f∈l,f.name≠s
 | [],s,_,f,hf=>by cases hf
 | g::l,s,h,f,hf=>by
  unfold zcv at h;split at h
  ·cases h
  ·rename_i hg
   rw[Option.map_eq_none_iff] at h;rcases List.mem_cons.1 hf with rfl | hf
   ·exact hg
   ·exact zik h f hf
theorem zzg {l:List FT} {s:ByteArray} {i:Nat} (h:i<l.length) (hs:l[i].name=s) (hk:∀(k:Nat) (hki:k<i),(l[k]'(by omega)).name≠s):zcv l s=some i:=by
 cases hf:zcv l s with
 | none=>exact absurd hs (zik hf _ (List.getElem_mem h))
 | some j=>
  obtain ⟨h1,h2,h3⟩:=zcw hf;rcases Nat.lt_trichotomy i j with h4 | rfl | h4
  ·exact absurd hs (h3 i h4)
  ·rfl
  ·exact absurd h2 (hk j h4)
def zi4 (l:List FT) (i:Nat):Bool:=match l[i]? with
 | none=>true
 | some f=>(l.take i).all fun g=>decide (g.name≠f.name)
theorem zth {l:List FT} {i:Nat} (h:i<l.length):zi4 l i=true↔∀(k:Nat) (hk:k<i),(l[k]'(by omega)).name≠l[i].name:=by
 unfold zi4;rw[List.getElem?_eq_getElem h];simp only[List.all_eq_true,decide_eq_true_eq];constructor
 ·intro ha k hk;exact ha _ (List.mem_take_iff_getElem.2 ⟨k,by omega,rfl⟩)
 ·intro ha g hg;obtain ⟨k,hk,rfl⟩:=List.mem_take_iff_getElem.1 hg;exact ha k (by omega)
theorem zti {l:List FT} {i:Nat} (h:i<l.length):zi4 l i=decide (zcv l l[i].name=some i):=by
 rw[Bool.eq_iff_iff,zth h,decide_eq_true_iff];exact ⟨fun hk=>zzg h rfl hk,fun hf=>by obtain ⟨_,_,h3⟩:=zcw hf;exact h3⟩
def yec (l:List FT) (i:Nat):Bool:=match l[i]? with
 | none=>true
 | some f=>zi4 l i && mayB f
theorem zwd {l:List FT} {i:Nat} (h:i<l.length):yec l i=(zi4 l i && mayB l[i]):=by unfold yec;rw[List.getElem?_eq_getElem h]
def zyc (l:List FT) (k:Nat):Bool:=(List.range k).all (yec l)
theorem zwe (l:List FT):zyc l 0=true:=rfl
theorem zwf (l:List FT) (k:Nat):zyc l (k+1)=(zyc l k && yec l k):=by simp[zyc,List.range_succ]
theorem ycm {l:List FT} {k n:Nat} (h:yec l k=false) (hk:k<n):zyc l n=false:=by
 rw[zyc,List.all_eq_false];exact ⟨k,List.mem_range.2 hk,by simp[h]⟩
def zho (l:List FT):Bool:=decide (1≤l.length) && decide (l.length≤16) && zyc l l.length
def yed (b:Bool):Int:=if b then 0 else 80
def keepB (l:List FT) (e:ET):Bool:=match zcv l e.field with
 | none=>false
 | some i=>match l[i]? with
  | none=>false
  | some f=>f.stored
end SchP
end
section
namespace QckP
open SchP QryP AnaP
structure SortT where
 field:ByteArray
 down:Bool
 first:Bool
structure KeyT where
 kind:Int
 num:Int
 text:ByteArray
inductive AggT where
 | mk (name:ByteArray) (kind:Int) (field:ByteArray) (size:Int) (bounds:List Int) (step:Int) (kids:List AggT)
structure ReqT where
 query:QT
 sort:List SortT
 after:List (List KeyT × Int)
 size:Int
 collapse:ByteArray
 aggs:List AggT
 fields:List ByteArray
def zbw (l:List FT) (s:ByteArray):Option FT:=(zcv l s).bind fun i=>l[i]?
def zzh (f:FT):Bool:=decide (f.kind=3) || decide (f.kind=4)
def ycn (q:QT) (f:FT):Bool:=
 if kd q=3∨kd q=5∨kd q=6 then decide (f.kind=1) || decide (f.kind=2)
 else if kd q=4 then decide (f.kind=1)
 else if kd q=7 then (zzh f && decide ((lo q).length=1)) || (decide (f.kind=5) && decide (((lo q).length:Int)=f.dims))
 else if kd q=10 then zzh f else false
def zoq (q:QT) (f:FT):Int:=if ycn q f then (if f.kind=1∧(kd q=3∨kd q=4) then (if (zmx f.chain (tx q)).2=0 then 0 else 181) else 0) else 82
def ya1 (l:List FT) (q:QT):Int:=if (fd q).size=0 then 0 else match zbw l (fd q) with
 | none=>81
 | some f=>zoq q f
def orE (a b:Int):Int:=if a=0 then b else a
def zzi (l:List FT) (q:QT) (under:Int) (above:Nat):Int:=
 if 6≤above then 182 else if 32<(kids q).length then 84 else if zja q under then ya1 l q else 181
mutual
def zg6 (l:List FT) (under:Int) (above:Nat):QT→Int
 | .mk k o f t u lo hi b p ks=>orE (zzi l (.mk k o f t u lo hi b p ks) under above) (ze7 l k (above+1) ks)
def ze7 (l:List FT) (under:Int) (above:Nat):List QT→Int
 | []=>0
 | q::qs=>orE (zg6 l under above q) (ze7 l under above qs)
end
def ya2 (f:Nat→Int) (i:Nat):Nat→Int
 | 0=>0
 | n+1=>orE (f i) (ya2 f (i+1) n)
def yf3 (l:List FT) (k:SortT) (before:List SortT):Int:=
 orE (if k.field.size=0∨k.field=⟨#[35]⟩ then 0 else match zbw l k.field with
  | none=>81
  | some f=>if f.kind=1∨f.kind=5 then 183 else 0) (if before.any fun b=>decide (b.field=k.field) then 183 else 0)
def yf4 (l:List FT) (ks:List SortT):Int:=if 4<ks.length then 183 else ya2 (fun i=>match ks[i]? with
 | none=>0
 | some k=>yf3 l k (ks.take i)) 0 ks.length
def yf5 (l:List FT) (s:ByteArray):Int:=if s.size=0 then 0 else match zbw l s with
 | none=>81
 | some f=>if f.kind=2 then 0 else 82
def yee (k:KeyT):Bool:=(decide (k.kind=0) && decide (k.num=0) && decide (k.text.size=0)) || (decide (k.kind=1) && decide (k.text.size=0)) || (decide (k.kind=2) && decide (k.num=0))
def yf6 (size:Int) (n:Nat) (after:List (List KeyT × Int)):Int:=
 if size<0∨1000<size∨1<after.length then 185 else match after with
 | []=>0
 | c::_=>if c.1.length=max 1 n∧c.1.all yee then 0 else 185
def upB:List Int→Bool
 | a::b::l=>decide (a<b) && upB (b::l)
 | _=>true
def yco:AggT→ByteArray | .mk n _ _ _ _ _ _=>n
def zlc:AggT→Int | .mk _ k _ _ _ _ _=>k
def ya3:AggT→ByteArray | .mk _ _ f _ _ _ _=>f
def ycp:AggT→Int | .mk _ _ _ s _ _ _=>s
def zmy:AggT→List Int | .mk _ _ _ _ b _ _=>b
def yef:AggT→Int | .mk _ _ _ _ _ s _=>s
def kids_:AggT→List AggT | .mk _ _ _ _ _ _ k=>k
def ycq (g:AggT) (before:List AggT):Bool:=zbx (yco g) && !(before.any fun b=>decide (yco b=yco g)) && decide (1≤zlc g) && decide (zlc g≤8) && (decide (zlc g≠4) || decide ((ya3 g).size=0))
def zzj (l:List FT) (g:AggT):Int:=if zlc g=4 then 0 else match zbw l (ya3 g) with
 | none=>81
 | some f=>if (if zlc g=1 then decide (f.kind=2) else if zlc g=8 then zzh f || decide (f.kind=2) else zzh f) then 0 else 82
def ycr (g:AggT):Bool:=
 (if zlc g=1 then decide (1≤ycp g) && decide (ycp g≤1000) else decide (ycp g=0)) &&
 (if zlc g=2 then decide (2≤(zmy g).length) && decide ((zmy g).length≤1000) && upB (zmy g) else decide ((zmy g).length=0)) &&
 (if zlc g=3 then decide (1≤yef g) else decide (yef g=0)) && (decide (zlc g≤3) || decide ((kids_ g).length=0))
def ygs (l:List FT) (g:AggT) (before:List AggT):Int:=if ycq g before then orE (zzj l g) (if ycr g then 0 else 184) else 184
mutual
def ygt (l:List FT) (above:Nat) (before:List AggT):AggT→Int
 | .mk n k f s b t ks=>if 8≤before.length∨3≤above then 184 else orE (ygs l (.mk n k f s b t ks) before) (ycs l (above+1) [] ks)
def ycs (l:List FT) (above:Nat) (before:List AggT):List AggT→Int
 | []=>0
 | g::gs=>orE (ygt l above before g) (ycs l above (before++[g]) gs)
end
def zwg (l:List FT):List ByteArray→Int
 | []=>0
 | s::ss=>orE (match zbw l s with
  | none=>81
  | some f=>if f.stored then 0 else 82) (zwg l ss)
def zi5 (l:List FT) (r:ReqT):Int:=orE (yed (zho l)) (orE (zg6 l 0 0 r.query) (orE (yf4 l r.sort) (orE (yf5 l r.collapse) (orE (yf6 r.size r.sort.length r.after) (orE (ycs l 0 [] r.aggs) (zwg l r.fields))))))
end QckP
end
