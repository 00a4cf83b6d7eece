/- Lemmas that the last text leans on. -/
import Derived.Test.YtplkbdncgkgppaaGreatDoorPack2
set_option linter.all false
section
namespace AnaP
open Go.Lib Go FoldP
structure TokD where
 text:ByteArray
 pos:Int
 frm:Int
 til:Int
def TokD.cells (t:TokD):List Value:=[.string t.text,.int .i64 t.pos,.int .i64 t.frm,.int .i64 t.til]
def zai (l:List TokD):List Value:=l.flatMap TokD.cells
theorem cells_len (t:TokD):t.cells.length=4:=rfl
def zdc (l:List UInt8) (k:Nat):List Nat:=(zbb k (l.drop k)).map (·.1)++[l.length]
def zl2 (l:List UInt8):List Nat:=zdc l 0
def nR (l:List UInt8):Nat:=(zbe l).length
theorem zfi (l:List UInt8):(zl2 l).length=nR l+1:=by simp[zl2,zdc,nR,zbe]
theorem zjh (l:List UInt8) (k:Nat) (h:k<l.length):zdc l k=k::zdc l (k+(decodeL (l.drop k)).2):=by
 unfold zdc;rw[zhi l k h];rfl
theorem zhl (l:List UInt8) (k:Nat) (h:l.length≤k):zdc l k=[l.length]:=by
 unfold zdc;rw[zcx l k h];rfl
theorem zji (l:List UInt8) (k:Nat) (h:k≤l.length):(zdc l k)[0]?=some k:=by
 rcases Nat.lt_or_ge k l.length with h1 | h1
 ·rw[zjh l k h1];rfl
 ·rw[zhl l k h1,show k=l.length by omega];rfl
theorem zjj (l:List UInt8):∀(f k:Nat),l.length - k≤f→k≤l.length→∀(i p q:Nat),(zdc l k)[i]?=some p→(zdc l k)[i+1]?=some q→p<l.length∧q=p+(decodeL (l.drop p)).2
 | 0,k,hf,hk,i,p,q,h1,h2=>by rw[zhl l k (by omega)] at h2;simp at h2
 | f+1,k,hf,hk,i,p,q,h1,h2=>by
  rcases Nat.lt_or_ge k l.length with h | h
  ·have hs:=zga l k h;rw[zjh l k h] at h1 h2
   cases i with
   | zero=>
    simp only[List.getElem?_cons_zero,Option.some.injEq] at h1;rw[List.getElem?_cons_succ,zji l _ (by omega)] at h2;simp only[Option.some.injEq] at h2;subst h1;subst h2;exact ⟨h,rfl⟩
   | succ i=>
    rw[List.getElem?_cons_succ] at h1 h2;exact zjj l f _ (by omega) (by omega) i p q h1 h2
  ·rw[zhl l k h] at h2;simp at h2
def zaf (l:List UInt8) (i:Nat):Nat:=(zl2 l).getD i l.length
theorem zdn (l:List UInt8) (i:Nat) (h:i≤nR l):(zl2 l)[i]?=some (zaf l i):=by
 have hl:i<(zl2 l).length:=by rw[zfi];omega
 unfold zaf;rw[List.getD_eq_getElem?_getD,List.getElem?_eq_getElem hl];rfl
theorem zuf (l:List UInt8):zaf l 0=0:=by
 have:=zdn l 0 (by omega);rw[zl2,zji l 0 (by omega)] at this;exact (Option.some.inj this).symm
theorem zkg (l:List UInt8):zaf l (nR l)=l.length:=by
 unfold zaf zl2 zdc;rw[List.getD_eq_getElem?_getD,List.getElem?_append_right (by simp[nR,zbe])];simp[nR,zbe]
theorem ziy (l:List UInt8) (i:Nat) (h:i<nR l):zaf l i<l.length∧zaf l (i+1)=zaf l i+(decodeL (l.drop (zaf l i))).2:=
 zjj l l.length 0 (by omega) (by omega) i _ _ (zdn l i (by omega)) (zdn l (i+1) (by omega))
theorem ze8 (l:List UInt8) (i:Nat) (h:i<nR l):zaf l i<zaf l (i+1)∧zaf l (i+1)≤l.length:=by
 obtain ⟨h1,h2⟩:=ziy l i h;have:=zga l _ h1;omega
theorem zeo (l:List UInt8) (i:Nat):zaf l i≤l.length:=by
 rcases Nat.lt_or_ge (nR l) i with h | h
 ·unfold zaf;rw[List.getD_eq_getElem?_getD,List.getElem?_eq_none (by rw[zfi];omega)];simp
 ·cases i with
  | zero=>rw[zuf];omega
  | succ i=>exact (ze8 l i (by omega)).2
theorem zcc (l:List UInt8) (i j:Nat) (h:i≤j) (hj:j≤nR l):zaf l i≤zaf l j:=by
 induction j with
 | zero=>rw[show i=0 by omega];exact Nat.le_refl _
 | succ j ih=>
  rcases Nat.lt_or_ge j i with h1 | h1
  ·rw[show i=j+1 by omega];exact Nat.le_refl _
  ·exact Nat.le_trans (ih h1 (by omega)) (Nat.le_of_lt (ze8 l j (by omega)).1)
theorem zow (l:List UInt8):nR l≤l.length:=zd3 l
theorem zox (l:List UInt8) (i:Nat) (h:i<nR l):(zbe l)[i]?=some (zaf l i,((decodeL (l.drop (zaf l i))).1:Int)):=by
 have hl:i<(zbe l).length:=h;have h1:=zdn l i (by omega);unfold zl2 zdc at h1;rw[List.drop_zero,List.getElem?_append_left (by rw[List.length_map];exact hl),List.getElem?_map,show zbb 0 l=zbe l from rfl,List.getElem?_eq_getElem hl] at h1;simp only[Option.map_some,Option.some.injEq] at h1;rw[List.getElem?_eq_getElem hl];have h2:=zgv (List.getElem_mem hl);rw[h1] at h2;exact congrArg some (Prod.ext h1 h2.2)
def zh4:List (List UInt8):=[[97],[97,110],[97,110,100],[97,114,101],[97,115],[97,116],[98,101],[98,117,116],[98,121],[102,111,114],[105,102],[105,110],[105,110,116,111],[105,115],[105,116],[110,111],[110,111,116],[111,102],[111,110],[111,114],[115,117,99,104],[116,104,97,116],[116,104,101],[116,104,101,105,114],[116,104,101,110],[116,104,101,114,101],[116,104,101,115,101],[116,104,101,121],[116,104,105,115],[116,111],[119,97,115],[119,105,108,108],[119,105,116,104]]
def zkh (s:ByteArray):Bool:=zh4.contains s.data.toList
def zhd (n:Nat) (s:ByteArray):List ByteArray:=if nR s.data.toList≤n then [s] else (List.range (nR s.data.toList+1 - n)).map fun i=>s.extract (zaf s.data.toList i) (zaf s.data.toList (i+n))
def zsx (s:ByteArray):List ByteArray:=if 16<nR s.data.toList then [s.extract 0 (zaf s.data.toList 16)] else [s]
def ziz (l:List UInt8) (i:Nat):List UInt8:=if markF ((decodeL (l.drop (zaf l i))).1:Int) then [] else (l.drop (zaf l i)).take (zaf l (i+1) - zaf l i)
def zcd (l:List UInt8) (n:Nat):List UInt8:=(List.range n).flatMap (ziz l)
theorem zh5 (l:List UInt8) (n:Nat):zcd l (n+1)=zcd l n++ziz l n:=by simp[zcd,List.range_succ,List.flatMap_append]
theorem zgb (l:List UInt8):∀n,n≤nR l→(zcd l n).length≤zaf l n
 | 0,_=>by simp[zcd]
 | n+1,h=>by
  rw[zh5,List.length_append];have h1:=zgb l n (by omega);have h2:=ze8 l n (by omega)
  have h3:(ziz l n).length≤zaf l (n+1) - zaf l n:=by
   unfold ziz;split
   ·simp
   ·rw[List.length_take,List.length_drop];omega
  omega
def zmh (s:ByteArray):List ByteArray:=if zcd s.data.toList (nR s.data.toList)=[] then [] else [⟨(zcd s.data.toList (nR s.data.toList)).toArray⟩]
def zdu (n:Int):Bool:=decide (10≤n∧n≤15)
def yap (n:Int) (s:ByteArray):List ByteArray:=
 if n=10 then [⟨(ze7 s.data.toList).toArray⟩] else if n=11 then (if zkh s then [] else [s]) else if n=12 then zhd 2 s else if n=13 then zhd 3 s else if n=14 then zsx s else zmh s
def zoq (n:Int) (t:TokD):List TokD:=(yap n t.text).map fun x=>{ t with text:=x }
def zep (n:Int):List TokD→List TokD→Option (List TokD)
 | [],acc=>some acc
 | t::ts,acc=>if 4096<(acc++zoq n t).length then none else zep n ts (acc++zoq n t)
def zi0 (n:Int) (l:List TokD):Option (List TokD):=zep n l []
theorem zmi (n:Nat) (s:ByteArray):(zhd n s).length≤s.size+1:=by
 have:=zow s.data.toList;have e:s.data.toList.length=s.size:=by simp
 unfold zhd;split <;> simp;omega
theorem yaq (n:Int) (s:ByteArray):(yap n s).length≤s.size+1:=by
 have h1:=zmi 2 s;have h2:=zmi 3 s;unfold yap zsx zmh;repeat' split
 all_goals first | exact h1 | exact h2 | simp
def zmj (r:Int):Bool:=decide (9≤r∧r≤13) || r == 32 || r == 133 || r == 160 || decide (8192≤r∧r≤8202) || r == 8232 || r == 8233 || r == 12288
end AnaP
end
section
namespace FoldP
open Go.Lib Go
def ydz (b:UInt8):Prop:=128≤b.toNat∧b.toNat<192
theorem zdl (z:Int) (h0:0≤z) (h1:z<256):((z.toNat.toUInt8).toNat:Int)=z:=by
 have:z.toNat.toUInt8.toNat=z.toNat % 256:=by simp
 rw[this];omega
theorem zgc (r:Int):Lib.validRune r=true↔(0≤r∧r<55296)∨(57343<r∧r≤1114111):=by
 unfold Lib.validRune;rw[decide_eq_true_eq]
theorem zoy (r:Int) (h:Lib.validRune r=true) :
 (r<128∧∃b0:UInt8,encodeRune r=[b0]∧(b0.toNat:Int)=r)∨
 (128≤r∧r<2048∧∃b0 b1:UInt8,encodeRune r=[b0,b1]∧(b0.toNat:Int)=192+r / 64∧(b1.toNat:Int)=128+r % 64)∨
 (2048≤r∧r<65536∧∃b0 b1 b2:UInt8,encodeRune r=[b0,b1,b2]∧(b0.toNat:Int)=224+r / 4096∧(b1.toNat:Int)=128+r / 64 % 64∧(b2.toNat:Int)=128+r % 64)∨
 (65536≤r∧∃b0 b1 b2 b3:UInt8,encodeRune r=[b0,b1,b2,b3]∧(b0.toNat:Int)=240+r / 262144∧(b1.toNat:Int)=128+r / 4096 % 64∧(b2.toNat:Int)=128+r / 64 % 64∧(b3.toNat:Int)=128+r % 64):=by
 rw[zgc] at h;by_cases h1:r<128
 ·left;exact ⟨h1,_,by rw[encodeRune,encodeRuneZ_one (by omega) (by omega)];rfl,zdl _ (by omega) (by omega)⟩
 by_cases h2:r<2048
 ·right;left;exact ⟨by omega,h2,_,_,by rw[encodeRune,encodeRuneZ_two (by omega) (by omega)];rfl,zdl _ (by omega) (by omega),zdl _ (by omega) (by omega)⟩
 by_cases h3:r<65536
 ·right;right;left;exact ⟨by omega,h3,_,_,_,by rw[encodeRune,encodeRuneZ_three (by omega)];rfl,zdl _ (by omega) (by omega),zdl _ (by omega) (by omega),zdl _ (by omega) (by omega)⟩
 ·right;right;right;exact ⟨by omega,_,_,_,_,by rw[encodeRune,encodeRuneZ_four (by omega) (by omega)];rfl,zdl _ (by omega) (by omega),zdl _ (by omega) (by omega),zdl _ (by omega) (by omega),zdl _ (by omega) (by omega)⟩
theorem dN1 (n b0 b1 b2 b3:Nat) (h:b0<128):decodeN n b0 b1 b2 b3=(b0,1):=by unfold decodeN;rw[if_pos h]
theorem dN2 (n b0 b1 b2 b3:Nat) (h:b0 / 32=6∧1<n∧b1 / 64=2∧128≤b0 % 32*64+b1 % 64):decodeN n b0 b1 b2 b3=(b0 % 32*64+b1 % 64,2):=by
 unfold decodeN;rw[if_neg (by omega),if_pos (by omega),if_pos (by omega)]
theorem dN3 (n b0 b1 b2 b3 c:Nat) (hc:b0 % 16*4096+b1 % 64*64+b2 % 64=c) (h:b0 / 16=14∧2<n∧b1 / 64=2∧b2 / 64=2∧2048≤c∧(c<55296∨57344≤c)):decodeN n b0 b1 b2 b3=(c,3):=by
 unfold decodeN;rw[hc,if_neg (by omega),if_neg (by omega),if_pos (by omega),if_pos (by omega)]
theorem dN4 (n b0 b1 b2 b3 c:Nat) (hc:b0 % 8*262144+b1 % 64*4096+b2 % 64*64+b3 % 64=c) (h:b0 / 8=30∧3<n∧b1 / 64=2∧b2 / 64=2∧b3 / 64=2∧65536≤c∧c≤1114111):decodeN n b0 b1 b2 b3=(c,4):=by
 unfold decodeN;rw[hc,if_neg (by omega),if_neg (by omega),if_neg (by omega),if_pos (by omega),if_pos (by omega)]
theorem zmk (r:Int) (h:Lib.validRune r=true) (t:List UInt8):decodeL (encodeRune r++t)=(r.toNat,(encodeRune r).length):=by
 have hv:=(zgc r).1 h
 rcases zoy r h with ⟨c,b0,e,e0⟩ | ⟨c,c',b0,b1,e,e0,e1⟩ | ⟨c,c',b0,b1,b2,e,e0,e1,e2⟩ | ⟨c,b0,b1,b2,b3,e,e0,e1,e2,e3⟩
 ·rw[e,decodeL_N];simp only[List.cons_append,List.nil_append,List.getD_cons_zero,List.getD_cons_succ,List.length_cons,List.length_nil];rw[dN1 _ _ _ _ _ (by omega)];exact Prod.ext (by dsimp only;omega) rfl
 ·rw[e,decodeL_N];simp only[List.cons_append,List.nil_append,List.getD_cons_zero,List.getD_cons_succ,List.length_cons,List.length_nil];rw[dN2 _ _ _ _ _ (by omega)];exact Prod.ext (by dsimp only;omega) rfl
 ·rw[e,decodeL_N];simp only[List.cons_append,List.nil_append,List.getD_cons_zero,List.getD_cons_succ,List.length_cons,List.length_nil];rw[dN3 _ _ _ _ _ r.toNat (by omega) (by omega)]
 ·rw[e,decodeL_N];simp only[List.cons_append,List.nil_append,List.getD_cons_zero,List.getD_cons_succ,List.length_cons,List.length_nil];rw[dN4 _ _ _ _ _ r.toNat (by omega) (by omega)]
theorem zsy (r:Int) (h:Lib.validRune r=true):∃b0 bs,encodeRune r=b0::bs∧¬ydz b0∧(∀b∈bs,ydz b)∧(bs=[]↔r<128):=by
 have hv:=(zgc r).1 h;unfold ydz
 rcases zoy r h with ⟨c,b0,e,e0⟩ | ⟨c,c',b0,b1,e,e0,e1⟩ | ⟨c,c',b0,b1,b2,e,e0,e1,e2⟩ | ⟨c,b0,b1,b2,b3,e,e0,e1,e2,e3⟩
 ·exact ⟨b0,[],e,by omega,by simp,by simp[c]⟩
 ·exact ⟨b0,[b1],e,by omega,by simp;omega,by simp;omega⟩
 ·exact ⟨b0,[b1,b2],e,by omega,by simp;omega,by simp;omega⟩
 ·exact ⟨b0,[b1,b2,b3],e,by omega,by simp;omega,by simp;omega⟩
theorem zug (l:List UInt8):Lib.validRune ((decodeL l).1:Int)=true∧(decodeL l).2≤4:=by
 have k0:=(l.getD 0 0).toNat_lt;rw[decodeL_N];unfold Lib.validRune;rw[decide_eq_true_eq];rcases decodeN_shape l.length (l.getD 0 0).toNat (l.getD 1 0).toNat (l.getD 2 0).toNat (l.getD 3 0).toNat with ⟨c,e⟩ | ⟨c1,c2,c3,cv,e⟩ | ⟨c1,c2,c3,c4,cv,cs,e⟩ | ⟨c1,c2,c3,c4,c5,cv,cw,e⟩ | e
 all_goals (rw[e];dsimp only;omega)
theorem zwo (l:List UInt8) (hne:l≠[]):decodeL l=odd∨∃(r:Int) (t:List UInt8),Lib.validRune r=true∧l=encodeRune r++t∧decodeL l=(r.toNat,(encodeRune r).length):=by
 by_cases h:(decodeL l).1=65533∧(decodeL l).2=1
 ·left;exact Prod.ext h.1 h.2
 ·right;have e:=encode_decode l hne h;have hv:=(zug l).1;refine ⟨_,l.drop (decodeL l).2,hv,by rw[e,List.take_append_drop],?_⟩;rw[e,List.length_take,Nat.min_eq_left (decodeL_le l hne)];exact Prod.ext (by simp) rfl
theorem zwp (l:List UInt8) (_hne:l≠[]) (h:decodeL l=odd):zhj l=l.take 1:=by
 unfold zhj;rw[h];rw[if_pos (show za7 ((odd.1:Nat):Int)=((odd.1:Nat):Int) by decide)];rfl
theorem zwq (r:Int) (h:Lib.validRune r=true):(encodeRune (za7 r)).length=(encodeRune r).length:=by
 have hv:=(zgc r).1 h;by_cases e:za7 r=r
 ·rw[e]
 ·have e1:∀z,(encodeRune z).length=(encodeRuneZ z).length:=fun z=>by simp[encodeRune]
  rw[e1,e1];rcases zhk r (by omega) e with hm | hm
  ·rw[encodeRuneZ_one (by omega) (by omega),encodeRuneZ_one (by omega) (by omega)];rfl
  ·rw[encodeRuneZ_two (by omega) (by omega),encodeRuneZ_two (by omega) (by omega)];rfl
theorem zuh (r:Int) (h:Lib.validRune r=true) (t:List UInt8):zhj (encodeRune r++t)=encodeRune (za7 r):=by
 have hv:=(zgc r).1 h;unfold zhj;rw[zmk r h t];dsimp only;rw[show ((r.toNat:Nat):Int)=r from by omega];by_cases e:za7 r=r
 ·rw[if_pos e,e,List.take_left'];rfl
 ·rw[if_neg e]
theorem zwr (r:Int) (h:Lib.validRune r=true) (t:List UInt8):ze7 (encodeRune r++t)=encodeRune (za7 r)++ze7 t:=by
 obtain ⟨b0,bs,e,_⟩:=zsy r h;rw[zix _ (by rw[e];simp),zuh r h t,zmk r h t,List.drop_left'];rfl
theorem yar (b:UInt8) (t:List UInt8) (h:decodeL (b::t)=odd):ze7 (b::t)=b::ze7 t:=by
 rw[zix _ (by simp),zwp _ (by simp) h,h];rfl
theorem zfj:∀(n:Nat) (l:List UInt8),l.length≤n→(ze7 l).length=l.length
 | 0,l,h=>by have:l=[]:=List.eq_nil_of_length_eq_zero (by omega);subst this;rfl
 | n+1,l,h=>by
  cases l with
  | nil=>rfl
  | cons b t=>
   rcases zwo (b::t) (by simp) with ho | ⟨r,t',hr,e,hd⟩
   ·rw[yar b t ho,List.length_cons,List.length_cons,zfj n t (by simpa using h)]
   ·have hlen:(encodeRune r).length+t'.length=(b::t).length:=by rw[e,List.length_append]
    obtain ⟨b0,bs,e0,_⟩:=zsy r hr;have ih:=zfj n t' (by rw[e0] at hlen;simp only[List.length_cons] at hlen h;omega);rw[e,zwr r hr,List.length_append,List.length_append,ih,zwq r hr]
theorem zra (l:List UInt8):(ze7 l).length=l.length:=zfj l.length l (Nat.le_refl _)
end FoldP
end
section
namespace AnaP
open Go.Lib Go FoldP
def wordF (r:Int):Bool:=zfh r || zh2 r
def znh (r:Int):Bool:=wordF r || markF r
def zeq (r:Int):Bool:=!zmj r
def zq4 (_:Int):Bool:=true
def za1 (may begins:Int→Bool):List Int→Nat→Option Nat→List (Nat × Nat)
 | [],_,none=>[]
 | [],j,some a=>[(a,j)]
 | r::l,j,none=>if may r && begins r then za1 may begins l (j+1) (some j) else za1 may begins l (j+1) none
 | r::l,j,some a=>if may r then za1 may begins l (j+1) (some a) else (a,j)::za1 may begins l (j+1) none
def zni (s:ByteArray) (i:Nat) (c:Nat × Nat):TokD:=⟨s.extract (zaf s.data.toList c.1) (zaf s.data.toList c.2),i,zaf s.data.toList c.1,zaf s.data.toList c.2⟩
def za8 (s:ByteArray) (cuts:List (Nat × Nat)):List TokD:=cuts.mapIdx (zni s)
theorem zcy (s:ByteArray) (cuts:List (Nat × Nat)):(za8 s cuts).length=cuts.length:=by simp[za8]
theorem zml (s:ByteArray) (cuts:List (Nat × Nat)) (c:Nat × Nat):za8 s (cuts++[c])=za8 s cuts++[zni s cuts.length c]:=by simp[za8,List.mapIdx_append]
def zb2 (l:List UInt8):List Int:=(zbe l).map (·.2)
theorem zki (l:List UInt8):(zb2 l).length=nR l:=by simp[zb2,nR]
def zaj (c:Nat × Nat):List (Nat × Nat):=if c.2=c.1+1 then [c] else (List.range (c.2 - c.1 - 1)).map fun i=>(c.1+i,c.1+i+2)
def yh5 (n:Int) (l:List Int):List (Nat × Nat):=
 if n=1 then za1 znh wordF l 0 none else if n=2 then za1 zeq zeq l 0 none else if n=3 then (if l=[] then [] else [(0,l.length)]) else (za1 znh wordF l 0 none).flatMap zaj
def zbs (n:Int) (s:ByteArray):List TokD:=za8 s (yh5 n (zb2 s.data.toList))
theorem zed {may begins:Int→Bool}:∀(l:List Int) (j:Nat) (fr:Option Nat),(∀a,fr=some a→a<j)→∀c∈za1 may begins l j fr,c.1<c.2∧c.2≤j+l.length∧fr.getD j≤c.1
 | [],j,none,_,c,hc=>by cases hc
 | [],j,some a,h,c,hc=>by simp only[za1,List.mem_singleton] at hc;subst hc;exact ⟨h a rfl,by simp,Nat.le_refl _⟩
 | r::l,j,none,h,c,hc=>by
  unfold za1 at hc;split at hc
  ·have:=zed l (j+1) (some j) (fun a e=>by cases e;omega) c hc;simp only[Option.getD_some,Option.getD_none,List.length_cons] at *;omega
  ·have:=zed l (j+1) none (fun a e=>by cases e) c hc;simp only[Option.getD_none,List.length_cons] at *;omega
 | r::l,j,some a,h,c,hc=>by
  have ha:=h a rfl;unfold za1 at hc;split at hc
  ·have:=zed l (j+1) (some a) (fun a' e=>by cases e;omega) c hc;simp only[Option.getD_some,List.length_cons] at *;omega
  ·rcases List.mem_cons.1 hc with rfl | hc
   ·simp only[Option.getD_some,List.length_cons];omega
   ·have:=zed l (j+1) none (fun a' e=>by cases e) c hc;simp only[Option.getD_some,Option.getD_none,List.length_cons] at *;omega
theorem ze9 {may begins:Int→Bool}:∀(l:List Int) (j:Nat) (fr:Option Nat),(∀a,fr=some a→a<j)→(za1 may begins l j fr).Pairwise (fun x y=>x.2≤y.1)
 | [],j,none,_=>List.Pairwise.nil
 | [],j,some a,h=>List.pairwise_singleton _ _
 | r::l,j,none,h=>by
  unfold za1;split
  ·exact ze9 l (j+1) (some j) (fun a e=>by cases e;omega)
  ·exact ze9 l (j+1) none (fun a e=>by cases e)
 | r::l,j,some a,h=>by
  have ha:=h a rfl;unfold za1;split
  ·exact ze9 l (j+1) (some a) (fun a' e=>by cases e;omega)
  ·refine List.pairwise_cons.2 ⟨fun c hc=>?_,ze9 l (j+1) none (fun a' e=>by cases e)⟩;have:=zed l (j+1) none (fun a' e=>by cases e) c hc;simp only[Option.getD_none] at this;show j≤c.1;omega
theorem zee {may begins:Int→Bool}:∀(l:List Int) (j:Nat) (fr:Option Nat),(za1 may begins l j fr).length≤l.length+(if fr=none then 0 else 1)
 | [],j,none=>by simp[za1]
 | [],j,some a=>by simp[za1]
 | r::l,j,none=>by
  unfold za1;split
  ·have:=zee (may:=may) (begins:=begins) l (j+1) (some j);simp only[reduceCtorEq,if_false,List.length_cons,if_true] at *;omega
  ·have:=zee (may:=may) (begins:=begins) l (j+1) none;simp only[List.length_cons,if_true] at *;omega
 | r::l,j,some a=>by
  unfold za1;split
  ·have:=zee (may:=may) (begins:=begins) l (j+1) (some a);simp only[reduceCtorEq,if_false,List.length_cons] at *;omega
  ·have:=zee (may:=may) (begins:=begins) l (j+1) none;simp only[reduceCtorEq,if_false,List.length_cons,if_true] at *;omega
theorem zoz:∀(l:List Int) (j:Nat) (a:Nat),za1 zq4 zq4 l j (some a)=[(a,j+l.length)]
 | [],j,a=>by simp[za1]
 | r::l,j,a=>by simp only[za1,zq4,if_true];rw[zoz l (j+1) a,List.length_cons];congr 2;omega
theorem zrb (l:List Int):za1 zq4 zq4 l 0 none=if l=[] then [] else [(0,l.length)]:=by
 cases l with
 | nil=>rfl
 | cons r l=>simp only[za1,zq4,Bool.and_self,if_true];rw[zoz l (0+1) 0,List.length_cons,if_neg (by simp)];congr 2;omega
theorem zrc (c:Nat × Nat) (h:c.1<c.2):(zaj c).length≤c.2 - c.1:=by
 unfold zaj;split
 ·simp only[List.length_singleton];omega
 ·simp only[List.length_map,List.length_range];omega
theorem zsz:∀(L:List (Nat × Nat)) (lo hi:Nat),lo≤hi→(∀c∈L,c.1<c.2∧lo≤c.1∧c.2≤hi)→L.Pairwise (fun x y=>x.2≤y.1)→(L.flatMap zaj).length≤hi - lo
 | [],lo,hi,_,_,_=>by simp
 | c::L,lo,hi,hlh,h,hp=>by rw[List.pairwise_cons] at hp;obtain ⟨h1,h2,h3⟩:=h c (by simp);have:=zsz L c.2 hi h3 (fun x hx=>⟨(h x (List.mem_cons_of_mem _ hx)).1,hp.1 x hx,(h x (List.mem_cons_of_mem _ hx)).2.2⟩) hp.2;have:=zrc c h1;rw[List.flatMap_cons,List.length_append];omega
theorem zs0 (n:Int) (l:List Int):(yh5 n l).length≤l.length:=by
 unfold yh5;split
 ·have:=zee (may:=znh) (begins:=wordF) l 0 none;simpa using this
 ·split
  ·have:=zee (may:=zeq) (begins:=zeq) l 0 none;simpa using this
  ·split
   ·split
    ·simp
    ·rename_i hl
     have:0<l.length:=List.length_pos_iff.2 hl;simp only[List.length_singleton];omega
   ·have:=zsz (za1 znh wordF l 0 none) 0 l.length (Nat.zero_le _) (fun c hc=>by have:=zed l 0 none (fun a e=>by cases e) c hc;omega) (ze9 l 0 none (fun a e=>by cases e));omega
def zck:List Int→List Int→Bool
 | _,[]=>true
 | seen,n::t=>zdu n && !seen.contains n && zck (seen++[n]) t
def zer:List Int→Bool
 | []=>false
 | c::t=>decide (t.length≤7) && decide (1≤c) && decide (c≤4) && zck [] t
theorem zkj:∀(t seen:List Int),zck seen t=true↔(∀(i:Nat),i<t.length→zdu (t.getD i 0)=true∧t.getD i 0∉seen∧∀k<i,t.getD k 0≠t.getD i 0)
 | [],seen=>by simp[zck]
 | n::t,seen=>by
  rw[zck,Bool.and_eq_true,Bool.and_eq_true,zkj t (seen++[n])];constructor
  ·rintro ⟨⟨h1,h2⟩,h3⟩ i hi
   cases i with
   | zero=>exact ⟨by simpa using h1,by simpa using h2,fun k hk=>by omega⟩
   | succ i=>
    obtain ⟨a,b,c⟩:=h3 i (by simpa using hi);simp only[List.getD_cons_succ] at *;rw[List.mem_append,not_or] at b;refine ⟨a,b.1,fun k hk=>?_⟩
    cases k with
    | zero=>simp only[List.getD_cons_zero];intro e;exact b.2 (by simp[e])
    | succ k=>simp only[List.getD_cons_succ];exact c k (by omega)
  ·intro h;refine ⟨⟨?_,?_⟩,fun i hi=>?_⟩
   ·have:=h 0 (by simp);simpa using this.1
   ·have:=h 0 (by simp);simpa using this.2.1
   ·obtain ⟨a,b,c⟩:=h (i+1) (by simpa using hi);simp only[List.getD_cons_succ] at *;refine ⟨a,?_,fun k hk=>by have:=c (k+1) (by omega);simpa using this⟩;rw[List.mem_append,not_or];refine ⟨b,fun e=>?_⟩;have:=c 0 (by omega);simp only[List.getD_cons_zero] at this;simp only[List.mem_singleton] at e;exact this e.symm
theorem zrd (n:Int):zdu n=true↔10≤n∧n≤15:=by unfold zdu;simp
def zdd:List Int→List TokD→List TokD × Int
 | [],t=>(t,0)
 | n::ns,t=>match zi0 n t with
  | none=>([],84)
  | some t'=>zdd ns t'
def zf6 (chain:List Int) (s:ByteArray):List TokD × Int:=
 if zer chain=false then ([],60) else if 4096<s.size then ([],3) else if 4096<(zbs (chain.getD 0 0) s).length then ([],84) else zdd chain.tail (zbs (chain.getD 0 0) s)
theorem zs1 (n:Int) (s x:ByteArray) (h:x∈yap n s):x.size≤s.size:=by
 have e1:∀a b,(s.extract a b).size≤s.size:=fun a b=>by rw[ByteArray.size_extract];omega
 have e2:s.data.toList.length=s.size:=by simp
 unfold yap at h;split at h
 ·simp only[List.mem_singleton] at h;subst h;show (ze7 s.data.toList).toArray.size≤s.size;rw[List.size_toArray,zra,e2];exact Nat.le_refl _
 ·split at h
  ·split at h
   ·cases h
   ·simp only[List.mem_singleton] at h;subst h;exact Nat.le_refl _
  ·split at h
   ·unfold zhd at h;split at h
    ·simp only[List.mem_singleton] at h;subst h;exact Nat.le_refl _
    ·rw[List.mem_map] at h;obtain ⟨i,_,rfl⟩:=h;exact e1 _ _
   ·split at h
    ·unfold zhd at h;split at h
     ·simp only[List.mem_singleton] at h;subst h;exact Nat.le_refl _
     ·rw[List.mem_map] at h;obtain ⟨i,_,rfl⟩:=h;exact e1 _ _
    ·split at h
     ·unfold zsx at h;split at h
      ·simp only[List.mem_singleton] at h;subst h;exact e1 _ _
      ·simp only[List.mem_singleton] at h;subst h;exact Nat.le_refl _
     ·unfold zmh at h;split at h
      ·cases h
      ·simp only[List.mem_singleton] at h;subst h;show (zcd s.data.toList (nR s.data.toList)).toArray.size≤s.size;have:=zgb s.data.toList (nR s.data.toList) (Nat.le_refl _);rw[zkg,e2] at this;rw[List.size_toArray];exact this
theorem zmm {p:TokD→Prop} {n:Int} (hp:∀t x,p t→x∈yap n t.text→p { t with text:=x }):∀(l acc ts:List TokD),(∀t∈l,p t)→(∀t∈acc,p t)→zep n l acc=some ts→∀t∈ts,p t
 | [],acc,ts,_,ha,e=>by unfold zep at e;cases e;exact ha
 | t::l,acc,ts,hl,ha,e=>by
  unfold zep at e;split at e
  ·cases e
  ·refine zmm hp l _ ts (fun x hx=>hl x (List.mem_cons_of_mem _ hx)) (fun x hx=>?_) e;rcases List.mem_append.1 hx with hx | hx
   ·exact ha x hx
   ·unfold zoq at hx;rw[List.mem_map] at hx;obtain ⟨y,hy,rfl⟩:=hx;exact hp t y (hl t (by simp)) hy
theorem zs2 {p:TokD→Prop} {n:Int} {l ts:List TokD} (hp:∀t x,p t→x∈yap n t.text→p { t with text:=x }) (hl:∀t∈l,p t) (e:zi0 n l=some ts):∀t∈ts,p t:=zmm hp l [] ts hl (fun t h=>by cases h) e
theorem zkk (n:Int):∀(l acc ts:List TokD),acc.length≤4096→zep n l acc=some ts→ts.length≤4096
 | [],acc,ts,h,e=>by unfold zep at e;cases e;exact h
 | t::l,acc,ts,h,e=>by
  unfold zep at e;split at e
  ·cases e
  ·exact zkk n l _ ts (by omega) e
theorem zmn {n:Int} {l ts:List TokD} (e:zi0 n l=some ts):ts.length≤4096:=zkk n l [] ts (by simp) e
theorem zjk (n:Int) (s:ByteArray) (t:TokD) (h:t∈zbs n s):t.text.size≤s.size:=by
 unfold zbs za8 at h;rw[List.mem_mapIdx] at h;obtain ⟨i,hi,rfl⟩:=h;show (s.extract _ _).size≤s.size;rw[ByteArray.size_extract];omega
theorem zre (n:Int) (s:ByteArray):(zbs n s).length≤s.size:=by
 unfold zbs;rw[zcy];have h1:=zs0 n (zb2 s.data.toList);have h2:=zow s.data.toList;have e2:s.data.toList.length=s.size:=by simp
 rw[zki] at h1;omega
end AnaP
end
