/- Lemmas that the last text leans on. -/
import Derived.Test.YtigfcihakghddaaGreatDoorPack6
set_option linter.all false
section
namespace FoldP
open Go.Lib Go
def contB (b:UInt8):Prop:=128≤b.toNat∧b.toNat<192
theorem toNat_u8 (z:Int) (h0:0≤z) (h1:z<256):((z.toNat.toUInt8).toNat:Int)=z:=by
 have:z.toNat.toUInt8.toNat=z.toNat % 256:=by simp
 rw[this];omega
theorem valid_iff (r:Int):Lib.validRune r=true↔(0≤r∧r<55296)∨(57343<r∧r≤1114111):=by
 unfold Lib.validRune;rw[decide_eq_true_eq]
theorem enc_shape (r:Int) (h:Lib.validRune r=true) :
 (r<128∧∃b0:UInt8,encodeRune r=[b0]∧(b0.toNat:Int)=r)∨
 (128≤r∧r<2048∧∃b0 b1:UInt8,encodeRune r=[b0,b1]∧(b0.toNat:Int)=192+r / 64∧(b1.toNat:Int)=128+r % 64)∨
 (2048≤r∧r<65536∧∃b0 b1 b2:UInt8,encodeRune r=[b0,b1,b2]∧(b0.toNat:Int)=224+r / 4096∧(b1.toNat:Int)=128+r / 64 % 64∧(b2.toNat:Int)=128+r % 64)∨
 (65536≤r∧∃b0 b1 b2 b3:UInt8,encodeRune r=[b0,b1,b2,b3]∧(b0.toNat:Int)=240+r / 262144∧(b1.toNat:Int)=128+r / 4096 % 64∧(b2.toNat:Int)=128+r / 64 % 64∧(b3.toNat:Int)=128+r % 64):=by
 rw[valid_iff] at h;by_cases h1:r<128
 ·left;exact ⟨h1,_,by rw[encodeRune,encodeRuneZ_one (by omega) (by omega)];rfl,toNat_u8 _ (by omega) (by omega)⟩
 by_cases h2:r<2048
 ·right;left;exact ⟨by omega,h2,_,_,by rw[encodeRune,encodeRuneZ_two (by omega) (by omega)];rfl,toNat_u8 _ (by omega) (by omega),toNat_u8 _ (by omega) (by omega)⟩
 by_cases h3:r<65536
 ·right;right;left;exact ⟨by omega,h3,_,_,_,by rw[encodeRune,encodeRuneZ_three (by omega)];rfl,toNat_u8 _ (by omega) (by omega),toNat_u8 _ (by omega) (by omega),toNat_u8 _ (by omega) (by omega)⟩
 ·right;right;right;exact ⟨by omega,_,_,_,_,by rw[encodeRune,encodeRuneZ_four (by omega) (by omega)];rfl,toNat_u8 _ (by omega) (by omega),toNat_u8 _ (by omega) (by omega),toNat_u8 _ (by omega) (by omega),toNat_u8 _ (by omega) (by omega)⟩
theorem dN1 (n b0 b1 b2 b3:Nat) (h:b0<128):decodeN n b0 b1 b2 b3=(b0,1):=by unfold decodeN;rw[if_pos h]
theorem dN2 (n b0 b1 b2 b3:Nat) (h:b0 / 32=6∧1<n∧b1 / 64=2∧128≤b0 % 32*64+b1 % 64):decodeN n b0 b1 b2 b3=(b0 % 32*64+b1 % 64,2):=by
 unfold decodeN;rw[if_neg (by omega),if_pos (by omega),if_pos (by omega)]
theorem dN3 (n b0 b1 b2 b3 c:Nat) (hc:b0 % 16*4096+b1 % 64*64+b2 % 64=c) (h:b0 / 16=14∧2<n∧b1 / 64=2∧b2 / 64=2∧2048≤c∧(c<55296∨57344≤c)):decodeN n b0 b1 b2 b3=(c,3):=by
 unfold decodeN;rw[hc,if_neg (by omega),if_neg (by omega),if_pos (by omega),if_pos (by omega)]
theorem dN4 (n b0 b1 b2 b3 c:Nat) (hc:b0 % 8*262144+b1 % 64*4096+b2 % 64*64+b3 % 64=c) (h:b0 / 8=30∧3<n∧b1 / 64=2∧b2 / 64=2∧b3 / 64=2∧65536≤c∧c≤1114111):decodeN n b0 b1 b2 b3=(c,4):=by
 unfold decodeN;rw[hc,if_neg (by omega),if_neg (by omega),if_neg (by omega),if_pos (by omega),if_pos (by omega)]
theorem decode_enc (r:Int) (h:Lib.validRune r=true) (t:List UInt8):decodeL (encodeRune r++t)=(r.toNat,(encodeRune r).length):=by
 have hv:=(valid_iff r).1 h
 rcases enc_shape r h with ⟨c,b0,e,e0⟩ | ⟨c,c',b0,b1,e,e0,e1⟩ | ⟨c,c',b0,b1,b2,e,e0,e1,e2⟩ | ⟨c,b0,b1,b2,b3,e,e0,e1,e2,e3⟩
 ·rw[e,decodeL_N];simp only[List.cons_append,List.nil_append,List.getD_cons_zero,List.getD_cons_succ,List.length_cons,List.length_nil];rw[dN1 _ _ _ _ _ (by omega)];exact Prod.ext (by dsimp only;omega) rfl
 ·rw[e,decodeL_N];simp only[List.cons_append,List.nil_append,List.getD_cons_zero,List.getD_cons_succ,List.length_cons,List.length_nil];rw[dN2 _ _ _ _ _ (by omega)];exact Prod.ext (by dsimp only;omega) rfl
 ·rw[e,decodeL_N];simp only[List.cons_append,List.nil_append,List.getD_cons_zero,List.getD_cons_succ,List.length_cons,List.length_nil];rw[dN3 _ _ _ _ _ r.toNat (by omega) (by omega)]
 ·rw[e,decodeL_N];simp only[List.cons_append,List.nil_append,List.getD_cons_zero,List.getD_cons_succ,List.length_cons,List.length_nil];rw[dN4 _ _ _ _ _ r.toNat (by omega) (by omega)]
theorem enc_cont (r:Int) (h:Lib.validRune r=true):∃b0 bs,encodeRune r=b0::bs∧¬contB b0∧(∀b∈bs,contB b)∧(bs=[]↔r<128):=by
 have hv:=(valid_iff r).1 h;unfold contB
 rcases enc_shape r h with ⟨c,b0,e,e0⟩ | ⟨c,c',b0,b1,e,e0,e1⟩ | ⟨c,c',b0,b1,b2,e,e0,e1,e2⟩ | ⟨c,b0,b1,b2,b3,e,e0,e1,e2,e3⟩
 ·exact ⟨b0,[],e,by omega,by simp,by simp[c]⟩
 ·exact ⟨b0,[b1],e,by omega,by simp;omega,by simp;omega⟩
 ·exact ⟨b0,[b1,b2],e,by omega,by simp;omega,by simp;omega⟩
 ·exact ⟨b0,[b1,b2,b3],e,by omega,by simp;omega,by simp;omega⟩
theorem decN_facts (l:List UInt8):Lib.validRune ((decodeL l).1:Int)=true∧(decodeL l).2≤4:=by
 have k0:=(l.getD 0 0).toNat_lt;rw[decodeL_N];unfold Lib.validRune;rw[decide_eq_true_eq];rcases decodeN_shape l.length (l.getD 0 0).toNat (l.getD 1 0).toNat (l.getD 2 0).toNat (l.getD 3 0).toNat with ⟨c,e⟩ | ⟨c1,c2,c3,cv,e⟩ | ⟨c1,c2,c3,c4,cv,cs,e⟩ | ⟨c1,c2,c3,c4,c5,cv,cw,e⟩ | e
 all_goals (rw[e];dsimp only;omega)
theorem dec_cases (l:List UInt8) (hne:l≠[]):decodeL l=odd∨∃(r:Int) (t:List UInt8),Lib.validRune r=true∧l=encodeRune r++t∧decodeL l=(r.toNat,(encodeRune r).length):=by
 by_cases h:(decodeL l).1=65533∧(decodeL l).2=1
 ·left;exact Prod.ext h.1 h.2
 ·right;have e:=encode_decode l hne h;have hv:=(decN_facts l).1;refine ⟨_,l.drop (decodeL l).2,hv,by rw[e,List.take_append_drop],?_⟩;rw[e,List.length_take,Nat.min_eq_left (decodeL_le l hne)];exact Prod.ext (by simp) rfl
theorem piece_odd (l:List UInt8) (_hne:l≠[]) (h:decodeL l=odd):piece l=l.take 1:=by
 unfold piece;rw[h];rw[if_pos (show lowerF ((odd.1:Nat):Int)=((odd.1:Nat):Int) by decide)];rfl
theorem lower_len (r:Int) (h:Lib.validRune r=true):(encodeRune (lowerF r)).length=(encodeRune r).length:=by
 have hv:=(valid_iff r).1 h;by_cases e:lowerF r=r
 ·rw[e]
 ·have e1:∀z,(encodeRune z).length=(encodeRuneZ z).length:=fun z=>by simp[encodeRune]
  rw[e1,e1];rcases lower_moves r (by omega) e with hm | hm
  ·rw[encodeRuneZ_one (by omega) (by omega),encodeRuneZ_one (by omega) (by omega)];rfl
  ·rw[encodeRuneZ_two (by omega) (by omega),encodeRuneZ_two (by omega) (by omega)];rfl
theorem piece_form (r:Int) (h:Lib.validRune r=true) (t:List UInt8):piece (encodeRune r++t)=encodeRune (lowerF r):=by
 have hv:=(valid_iff r).1 h;unfold piece;rw[decode_enc r h t];dsimp only;rw[show ((r.toNat:Nat):Int)=r from by omega];by_cases e:lowerF r=r
 ·rw[if_pos e,e,List.take_left'];rfl
 ·rw[if_neg e]
theorem fold_form (r:Int) (h:Lib.validRune r=true) (t:List UInt8):foldL (encodeRune r++t)=encodeRune (lowerF r)++foldL t:=by
 obtain ⟨b0,bs,e,_⟩:=enc_cont r h;rw[foldL_step _ (by rw[e];simp),piece_form r h t,decode_enc r h t,List.drop_left'];rfl
theorem fold_odd (b:UInt8) (t:List UInt8) (h:decodeL (b::t)=odd):foldL (b::t)=b::foldL t:=by
 rw[foldL_step _ (by simp),piece_odd _ (by simp) h,h];rfl
theorem fold_length_n:∀(n:Nat) (l:List UInt8),l.length≤n→(foldL l).length=l.length
 | 0,l,h=>by have:l=[]:=List.eq_nil_of_length_eq_zero (by omega);subst this;rfl
 | n+1,l,h=>by
  cases l with
  | nil=>rfl
  | cons b t=>
   rcases dec_cases (b::t) (by simp) with ho | ⟨r,t',hr,e,hd⟩
   ·rw[fold_odd b t ho,List.length_cons,List.length_cons,fold_length_n n t (by simpa using h)]
   ·have hlen:(encodeRune r).length+t'.length=(b::t).length:=by rw[e,List.length_append]
    obtain ⟨b0,bs,e0,_⟩:=enc_cont r hr;have ih:=fold_length_n n t' (by rw[e0] at hlen;simp only[List.length_cons] at hlen h;omega);rw[e,fold_form r hr,List.length_append,List.length_append,ih,lower_len r hr]
theorem fold_length (l:List UInt8):(foldL l).length=l.length:=fold_length_n l.length l (Nat.le_refl _)
end FoldP
end
section
namespace AnaP
open Go.Lib Go FoldP
def wordF (r:Int):Bool:=letterF r || digitF r
def mayF (r:Int):Bool:=wordF r || markF r
def solidF (r:Int):Bool:=!blankF r
def anyF (_:Int):Bool:=true
def runIx (may begins:Int→Bool):List Int→Nat→Option Nat→List (Nat × Nat)
 | [],_,none=>[]
 | [],j,some a=>[(a,j)]
 | r::l,j,none=>if may r && begins r then runIx may begins l (j+1) (some j) else runIx may begins l (j+1) none
 | r::l,j,some a=>if may r then runIx may begins l (j+1) (some a) else (a,j)::runIx may begins l (j+1) none
def tokAt (s:ByteArray) (i:Nat) (c:Nat × Nat):TokD:=⟨s.extract (posAt s.data.toList c.1) (posAt s.data.toList c.2),i,posAt s.data.toList c.1,posAt s.data.toList c.2⟩
def tokOf (s:ByteArray) (cuts:List (Nat × Nat)):List TokD:=cuts.mapIdx (tokAt s)
theorem tokOf_len (s:ByteArray) (cuts:List (Nat × Nat)):(tokOf s cuts).length=cuts.length:=by simp[tokOf]
theorem tokOf_snoc (s:ByteArray) (cuts:List (Nat × Nat)) (c:Nat × Nat):tokOf s (cuts++[c])=tokOf s cuts++[tokAt s cuts.length c]:=by simp[tokOf,List.mapIdx_append]
def runeL (l:List UInt8):List Int:=(runesL l).map (·.2)
theorem runeL_len (l:List UInt8):(runeL l).length=nR l:=by simp[runeL,nR]
def pieces2 (c:Nat × Nat):List (Nat × Nat):=if c.2=c.1+1 then [c] else (List.range (c.2 - c.1 - 1)).map fun i=>(c.1+i,c.1+i+2)
def cutF (n:Int) (l:List Int):List (Nat × Nat):=
 if n=1 then runIx mayF wordF l 0 none else if n=2 then runIx solidF solidF l 0 none else if n=3 then (if l=[] then [] else [(0,l.length)]) else (runIx mayF wordF l 0 none).flatMap pieces2
def tokensF (n:Int) (s:ByteArray):List TokD:=tokOf s (cutF n (runeL s.data.toList))
theorem runIx_mem {may begins:Int→Bool}:∀(l:List Int) (j:Nat) (fr:Option Nat),(∀a,fr=some a→a<j)→∀c∈runIx may begins l j fr,c.1<c.2∧c.2≤j+l.length∧fr.getD j≤c.1
 | [],j,none,_,c,hc=>by cases hc
 | [],j,some a,h,c,hc=>by simp only[runIx,List.mem_singleton] at hc;subst hc;exact ⟨h a rfl,by simp,Nat.le_refl _⟩
 | r::l,j,none,h,c,hc=>by
  unfold runIx at hc;split at hc
  ·have:=runIx_mem l (j+1) (some j) (fun a e=>by cases e;omega) c hc;simp only[Option.getD_some,Option.getD_none,List.length_cons] at *;omega
  ·have:=runIx_mem l (j+1) none (fun a e=>by cases e) c hc;simp only[Option.getD_none,List.length_cons] at *;omega
 | r::l,j,some a,h,c,hc=>by
  have ha:=h a rfl;unfold runIx at hc;split at hc
  ·have:=runIx_mem l (j+1) (some a) (fun a' e=>by cases e;omega) c hc;simp only[Option.getD_some,List.length_cons] at *;omega
  ·rcases List.mem_cons.1 hc with rfl | hc
   ·simp only[Option.getD_some,List.length_cons];omega
   ·have:=runIx_mem l (j+1) none (fun a' e=>by cases e) c hc;simp only[Option.getD_some,Option.getD_none,List.length_cons] at *;omega
theorem runIx_pair {may begins:Int→Bool}:∀(l:List Int) (j:Nat) (fr:Option Nat),(∀a,fr=some a→a<j)→(runIx may begins l j fr).Pairwise (fun x y=>x.2≤y.1)
 | [],j,none,_=>List.Pairwise.nil
 | [],j,some a,h=>List.pairwise_singleton _ _
 | r::l,j,none,h=>by
  unfold runIx;split
  ·exact runIx_pair l (j+1) (some j) (fun a e=>by cases e;omega)
  ·exact runIx_pair l (j+1) none (fun a e=>by cases e)
 | r::l,j,some a,h=>by
  have ha:=h a rfl;unfold runIx;split
  ·exact runIx_pair l (j+1) (some a) (fun a' e=>by cases e;omega)
  ·refine List.pairwise_cons.2 ⟨fun c hc=>?_,runIx_pair l (j+1) none (fun a' e=>by cases e)⟩;have:=runIx_mem l (j+1) none (fun a' e=>by cases e) c hc;simp only[Option.getD_none] at this;show j≤c.1;omega
theorem runIx_len {may begins:Int→Bool}:∀(l:List Int) (j:Nat) (fr:Option Nat),(runIx may begins l j fr).length≤l.length+(if fr=none then 0 else 1)
 | [],j,none=>by simp[runIx]
 | [],j,some a=>by simp[runIx]
 | r::l,j,none=>by
  unfold runIx;split
  ·have:=runIx_len (may:=may) (begins:=begins) l (j+1) (some j);simp only[reduceCtorEq,if_false,List.length_cons,if_true] at *;omega
  ·have:=runIx_len (may:=may) (begins:=begins) l (j+1) none;simp only[List.length_cons,if_true] at *;omega
 | r::l,j,some a=>by
  unfold runIx;split
  ·have:=runIx_len (may:=may) (begins:=begins) l (j+1) (some a);simp only[reduceCtorEq,if_false,List.length_cons] at *;omega
  ·have:=runIx_len (may:=may) (begins:=begins) l (j+1) none;simp only[reduceCtorEq,if_false,List.length_cons,if_true] at *;omega
theorem runIx_any:∀(l:List Int) (j:Nat) (a:Nat),runIx anyF anyF l j (some a)=[(a,j+l.length)]
 | [],j,a=>by simp[runIx]
 | r::l,j,a=>by simp only[runIx,anyF,if_true];rw[runIx_any l (j+1) a,List.length_cons];congr 2;omega
theorem runIx_whole (l:List Int):runIx anyF anyF l 0 none=if l=[] then [] else [(0,l.length)]:=by
 cases l with
 | nil=>rfl
 | cons r l=>simp only[runIx,anyF,Bool.and_self,if_true];rw[runIx_any l (0+1) 0,List.length_cons,if_neg (by simp)];congr 2;omega
def CutOk (n:Nat) (cuts:List (Nat × Nat)):Prop:=(∀c∈cuts,c.1<c.2∧c.2≤n)∧cuts.Pairwise (fun x y=>x.1≤y.1)
theorem cut_runs (may begins:Int→Bool) (l:List Int):CutOk l.length (runIx may begins l 0 none):=
 ⟨fun c hc=>by have:=runIx_mem l 0 none (fun a e=>by cases e) c hc;omega,(runIx_pair (may:=may) (begins:=begins) l 0 none (fun a e=>by cases e)).imp_of_mem (fun {x y} hx hy h=>by
  have:=runIx_mem l 0 none (fun a e=>by cases e) x hx;omega)⟩
theorem pieces2_mem {c x:Nat × Nat} (hc:c.1<c.2) (h:x∈pieces2 c):c.1≤x.1∧x.1<x.2∧x.2≤c.2:=by
 unfold pieces2 at h;split at h
 ·simp only[List.mem_singleton] at h;subst h;omega
 ·simp only[List.mem_map,List.mem_range] at h;obtain ⟨i,hi,rfl⟩:=h;dsimp only;omega
theorem pieces2_pair (c:Nat × Nat):(pieces2 c).Pairwise (fun x y=>x.1≤y.1):=by
 unfold pieces2;split
 ·exact List.pairwise_singleton _ _
 ·rw[List.pairwise_map];exact (List.pairwise_lt_range (n:=c.2 - c.1 - 1)).imp_of_mem (fun {a b} _ _ h=>by dsimp only;omega)
theorem pieces2_len (c:Nat × Nat) (h:c.1<c.2):(pieces2 c).length≤c.2 - c.1:=by
 unfold pieces2;split
 ·simp only[List.length_singleton];omega
 ·simp only[List.length_map,List.length_range];omega
theorem flat_pair:∀(L:List (Nat × Nat)),(∀c∈L,c.1<c.2)→L.Pairwise (fun x y=>x.2≤y.1)→(L.flatMap pieces2).Pairwise (fun x y=>x.1≤y.1)
 | [],_,_=>List.Pairwise.nil
 | c::L,h,hp=>by rw[List.pairwise_cons] at hp;rw[List.flatMap_cons,List.pairwise_append];refine ⟨pieces2_pair c,flat_pair L (fun x hx=>h x (List.mem_cons_of_mem _ hx)) hp.2,fun x hx y hy=>?_⟩;rw[List.mem_flatMap] at hy;obtain ⟨d,hd,hy⟩:=hy;have h1:=pieces2_mem (h c (by simp)) hx;have h2:=pieces2_mem (h d (List.mem_cons_of_mem _ hd)) hy;have h3:=hp.1 d hd;omega
theorem flat_len:∀(L:List (Nat × Nat)) (lo hi:Nat),lo≤hi→(∀c∈L,c.1<c.2∧lo≤c.1∧c.2≤hi)→L.Pairwise (fun x y=>x.2≤y.1)→(L.flatMap pieces2).length≤hi - lo
 | [],lo,hi,_,_,_=>by simp
 | c::L,lo,hi,hlh,h,hp=>by rw[List.pairwise_cons] at hp;obtain ⟨h1,h2,h3⟩:=h c (by simp);have:=flat_len L c.2 hi h3 (fun x hx=>⟨(h x (List.mem_cons_of_mem _ hx)).1,hp.1 x hx,(h x (List.mem_cons_of_mem _ hx)).2.2⟩) hp.2;have:=pieces2_len c h1;rw[List.flatMap_cons,List.length_append];omega
theorem cutF_ok (n:Int) (l:List Int):CutOk l.length (cutF n l):=by
 unfold cutF;split
 ·exact cut_runs _ _ l
 ·split
  ·exact cut_runs _ _ l
  ·split
   ·split
    ·exact ⟨fun c hc=>(by cases hc),List.Pairwise.nil⟩
    ·rename_i hl
     have:0<l.length:=List.length_pos_iff.2 hl;exact ⟨fun c hc=>by simp only[List.mem_singleton] at hc;subst hc;dsimp only;omega,List.pairwise_singleton _ _⟩
   ·refine ⟨fun c hc=>?_,flat_pair _ (fun c hc=>(runIx_mem l 0 none (fun a e=>by cases e) c hc).1) (runIx_pair l 0 none (fun a e=>by cases e))⟩;rw[List.mem_flatMap] at hc;obtain ⟨d,hd,hc⟩:=hc;have h1:=runIx_mem l 0 none (fun a e=>by cases e) d hd;have h2:=pieces2_mem h1.1 hc;omega
theorem cutF_len (n:Int) (l:List Int):(cutF n l).length≤l.length:=by
 unfold cutF;split
 ·have:=runIx_len (may:=mayF) (begins:=wordF) l 0 none;simpa using this
 ·split
  ·have:=runIx_len (may:=solidF) (begins:=solidF) l 0 none;simpa using this
  ·split
   ·split
    ·simp
    ·rename_i hl
     have:0<l.length:=List.length_pos_iff.2 hl;simp only[List.length_singleton];omega
   ·have:=flat_len (runIx mayF wordF l 0 none) 0 l.length (Nat.zero_le _) (fun c hc=>by have:=runIx_mem l 0 none (fun a e=>by cases e) c hc;omega) (runIx_pair l 0 none (fun a e=>by cases e));omega
def checkGo:List Int→List Int→Bool
 | _,[]=>true
 | seen,n::t=>filterB n && !seen.contains n && checkGo (seen++[n]) t
def checkB:List Int→Bool
 | []=>false
 | c::t=>decide (t.length≤7) && decide (1≤c) && decide (c≤4) && checkGo [] t
theorem checkGo_iff:∀(t seen:List Int),checkGo seen t=true↔(∀(i:Nat),i<t.length→filterB (t.getD i 0)=true∧t.getD i 0∉seen∧∀k<i,t.getD k 0≠t.getD i 0)
 | [],seen=>by simp[checkGo]
 | n::t,seen=>by
  rw[checkGo,Bool.and_eq_true,Bool.and_eq_true,checkGo_iff t (seen++[n])];constructor
  ·rintro ⟨⟨h1,h2⟩,h3⟩ i hi
   cases i with
   | zero=>exact ⟨by simpa using h1,by simpa using h2,fun k hk=>by omega⟩
   | succ i=>
    obtain ⟨a,b,c⟩:=h3 i (by simpa using hi);simp only[List.getD_cons_succ] at *;rw[List.mem_append,not_or] at b;refine ⟨a,b.1,fun k hk=>?_⟩
    cases k with
    | zero=>simp only[List.getD_cons_zero];intro e;exact b.2 (by simp[e])
    | succ k=>simp only[List.getD_cons_succ];exact c k (by omega)
  ·intro h;refine ⟨⟨?_,?_⟩,fun i hi=>?_⟩
   ·have:=h 0 (by simp);simpa using this.1
   ·have:=h 0 (by simp);simpa using this.2.1
   ·obtain ⟨a,b,c⟩:=h (i+1) (by simpa using hi);simp only[List.getD_cons_succ] at *;refine ⟨a,?_,fun k hk=>by have:=c (k+1) (by omega);simpa using this⟩;rw[List.mem_append,not_or];refine ⟨b,fun e=>?_⟩;have:=c 0 (by omega);simp only[List.getD_cons_zero] at this;simp only[List.mem_singleton] at e;exact this e.symm
theorem filterB_iff (n:Int):filterB n=true↔10≤n∧n≤15:=by unfold filterB;simp
def linkAll:List Int→List TokD→List TokD × Int
 | [],t=>(t,0)
 | n::ns,t=>match linkF n t with
  | none=>([],84)
  | some t'=>linkAll ns t'
def runF (chain:List Int) (s:ByteArray):List TokD × Int:=
 if checkB chain=false then ([],60) else if 4096<s.size then ([],3) else if 4096<(tokensF (chain.getD 0 0) s).length then ([],84) else linkAll chain.tail (tokensF (chain.getD 0 0) s)
theorem one_size (n:Int) (s x:ByteArray) (h:x∈oneF n s):x.size≤s.size:=by
 have e1:∀a b,(s.extract a b).size≤s.size:=fun a b=>by rw[ByteArray.size_extract];omega
 have e2:s.data.toList.length=s.size:=by simp
 unfold oneF at h;split at h
 ·simp only[List.mem_singleton] at h;subst h;show (foldL s.data.toList).toArray.size≤s.size;rw[List.size_toArray,fold_length,e2];exact Nat.le_refl _
 ·split at h
  ·split at h
   ·cases h
   ·simp only[List.mem_singleton] at h;subst h;exact Nat.le_refl _
  ·split at h
   ·unfold gramsF at h;split at h
    ·simp only[List.mem_singleton] at h;subst h;exact Nat.le_refl _
    ·rw[List.mem_map] at h;obtain ⟨i,_,rfl⟩:=h;exact e1 _ _
   ·split at h
    ·unfold gramsF at h;split at h
     ·simp only[List.mem_singleton] at h;subst h;exact Nat.le_refl _
     ·rw[List.mem_map] at h;obtain ⟨i,_,rfl⟩:=h;exact e1 _ _
    ·split at h
     ·unfold shortF at h;split at h
      ·simp only[List.mem_singleton] at h;subst h;exact e1 _ _
      ·simp only[List.mem_singleton] at h;subst h;exact Nat.le_refl _
     ·unfold marksF at h;split at h
      ·cases h
      ·simp only[List.mem_singleton] at h;subst h;show (unmarkTo s.data.toList (nR s.data.toList)).toArray.size≤s.size;have:=unmarkTo_len s.data.toList (nR s.data.toList) (Nat.le_refl _);rw[posAt_end,e2] at this;rw[List.size_toArray];exact this
theorem linkGo_all {p:TokD→Prop} {n:Int} (hp:∀t x,p t→x∈oneF n t.text→p { t with text:=x }):∀(l acc ts:List TokD),(∀t∈l,p t)→(∀t∈acc,p t)→linkGo n l acc=some ts→∀t∈ts,p t
 | [],acc,ts,_,ha,e=>by unfold linkGo at e;cases e;exact ha
 | t::l,acc,ts,hl,ha,e=>by
  unfold linkGo at e;split at e
  ·cases e
  ·refine linkGo_all hp l _ ts (fun x hx=>hl x (List.mem_cons_of_mem _ hx)) (fun x hx=>?_) e;rcases List.mem_append.1 hx with hx | hx
   ·exact ha x hx
   ·unfold oneT at hx;rw[List.mem_map] at hx;obtain ⟨y,hy,rfl⟩:=hx;exact hp t y (hl t (by simp)) hy
theorem link_all {p:TokD→Prop} {n:Int} {l ts:List TokD} (hp:∀t x,p t→x∈oneF n t.text→p { t with text:=x }) (hl:∀t∈l,p t) (e:linkF n l=some ts):∀t∈ts,p t:=linkGo_all hp l [] ts hl (fun t h=>by cases h) e
theorem linkGo_len4 (n:Int):∀(l acc ts:List TokD),acc.length≤4096→linkGo n l acc=some ts→ts.length≤4096
 | [],acc,ts,h,e=>by unfold linkGo at e;cases e;exact h
 | t::l,acc,ts,h,e=>by
  unfold linkGo at e;split at e
  ·cases e
  ·exact linkGo_len4 n l _ ts (by omega) e
theorem linkF_len4 {n:Int} {l ts:List TokD} (e:linkF n l=some ts):ts.length≤4096:=linkGo_len4 n l [] ts (by simp) e
theorem tokensF_size (n:Int) (s:ByteArray) (t:TokD) (h:t∈tokensF n s):t.text.size≤s.size:=by
 unfold tokensF tokOf at h;rw[List.mem_mapIdx] at h;obtain ⟨i,hi,rfl⟩:=h;show (s.extract _ _).size≤s.size;rw[ByteArray.size_extract];omega
theorem tokensF_len (n:Int) (s:ByteArray):(tokensF n s).length≤s.size:=by
 unfold tokensF;rw[tokOf_len];have h1:=cutF_len n (runeL s.data.toList);have h2:=nR_le s.data.toList;have e2:s.data.toList.length=s.size:=by simp
 rw[runeL_len] at h1;omega
end AnaP
end
