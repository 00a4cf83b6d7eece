/- Lemmas that the last text leans on. -/
import Derived.Test.YtplkbdncgkgppaaGreatDoorPack23
import Derived.Lib.MapLaws
import Derived.Lib.ValidLaws
set_option linter.all false
section
namespace Go.Proofs.YtplkbdncgkgppaaGreatDoor.Qry
open Go.RowKit Words Tree QryP Kit Sch SchP Owned
theorem OQL.append {w:World} {B:Nat}:∀{l1 l2:List QT} {x1 x2:List Value} {b1 b2:List Nat},OQL w B l1 x1 b1→OQL w B l2 x2 b2→OQL w B (l1++l2) (x1++x2) (b1++b2)
 | [],l2,x1,x2,b1,b2,h,h2=>by rw[OQL] at h;obtain ⟨rfl,rfl⟩:=h;exact h2
 | q::l1,l2,x1,x2,b1,b2,h,h2=>by rw[OQL] at h;obtain ⟨us,xs',c1,c2,rfl,rfl,h3,h4⟩:=h;rw[List.cons_append,OQL];exact ⟨us,xs'++x2,c1,c2++b2,by simp,by simp,h3,OQL.append h4 h2⟩
theorem zd1:∀l1 l2:List QT,zam (l1++l2)=zam l1+zam l2
 | [],l2=>by simp[zam]
 | q::l1,l2=>by rw[List.cons_append,zam,zam,zd1 l1 l2];omega
theorem ycf:∀q:QT,10≤zb5 q
 | .mk _ _ _ _ _ _ _ _ _ _=>by rw[zb5];omega
theorem zfj:∀l:List QT,l.length*10≤zam l
 | []=>by simp
 | q::l=>by have:=ycf q;have:=zfj l;rw[zam,List.length_cons];omega
def ziy (l:List (Value × List Int)):List Nat:=l.flatMap fun p=>p.1.ownBlock.toList
theorem zkb (a b:List (Value × List Int)):ziy (a++b)=ziy a++ziy b:=by simp[ziy]
theorem zhj {l:List (Value × List Int)} {g:Nat}:g∈ziy l↔∃p∈l,p.1.ownBlock=some g:=by
 unfold ziy;rw[List.mem_flatMap];constructor
 ·rintro ⟨p,h1,h2⟩;exact ⟨p,h1,zat.1 h2⟩
 ·rintro ⟨p,h1,h2⟩;exact ⟨p,h1,zat.2 h2⟩
theorem zlt:∀{l:List (Value × List Int)},(ziy l).Nodup→∀(i j g:Nat) (p q:Value × List Int),l[i]?=some p→l[j]?=some q→p.1.ownBlock=some g→q.1.ownBlock=some g→i=j
 | [],_,i,j,g,p,q,h1,_,_,_=>by simp at h1
 | a::l,hn,i,j,g,p,q,h1,h2,h3,h4=>by
  have e:ziy (a::l)=a.1.ownBlock.toList++ziy l:=rfl;rw[e] at hn;obtain ⟨n1,n2,n3⟩:=List.nodup_append.1 hn
  cases i with
  | zero=>
   cases j with
   | zero=>rfl
   | succ j=>
    simp only[List.getElem?_cons_zero,Option.some.injEq] at h1;subst h1;simp only[List.getElem?_cons_succ] at h2;exact absurd rfl (n3 g (zat.2 h3) g (zhj.2 ⟨q,List.mem_of_getElem? h2,h4⟩))
  | succ i=>
   simp only[List.getElem?_cons_succ] at h1
   cases j with
   | zero=>
    simp only[List.getElem?_cons_zero,Option.some.injEq] at h2;subst h2;exact absurd rfl (n3 g (zat.2 h4) g (zhj.2 ⟨p,List.mem_of_getElem? h1,h3⟩))
   | succ j=>
    simp only[List.getElem?_cons_succ] at h2;rw[zlt n2 i j g p q h1 h2 h3 h4]
structure AF (M N:Nat) (bsA:List Nat) (w w0 wr:World) (i:Nat) (rows:List (Value × List Int)) (pend:List QT) (xp:List Value) (bP:List Nat):Prop where
 rws:∀p∈rows,ze1 wr N p.1 p.2∧p.2.length≤40960
 oq:OQL wr N pend xp bP
 nd:(ziy rows++bP).Nodup
 sub:∀g∈ziy rows++bP,g∈bsA
 bel:Below N w wr
 keep:∀g,g<M→g∉bsA→wr.heap[g]?=w0.heap[g]?
 lt:∀g∈bsA,N≤g∧g<M
 sz:M≤wr.heap.size
 ms:i*10+zam pend≤40960
section
variable {M N:Nat} {bsA bP:List Nat} {w w0 wr w':World} {i:Nat} {rows:List (Value × List Int)} {pend:List QT} {xp:List Value}
theorem AF.visit {k o b op:Int} {f t u:ByteArray} {lo hi:List Int} {ks pend':List QT} (h:AF M N bsA w w0 wr i rows (.mk k o f t u lo hi b op ks::pend') xp bP) :
 ∃(vl vh vk:Value) (xk xp':List Value) (bk bp':List Nat),xp=[.int .i64 k,.int .i64 o,.string f,.string t,.string u,vl,vh,.int .i64 b,.int .i64 op,vk]++xp'∧ze1 wr N vl lo∧ze1 wr N vh hi∧
  wr.ownsRow N 28 10 vk ks.length xk∧(∀g,vk.ownBlock=some g→g∈bsA∧g∉ziy (rows++[(vl,lo),(vh,hi)])++(bp'++bk))∧ks.length*10≤40960∧OQL wr N ks xk bk∧
  AF M N bsA w w0 wr (i+1) (rows++[(vl,lo),(vh,hi)]) (pend'++ks) (xp'++xk) (bp'++bk):=by
 have hoq:=h.oq;rw[OQL] at hoq;obtain ⟨us,xp',b1,bp',rfl,rfl,hq,hr⟩:=hoq;rw[OQ] at hq;obtain ⟨vl,vh,vk,xk,bk,rfl,h1,h2,h3,h4,rfl⟩:=hq;have hms:=h.ms;rw[zam,zb5] at hms;have hml:=zfj ks
 have hperm:(vk.ownBlock.toList++(ziy (rows++[(vl,lo),(vh,hi)])++(bp'++bk))).Perm (ziy rows++(vl.ownBlock.toList++(vh.ownBlock.toList++(vk.ownBlock.toList++bk))++bp')):=by
  rw[zkb,List.perm_iff_count];intro a;have e:ziy [(vl,lo),(vh,hi)]=vl.ownBlock.toList++vh.ownBlock.toList:=by simp[ziy]
  rw[e];simp only[List.count_append];omega
 have hnd:=hperm.nodup_iff.2 h.nd;obtain ⟨n1,n2,n3⟩:=List.nodup_append.1 hnd;have hsub:∀g∈vk.ownBlock.toList++(ziy (rows++[(vl,lo),(vh,hi)])++(bp'++bk)),g∈bsA:=fun g hg=>h.sub g (hperm.mem_iff.1 hg);refine ⟨vl,vh,vk,xk,xp',bk,bp',rfl,h1,h2,h3,fun g hg=>⟨hsub g (List.mem_append_left _ (zat.2 hg)),fun hm=>n3 g (zat.2 hg) g hm rfl⟩,by omega,h4,?_⟩;refine ⟨fun p hp=>?_,hr.append h4,n2,fun g hg=>hsub g (List.mem_append_right _ hg),h.bel,h.keep,h.lt,h.sz,by rw[zd1];omega⟩;rcases List.mem_append.1 hp with hp | hp
 ·exact h.rws p hp
 ·simp only[List.mem_cons,List.not_mem_nil,or_false] at hp;rcases hp with rfl | rfl
  ·exact ⟨h1,by dsimp only;omega⟩
  ·exact ⟨h2,by dsimp only;omega⟩
def znm (rows:List (Value × List Int)) (j:Nat):Value:=((rows[j]?).map (·.1)).getD undef
def yde (rows:List (Value × List Int)) (j:Nat):List Value:=(((rows[j]?).map (·.2)).getD []).map (Value.int .i64)
theorem zy9 (rows:List (Value × List Int)):(List.range rows.length).map (znm rows)=rows.map (·.1):=by
 apply List.ext_getElem
 ·simp
 ·intro j h1 h2;simp only[List.length_map,List.length_range] at h1;simp[znm,List.getElem?_eq_getElem h1]
theorem zif {g:Nat} (h:ze4 rows.length (znm rows) g):g∈ziy rows:=by
 obtain ⟨j,hj,e⟩:=h;unfold znm at e;rw[List.getElem?_eq_getElem hj] at e;exact zhj.2 ⟨rows[j],List.getElem_mem hj,e⟩
end
theorem ycg {w:World} {g o:Nat} {t:TypeId} {cur:Array Value} (h:Blk w g t cur) (v0 v1 v2 v3 v4 v5 v6 v7 v8 v9:Value):w.grownBy ((((((((((w.setCell ⟨g,o,none⟩ v0).setCell ⟨g,o+1,none⟩ v1).setCell ⟨g,o+2,none⟩ v2).setCell ⟨g,o+3,none⟩ v3).setCell ⟨g,o+4,none⟩ v4).setCell ⟨g,o+5,none⟩ v5).setCell ⟨g,o+6,none⟩ v6).setCell ⟨g,o+7,none⟩ v7).setCell ⟨g,o+8,none⟩ v8).setCell ⟨g,o+9,none⟩ v9) (some g)∧∃cur',Blk ((((((((((w.setCell ⟨g,o,none⟩ v0).setCell ⟨g,o+1,none⟩ v1).setCell ⟨g,o+2,none⟩ v2).setCell ⟨g,o+3,none⟩ v3).setCell ⟨g,o+4,none⟩ v4).setCell ⟨g,o+5,none⟩ v5).setCell ⟨g,o+6,none⟩ v6).setCell ⟨g,o+7,none⟩ v7).setCell ⟨g,o+8,none⟩ v8).setCell ⟨g,o+9,none⟩ v9) g t cur'∧cur'.size=cur.size:=by
 have b0:w.grownBy w (some g):=World.grownBy.refl w _;have b1:w.grownBy (w.setCell ⟨g,o,none⟩ v0) (some g):=zac b0 (.inl rfl) v0;have b2:w.grownBy ((w.setCell ⟨g,o,none⟩ v0).setCell ⟨g,o+1,none⟩ v1) (some g):=zac b1 (.inl rfl) v1;have b3:w.grownBy (((w.setCell ⟨g,o,none⟩ v0).setCell ⟨g,o+1,none⟩ v1).setCell ⟨g,o+2,none⟩ v2) (some g):=zac b2 (.inl rfl) v2;have b4:w.grownBy ((((w.setCell ⟨g,o,none⟩ v0).setCell ⟨g,o+1,none⟩ v1).setCell ⟨g,o+2,none⟩ v2).setCell ⟨g,o+3,none⟩ v3) (some g):=zac b3 (.inl rfl) v3;have b5:w.grownBy (((((w.setCell ⟨g,o,none⟩ v0).setCell ⟨g,o+1,none⟩ v1).setCell ⟨g,o+2,none⟩ v2).setCell ⟨g,o+3,none⟩ v3).setCell ⟨g,o+4,none⟩ v4) (some g):=zac b4 (.inl rfl) v4;have b6:w.grownBy ((((((w.setCell ⟨g,o,none⟩ v0).setCell ⟨g,o+1,none⟩ v1).setCell ⟨g,o+2,none⟩ v2).setCell ⟨g,o+3,none⟩ v3).setCell ⟨g,o+4,none⟩ v4).setCell ⟨g,o+5,none⟩ v5) (some g):=zac b5 (.inl rfl) v5;have b7:w.grownBy (((((((w.setCell ⟨g,o,none⟩ v0).setCell ⟨g,o+1,none⟩ v1).setCell ⟨g,o+2,none⟩ v2).setCell ⟨g,o+3,none⟩ v3).setCell ⟨g,o+4,none⟩ v4).setCell ⟨g,o+5,none⟩ v5).setCell ⟨g,o+6,none⟩ v6) (some g):=zac b6 (.inl rfl) v6
 have b8:w.grownBy ((((((((w.setCell ⟨g,o,none⟩ v0).setCell ⟨g,o+1,none⟩ v1).setCell ⟨g,o+2,none⟩ v2).setCell ⟨g,o+3,none⟩ v3).setCell ⟨g,o+4,none⟩ v4).setCell ⟨g,o+5,none⟩ v5).setCell ⟨g,o+6,none⟩ v6).setCell ⟨g,o+7,none⟩ v7) (some g):=zac b7 (.inl rfl) v7;have b9:w.grownBy (((((((((w.setCell ⟨g,o,none⟩ v0).setCell ⟨g,o+1,none⟩ v1).setCell ⟨g,o+2,none⟩ v2).setCell ⟨g,o+3,none⟩ v3).setCell ⟨g,o+4,none⟩ v4).setCell ⟨g,o+5,none⟩ v5).setCell ⟨g,o+6,none⟩ v6).setCell ⟨g,o+7,none⟩ v7).setCell ⟨g,o+8,none⟩ v8) (some g):=zac b8 (.inl rfl) v8;have b10:w.grownBy ((((((((((w.setCell ⟨g,o,none⟩ v0).setCell ⟨g,o+1,none⟩ v1).setCell ⟨g,o+2,none⟩ v2).setCell ⟨g,o+3,none⟩ v3).setCell ⟨g,o+4,none⟩ v4).setCell ⟨g,o+5,none⟩ v5).setCell ⟨g,o+6,none⟩ v6).setCell ⟨g,o+7,none⟩ v7).setCell ⟨g,o+8,none⟩ v8).setCell ⟨g,o+9,none⟩ v9) (some g):=zac b9 (.inl rfl) v9;exact ⟨b10,_,((((((((((h.set_ (o) v0).set_ (o+1) v1).set_ (o+2) v2).set_ (o+3) v3).set_ (o+4) v4).set_ (o+5) v5).set_ (o+6) v6).set_ (o+7) v7).set_ (o+8) v8).set_ (o+9) v9),by simp⟩
theorem zr7 {w:World} {B m n g cap:Nat} {e:TypeId} {xs:List Value} (h:w.ownsRow B e m (.slice (some ⟨g,0,none⟩) n cap) n xs) {j:Nat} {u:Value} (hj:xs[j]?=some u):w.cell? ⟨g,j,none⟩=some u:=by
 have:=h.cells (g:=g) rfl j u hj;have hadd:(⟨g,0,none⟩:Addr).add j=⟨g,j,none⟩:=by unfold Addr.add;split <;> simp_all
 rwa [hadd] at this
theorem zv0 {w:World} {B m n:Nat} {e:TypeId} {v:Value} {xs:List Value} (h:w.ownsRow B e m v n xs):∃ao cap,v = .slice ao n cap:=by
 rcases h.2 with ⟨rfl,h0⟩ | ⟨g,cap,cur,rfl,_⟩
 ·exact ⟨none,0,by rw[h0]⟩
 ·exact ⟨_,_,rfl⟩
theorem zv1 {w:World} {B m n cap:Nat} {e:TypeId} {ao:Option Addr} {xs:List Value} (h:w.ownsRow B e m (.slice ao n cap) n xs):Reads w w.heap.size m ao n xs:=by
 refine ⟨h.1,fun hn=>?_⟩
 rcases h.2 with ⟨_,h0⟩ | ⟨g,cap',cur,hv,hb,hg,_⟩
 ·omega
 ·injection hv with ha _ _;exact ⟨⟨g,0,none⟩,ha,(Array.getElem?_eq_some_iff.1 hg).1,fun j u hu=>h.cells (g:=g) (by rw[ha];rfl) j u hu⟩
theorem zv2 {w:World} {B:Nat}:∀{qs:List QT} {xs:List Value} {bs:List Nat},OQL w B qs xs bs→∀u∈xs,u.oneCell'=true
 | [],xs,bs,h,u,hu=>by rw[OQL] at h;rw[h.1] at hu;cases hu
 | .mk k o f t uu lo hi b op ks::qs,xs,bs,h,u,hu=>by
  rw[OQL] at h;obtain ⟨us,xs',b1,b2,rfl,rfl,h1,h2⟩:=h;rcases List.mem_append.1 hu with hu | hu
  ·obtain ⟨cl,ch,ck,al,ah,ak,rfl⟩:=OQ.shape h1;simp only[List.mem_cons,List.not_mem_nil,or_false] at hu;rcases hu with rfl | rfl | rfl | rfl | rfl | rfl | rfl | rfl | rfl | rfl <;> rfl
  ·exact zv2 h2 u hu
end Go.Proofs.YtplkbdncgkgppaaGreatDoor.Qry
end
section
namespace FoldP
def inB (r lo hi:Int):Bool:=decide (lo≤r) && decide (r≤hi)
def zfk (r:Int):List Int→Bool
 | a::b::l=>inB r a b || zfk r l
 | _=>false
def ygi:List Int:=[0x41,0x5A,0xC0,0xD6,0xD8,0xDE,0x391,0x3A1,0x3A3,0x3AB,0x410,0x42F]
def ygj:List Int:=[0x100,0x12F,0x132,0x137,0x14A,0x177,0x460,0x481,0x48A,0x4BF,0x4D0,0x52F]
def ygk:List Int:=[0x139,0x148,0x179,0x17E,0x4C1,0x4CE]
def za4 (r:Int):Int:=
 if zfk r ygi then r+0x20
 else if zfk r ygj then r - r % 2+1
 else if zfk r ygk then r+r % 2
 else if inB r 0x388 0x38A then r+0x25
 else if inB r 0x38E 0x38F then r+0x3F
 else if inB r 0x400 0x40F then r+0x50
 else if r=0x178 then 0xFF
 else if r=0x4C0 then 0x4CF
 else if r=0x386 then 0x3AC
 else if r=0x38C then 0x3CC
 else r
def zv3:List Int:=[0x41,0x5A,0x61,0x7A,0xAA,0xAA,0xB5,0xB5,0xBA,0xBA,0xC0,0xD6,0xD8,0xF6,0xF8,0x2AF,0x370,0x373,0x376,0x377,0x37B,0x37D,0x37F,0x37F,0x386,0x386,0x388,0x38A,0x38C,0x38C,0x38E,0x3A1,0x3A3,0x3F5,0x3F7,0x481,0x48A,0x52F,0x5D0,0x5EA,0x620,0x64A,0x904,0x939,0x3041,0x3096,0x30A1,0x30FA,0x4E00,0x9FFF,0xAC00,0xD7A3]
def ya0:List Int:=[0x30,0x39,0x660,0x669,0x966,0x96F,0xFF10,0xFF19]
def yd8:List Int:=[0x300,0x36F,0x483,0x489,0x591,0x5BD,0x64B,0x65F,0x93C,0x93C,0x20D0,0x20F0,0xFE20,0xFE2F]
def zes (r:Int):Bool:=zfk r zv3
def zhk (r:Int):Bool:=zfk r ya0
def markF (r:Int):Bool:=zfk r yd8
theorem zza {r lo hi:Int}:inB r lo hi=true↔lo≤r∧r≤hi:=by simp[inB]
theorem zoi {r lo hi:Int}:inB r lo hi=false↔¬(lo≤r∧r≤hi):=by simp[inB]
theorem zc1 (r:Int):za4 r =
 if (0x41≤r∧r≤0x5A)∨(0xC0≤r∧r≤0xD6)∨(0xD8≤r∧r≤0xDE)∨(0x391≤r∧r≤0x3A1)∨(0x3A3≤r∧r≤0x3AB)∨(0x410≤r∧r≤0x42F) then r+0x20
 else if (0x100≤r∧r≤0x12F)∨(0x132≤r∧r≤0x137)∨(0x14A≤r∧r≤0x177)∨(0x460≤r∧r≤0x481)∨(0x48A≤r∧r≤0x4BF)∨(0x4D0≤r∧r≤0x52F) then r - r % 2+1
 else if (0x139≤r∧r≤0x148)∨(0x179≤r∧r≤0x17E)∨(0x4C1≤r∧r≤0x4CE) then r+r % 2
 else if 0x388≤r∧r≤0x38A then r+0x25
 else if 0x38E≤r∧r≤0x38F then r+0x3F
 else if 0x400≤r∧r≤0x40F then r+0x50
 else if r=0x178 then 0xFF
 else if r=0x4C0 then 0x4CF
 else if r=0x386 then 0x3AC
 else if r=0x38C then 0x3CC
 else r:=by
 unfold za4;simp only[zfk,ygi,ygj,ygk,inB,Bool.or_eq_true,Bool.and_eq_true,decide_eq_true_eq,Bool.false_eq_true,or_false]
def zqg (r odd:Int):Int:=if r % 2=odd then r+1 else r
def isA (r:Int):Prop:=(0x41≤r∧r≤0x5A)∨(0xC0≤r∧r≤0xD6)∨(0xD8≤r∧r≤0xDE)∨(0x391≤r∧r≤0x3A1)∨(0x3A3≤r∧r≤0x3AB)∨(0x410≤r∧r≤0x42F)
def isB (r:Int):Prop:=(0x100≤r∧r≤0x12F)∨(0x132≤r∧r≤0x137)∨(0x14A≤r∧r≤0x177)∨(0x460≤r∧r≤0x481)∨(0x48A≤r∧r≤0x4BF)∨(0x4D0≤r∧r≤0x52F)
def isC (r:Int):Prop:=(0x139≤r∧r≤0x148)∨(0x179≤r∧r≤0x17E)∨(0x4C1≤r∧r≤0x4CE)
theorem yfx (r:Int) (h:isA r):r+0x20=za4 r:=by
 simp only[isA] at *;rw[zc1,if_pos h]
theorem yfy (r:Int) (h:isB r):zqg r 0=za4 r:=by
 have a:¬isA r:=by unfold isA isB at *;omega
 simp only[isA,isB] at *;rw[zc1,if_neg a,if_pos h,zqg];split <;> omega
theorem yfz (r:Int) (h:isC r):zqg r 1=za4 r:=by
 have a:¬isA r:=by unfold isA isC at *;omega
 have b:¬isB r:=by unfold isB isC at *;omega
 simp only[isA,isB,isC] at *;rw[zc1,if_neg a,if_neg b,if_pos h,zqg];split <;> omega
theorem yf0 (r:Int) (h:0x388≤r∧r≤0x38A):r+0x25=za4 r:=by
 have a:¬isA r:=by unfold isA;omega
 have b:¬isB r:=by unfold isB;omega
 have c:¬isC r:=by unfold isC;omega
 simp only[isA,isB,isC] at *;rw[zc1,if_neg a,if_neg b,if_neg c,if_pos h]
theorem yf1 (r:Int) (h:0x38E≤r∧r≤0x38F):r+0x3F=za4 r:=by
 have a:¬isA r:=by unfold isA;omega
 have b:¬isB r:=by unfold isB;omega
 have c:¬isC r:=by unfold isC;omega
 simp only[isA,isB,isC] at *;rw[zc1,if_neg a,if_neg b,if_neg c,if_neg (by omega),if_pos h]
theorem yf2 (r:Int) (h:0x400≤r∧r≤0x40F):r+0x50=za4 r:=by
 have a:¬isA r:=by unfold isA;omega
 have b:¬isB r:=by unfold isB;omega
 have c:¬isC r:=by unfold isC;omega
 simp only[isA,isB,isC] at *;rw[zc1,if_neg a,if_neg b,if_neg c,if_neg (by omega),if_neg (by omega),if_pos h]
theorem ych:za4 0x178=0xFF:=by decide
theorem yci:za4 0x4C0=0x4CF:=by decide
theorem ycj:za4 0x386=0x3AC:=by decide
theorem yck:za4 0x38C=0x3CC:=by decide
theorem yd9 (r:Int) (a:¬isA r) (b:¬isB r) (c:¬isC r) (d:¬(0x388≤r∧r≤0x38A)) (e:¬(0x38E≤r∧r≤0x38F)) (f:¬(0x400≤r∧r≤0x40F))
 (g1:¬r=0x178) (g2:¬r=0x4C0) (g3:¬r=0x386) (g4:¬r=0x38C):r=za4 r:=by
 simp only[isA,isB,isC] at *;rw[zc1,if_neg a,if_neg b,if_neg c,if_neg d,if_neg e,if_neg f,if_neg g1,if_neg g2,if_neg g3,if_neg g4]
def zgi (r:Int):Prop:=(0x41≤r∧r≤0x5A)∨(0x61≤r∧r≤0x7A)∨(0xAA≤r∧r≤0xAA)∨(0xB5≤r∧r≤0xB5)∨(0xBA≤r∧r≤0xBA)∨(0xC0≤r∧r≤0xD6)∨(0xD8≤r∧r≤0xF6)∨(0xF8≤r∧r≤0x2AF)∨(0x370≤r∧r≤0x373)∨(0x376≤r∧r≤0x377)∨(0x37B≤r∧r≤0x37D)∨(0x37F≤r∧r≤0x37F)∨(0x386≤r∧r≤0x386)∨(0x388≤r∧r≤0x38A)∨(0x38C≤r∧r≤0x38C)∨(0x38E≤r∧r≤0x3A1)∨(0x3A3≤r∧r≤0x3F5)∨(0x3F7≤r∧r≤0x481)∨(0x48A≤r∧r≤0x52F)∨(0x5D0≤r∧r≤0x5EA)∨(0x620≤r∧r≤0x64A)∨(0x904≤r∧r≤0x939)∨(0x3041≤r∧r≤0x3096)∨(0x30A1≤r∧r≤0x30FA)∨(0x4E00≤r∧r≤0x9FFF)∨(0xAC00≤r∧r≤0xD7A3)
theorem zlu (r:Int):zes r=true↔zgi r:=by
 unfold zes zgi;simp only[zfk,zv3,inB,Bool.or_eq_true,Bool.and_eq_true,decide_eq_true_eq,Bool.false_eq_true,or_false]
theorem zqh (r:Int) (h:zgi r):zes r=true:=(zlu r).2 h
theorem zoj (r:Int) (h:¬zgi r):zes r=false:=by
 cases e:zes r
 ·rfl
 ·exact absurd ((zlu r).1 e) h
def zig (r:Int):Prop:=(0x30≤r∧r≤0x39)∨(0x660≤r∧r≤0x669)∨(0x966≤r∧r≤0x96F)∨(0xFF10≤r∧r≤0xFF19)
theorem zok (r:Int):zhk r=true↔zig r:=by
 unfold zhk zig;simp only[zfk,ya0,inB,Bool.or_eq_true,Bool.and_eq_true,decide_eq_true_eq,Bool.false_eq_true,or_false]
theorem ztb (r:Int) (h:zig r):zhk r=true:=(zok r).2 h
theorem zqi (r:Int) (h:¬zig r):zhk r=false:=by
 cases e:zhk r
 ·rfl
 ·exact absurd ((zok r).1 e) h
def zlv (r:Int):Prop:=(0x300≤r∧r≤0x36F)∨(0x483≤r∧r≤0x489)∨(0x591≤r∧r≤0x5BD)∨(0x64B≤r∧r≤0x65F)∨(0x93C≤r∧r≤0x93C)∨(0x20D0≤r∧r≤0x20F0)∨(0xFE20≤r∧r≤0xFE2F)
theorem zr8 (r:Int):markF r=true↔zlv r:=by
 unfold markF zlv;simp only[zfk,yd8,inB,Bool.or_eq_true,Bool.and_eq_true,decide_eq_true_eq,Bool.false_eq_true,or_false]
theorem zv4 (r:Int) (h:zlv r):markF r=true:=(zr8 r).2 h
theorem ztc (r:Int) (h:¬zlv r):markF r=false:=by
 cases e:markF r
 ·rfl
 ·exact absurd ((zr8 r).1 e) h
end FoldP
end
section
namespace FoldP
open Go.Lib Go
def odd:Nat × Nat:=(65533,1)
def acc (l:List UInt8) (r0:Int):Nat→Int
 | 0=>r0
 | k+1=>acc l r0 k*64+((l.getD (k+1) 0).toNat % 64:Nat)
def zv5 (l:List UInt8) (at_:Int):Int × Int:=
 if 0≤at_∧at_<l.length then (((decodeL (l.drop at_.toNat)).1:Int),((decodeL (l.drop at_.toNat)).2:Int)) else (0,0)
end FoldP
end
section
namespace FoldP
open Go.Lib Go
def zfl:Nat→Nat→List UInt8→List (Nat × Int)
 | 0,_,_=>[]
 | f+1,p,l=>if l=[] then [] else (p,((decodeL l).1:Int))::zfl f (p+(decodeL l).2) (l.drop (decodeL l).2)
def za9 (p:Nat) (l:List UInt8):List (Nat × Int):=zfl l.length p l
def zbe (l:List UInt8):List (Nat × Int):=za9 0 l
theorem zct:∀f p,zfl f p []=[]
 | 0,_=>rfl
 | _+1,_=>by simp[zfl]
theorem ziz:∀(n m p:Nat) (l:List UInt8),l.length≤n→l.length≤m→zfl n p l=zfl m p l
 | 0,m,p,l,hn,_=>by have:l=[]:=List.eq_nil_of_length_eq_zero (by omega);subst this;rw[zct,zct]
 | n+1,0,p,l,_,hm=>by have:l=[]:=List.eq_nil_of_length_eq_zero (by omega);subst this;rw[zct,zct]
 | n+1,m+1,p,l,hn,hm=>by
  by_cases hne:l=[]
  ·subst hne;rw[zct,zct]
  ·have hw:=decodeL_width l;have hl:0<l.length:=List.length_pos_iff.2 hne;simp only[zfl,if_neg hne];rw[ziz n m _ _ (by rw[List.length_drop];omega) (by rw[List.length_drop];omega)]
theorem zlb (p:Nat) (l:List UInt8) (hne:l≠[]):za9 p l=(p,((decodeL l).1:Int))::za9 (p+(decodeL l).2) (l.drop (decodeL l).2):=by
 have hw:=decodeL_width l;have hl:0<l.length:=List.length_pos_iff.2 hne;unfold za9
 obtain ⟨n,hn⟩:∃n,l.length=n+1:=⟨l.length - 1,by omega⟩
 rw[hn];simp only[zfl,if_neg hne];rw[ziz n _ _ _ (by rw[List.length_drop];omega) (Nat.le_refl _)]
theorem zg1 (l:List UInt8) (k:Nat) (h:k<l.length) :
 za9 k (l.drop k)=(k,((decodeL (l.drop k)).1:Int))::za9 (k+(decodeL (l.drop k)).2) (l.drop (k+(decodeL (l.drop k)).2)):=by
 rw[zlb _ _ (by intro e;have:=congrArg List.length e;simp at this;omega),List.drop_drop]
theorem zci (l:List UInt8) (k:Nat) (h:l.length≤k):za9 k (l.drop k)=[]:=by
 rw[List.drop_eq_nil_of_le h];rfl
theorem zfm (l:List UInt8) (k:Nat) (h:k<l.length):1≤(decodeL (l.drop k)).2∧k+(decodeL (l.drop k)).2≤l.length:=by
 have hne:l.drop k≠[]:=by intro e;have:=congrArg List.length e;simp at this;omega
 have h1:=decodeL_le _ hne;rw[List.length_drop] at h1;exact ⟨decodeL_width _,by omega⟩
theorem zhl (l:List UInt8):∀(f k:Nat),l.length - k≤f→∀x∈za9 k (l.drop k),k≤x.1∧x.1<l.length∧x.2=((decodeL (l.drop x.1)).1:Int)
 | 0,k,hf,x,hx=>by rw[zci l k (by omega)] at hx;cases hx
 | f+1,k,hf,x,hx=>by
  by_cases h:k<l.length
  ·rw[zg1 l k h] at hx;have hs:=zfm l k h;rcases List.mem_cons.1 hx with rfl | hx
   ·exact ⟨Nat.le_refl _,h,rfl⟩
   ·have:=zhl l f _ (by omega) x hx;exact ⟨by omega,this.2⟩
  ·rw[zci l k (by omega)] at hx;cases hx
theorem zgj {l:List UInt8} {x:Nat × Int} (h:x∈zbe l):x.1<l.length∧x.2=((decodeL (l.drop x.1)).1:Int):=by
 have:=zhl l l.length 0 (by omega) x (by simpa [zbe] using h);exact this.2
theorem ze5 (l:List UInt8):∀(f k:Nat),l.length - k≤f→(za9 k (l.drop k)).length≤l.length - k
 | 0,k,hf=>by rw[zci l k (by omega)];simp
 | f+1,k,hf=>by
  by_cases h:k<l.length
  ·rw[zg1 l k h];have hs:=zfm l k h;have:=ze5 l f (k+(decodeL (l.drop k)).2) (by omega);simp only[List.length_cons];omega
  ·rw[zci l k (by omega)];simp
theorem zdh (l:List UInt8):(zbe l).length≤l.length:=by
 have:=ze5 l l.length 0 (by omega);simpa [zbe] using this
def zi0:Nat→List UInt8→List UInt8
 | 0,_=>[]
 | f+1,l=>if l=[] then [] else (if za4 (decodeL l).1=(decodeL l).1 then l.take (decodeL l).2 else encodeRune (za4 (decodeL l).1))++zi0 f (l.drop (decodeL l).2)
def zej (l:List UInt8):List UInt8:=zi0 l.length l
theorem zdl:∀f,zi0 f []=[]
 | 0=>rfl
 | _+1=>by simp[zi0]
theorem zkc:∀(n m:Nat) (l:List UInt8),l.length≤n→l.length≤m→zi0 n l=zi0 m l
 | 0,m,l,hn,_=>by have:l=[]:=List.eq_nil_of_length_eq_zero (by omega);subst this;rw[zdl,zdl]
 | n+1,0,l,_,hm=>by have:l=[]:=List.eq_nil_of_length_eq_zero (by omega);subst this;rw[zdl,zdl]
 | n+1,m+1,l,hn,hm=>by
  by_cases hne:l=[]
  ·subst hne;rw[zdl,zdl]
  ·have hw:=decodeL_width l;have hl:0<l.length:=List.length_pos_iff.2 hne;simp only[zi0,if_neg hne];rw[zkc n m _ (by rw[List.length_drop];omega) (by rw[List.length_drop];omega)]
def zg2 (l:List UInt8):List UInt8:=if za4 (decodeL l).1=(decodeL l).1 then l.take (decodeL l).2 else encodeRune (za4 (decodeL l).1)
theorem zih (l:List UInt8) (hne:l≠[]):zej l=zg2 l++zej (l.drop (decodeL l).2):=by
 have hw:=decodeL_width l;have hl:0<l.length:=List.length_pos_iff.2 hne;unfold zej zg2
 obtain ⟨n,hn⟩:∃n,l.length=n+1:=⟨l.length - 1,by omega⟩
 rw[hn];simp only[zi0,if_neg hne];rw[zkc n _ _ (by rw[List.length_drop];omega) (Nat.le_refl _)]
theorem yea (l:List UInt8) (k:Nat) (h:k<l.length):zej (l.drop k)=zg2 (l.drop k)++zej (l.drop (k+(decodeL (l.drop k)).2)):=by
 rw[zih _ (by intro e;have:=congrArg List.length e;simp at this;omega),List.drop_drop]
theorem zv6 (l:List UInt8) (k:Nat) (h:l.length≤k):zej (l.drop k)=[]:=by rw[List.drop_eq_nil_of_le h];rfl
theorem zg3 (r:Int) (h0:0≤r) (h:za4 r≠r):(r<128∧0≤za4 r∧za4 r<128)∨(128≤r∧r<2048∧128≤za4 r∧za4 r<2048):=by
 revert h;rw[zc1];repeat' split
 all_goals (intro h;omega)
theorem zv7 (l:List UInt8) (h:(decodeL l).1≠65533):((decodeL l).1<128→(decodeL l).2=1)∧(128≤(decodeL l).1→(decodeL l).1<2048→(decodeL l).2=2):=by
 have hr:=runeLen_decode l h;unfold runeLen at hr;constructor
 ·intro h1;rw[if_neg (by omega),if_pos (by omega)] at hr;omega
 ·intro h1 h2;rw[if_neg (by omega),if_neg (by omega),if_pos (by omega)] at hr;omega
theorem zv8 (l:List UInt8) (hne:l≠[]):(zg2 l).length=(decodeL l).2:=by
 have hle:=decodeL_le l hne;unfold zg2;by_cases h:za4 (decodeL l).1=(decodeL l).1
 ·rw[if_pos h,List.length_take];omega
 ·rw[if_neg h];have hm:=zg3 _ (by omega) h;have hodd:(decodeL l).1≠65533:=by omega
  have hw:=zv7 l hodd;have e:(encodeRune (za4 ((decodeL l).1:Int))).length=(encodeRuneZ (za4 ((decodeL l).1:Int))).length:=by simp[encodeRune]
  rw[e];rcases hm with hm | hm
  ·rw[encodeRuneZ_one (by omega) (by omega)];have:=hw.1 (by omega);simp;omega
  ·rw[encodeRuneZ_two (by omega) (by omega)];have:=hw.2 (by omega) (by omega);simp;omega
end FoldP
end
