/- Lemmas that the last text leans on. -/
import Derived.OwnWalk
import Derived.Below
import Derived.Laws.AppendOwn
import Derived.Lib.MapLaws
import Derived.Lib.ValidLaws
import Derived.Test.YtigfcihakghddaaGreatDoorPack3
set_option linter.all false
section
namespace Go.Proofs.YtigfcihakghddaaGreatDoor.BufT
open Go Go.RowKit
def ClipRow (w:World) (B:Nat) (e:TypeId) (v:Value) (xs:List Value):Prop:=
 (v = .slice none 0 0∧xs=[])∨∃(g cap:Nat) (cur:Array Value),v = .slice (some ⟨g,0,none⟩) xs.length cap∧B≤g∧w.heap[g]?=some (.cells cur e (0,0))∧xs.length≤cap∧cap≤cur.size∧cap≤maxLen∧cur.toList.take xs.length=xs
theorem ClipRow.lt {w:World} {B:Nat} {e:TypeId} {v:Value} {xs:List Value} (h:ClipRow w B e v xs) {g:Nat} (hg:v.ownBlock=some g):B≤g∧g<w.heap.size:=by
 rcases h with ⟨rfl,_⟩ | ⟨g',cap,cur,rfl,hB,hb,_⟩
 ·cases hg
 ·obtain rfl:g'=g:=Option.some.inj hg;exact ⟨hB,(Array.getElem?_eq_some_iff.1 hb).1⟩
theorem ClipRow.stay {w w':World} {B:Nat} {e:TypeId} {v:Value} {xs:List Value} (h:ClipRow w B e v xs) (hk:∀g,v.ownBlock=some g→w'.heap[g]?=w.heap[g]?):ClipRow w' B e v xs:=by
 rcases h with h | ⟨g,cap,cur,rfl,hB,hb,h⟩
 ·exact .inl h
 ·exact .inr ⟨g,cap,cur,rfl,hB,(hk g rfl).trans hb,h⟩
theorem ClipRow.of_own {w:World} {B:Nat} {e:TypeId} {v:Value} {xs:List Value} (h:w.ownsRow B e 1 v xs.length xs):ClipRow w B e v xs:=by
 rcases h.2 with ⟨rfl,h0⟩ | ⟨g,cap,cur,rfl,hB,hb,h1,h2,h3,h4⟩
 ·exact .inl ⟨rfl,List.length_eq_zero_iff.1 h0⟩
 ·exact .inr ⟨g,cap,cur,rfl,hB,hb,h1,by rw[h3];omega,h2,by simpa using h4⟩
theorem ClipRow.clip {w:World} {B:Nat} {e:TypeId} {a:Option Addr} {n c:Nat} {xs:List Value} (h:ClipRow w B e (.slice a n c) xs):n=xs.length∧n≤c∧ClipRow w B e (.slice a n n) xs:=by
 rcases h with ⟨h,rfl⟩ | ⟨g,cap,cur,h,hB,hb,h1,h2,h3,h4⟩
 ·injection h with e1 e2 e3;subst e1 e2 e3;exact ⟨rfl,Nat.le_refl _,.inl ⟨rfl,rfl⟩⟩
 ·injection h with e1 e2 e3;subst e1 e2 e3;exact ⟨rfl,h1,.inr ⟨g,xs.length,cur,rfl,hB,hb,Nat.le_refl _,by omega,by omega,h4⟩⟩
inductive SubL {X:Type} (w:World) (B:Nat) (e:TypeId) (sub:X→List Value):List X→List Value→List Nat→Prop
 | nil:SubL w B e sub [] [] []
 | cons {x:X} {xs:List X} {v:Value} {vs:List Value} {bs:List Nat} (h:ClipRow w B e v (sub x)) (t:SubL w B e sub xs vs bs):SubL w B e sub (x::xs) (v::vs) (v.ownBlock.toList++bs)
def flat {X:Type} (pre:X→List Value):List X→List Value→List Value
 | x::xs,v::vs=>pre x++v::flat pre xs vs
 | _,_=>[]
def RowR {X:Type} (w:World) (B:Nat) (et:TypeId) (m:Nat) (e:TypeId) (pre:X→List Value) (sub:X→List Value) (v:Value) (xs:List X) (bs:List Nat):Prop:=
 ∃vs b1,w.ownsRow B et m v xs.length (flat pre xs vs)∧SubL w B e sub xs vs b1∧bs=v.ownBlock.toList++b1
section
variable {X:Type} {w w':World} {B:Nat} {et e:TypeId} {m:Nat} {pre sub:X→List Value} {xs ys:List X} {vs us:List Value} {bs cs:List Nat} {v:Value}
theorem mem_own {v:Value} {g:Nat}:g∈v.ownBlock.toList↔v.ownBlock=some g:=by cases h:v.ownBlock <;> simp[eq_comm]
theorem own_stay {n k:Nat} {xs:List Value} (h:w.ownsRow B e k v n xs) (hk:∀g,v.ownBlock=some g→w'.heap[g]?=w.heap[g]?):w'.ownsRow B e k v n xs:=
 ⟨h.1,h.2.elim .inl fun ⟨g,cap,cur,hv,h1,h2,h3⟩=>.inr ⟨g,cap,cur,hv,h1,(hk g (by rw[hv];rfl)).trans h2,h3⟩⟩
theorem SubL.len (h:SubL w B e sub xs vs bs):vs.length=xs.length:=by
 induction h with
 | nil=>rfl
 | cons _ _ ih=>simp[ih]
theorem SubL.keep (h:SubL w B e sub xs vs bs) (hk:∀g∈bs,w'.heap[g]?=w.heap[g]?):SubL w' B e sub xs vs bs:=by
 induction h with
 | nil=>exact .nil
 | cons h t ih=>exact .cons (h.stay fun g hg=>hk g (List.mem_append_left _ (mem_own.2 hg))) (ih fun g hg=>hk g (List.mem_append_right _ hg))
theorem SubL.mem (h:SubL w B e sub xs vs bs):∀g∈bs,B≤g∧g<w.heap.size:=by
 induction h with
 | nil=>intro g hg;cases hg
 | cons h t ih=>
  intro g hg;rcases List.mem_append.1 hg with hg | hg
  ·exact h.lt (mem_own.1 hg)
  ·exact ih g hg
theorem SubL.cellsOf (h:SubL w B e sub xs vs bs):∀g∈bs,∃cur,w.heap[g]?=some (.cells cur e (0,0)):=by
 induction h with
 | nil=>intro g hg;cases hg
 | @cons x xs v vs bs h t ih=>
  intro g hg;rcases List.mem_append.1 hg with hg | hg
  ·rcases h with ⟨rfl,_⟩ | ⟨g',cap,cur,rfl,_,hb,_⟩
   ·rw[mem_own] at hg;cases hg
   ·rw[mem_own] at hg;obtain rfl:g'=g:=Option.some.inj hg;exact ⟨cur,hb⟩
  ·exact ih g hg
theorem SubL.append (h:SubL w B e sub xs vs bs) (h2:SubL w B e sub ys us cs):SubL w B e sub (xs++ys) (vs++us) (bs++cs):=by
 induction h with
 | nil=>exact h2
 | cons h t ih=>rw[List.cons_append,List.cons_append,List.append_assoc];exact .cons h ih
theorem flat_append (h:vs.length=xs.length):flat pre (xs++ys) (vs++us)=flat pre xs vs++flat pre ys us:=by
 induction xs generalizing vs with
 | nil=>cases vs with
  | nil=>rfl
  | cons v vs=>simp at h
 | cons x xs ih=>cases vs with
  | nil=>simp at h
  | cons v vs=>simp only[List.cons_append,flat,List.append_assoc];rw[ih (by simpa using h)]
theorem RowR.nil_:RowR w B et m e pre sub (.slice none 0 0) ([]:List X) []:=⟨[],[],World.ownsRow_nil _ _ _ _,.nil,rfl⟩
theorem RowR.mem (h:RowR w B et m e pre sub v xs bs):∀g∈bs,B≤g∧g<w.heap.size:=by
 obtain ⟨vs,b1,h1,h2,rfl⟩:=h;intro g hg;rcases List.mem_append.1 hg with hg | hg
 ·exact h1.lt g (mem_own.1 hg)
 ·exact h2.mem g hg
theorem RowR.keep (h:RowR w B et m e pre sub v xs bs) (hk:∀g∈bs,w'.heap[g]?=w.heap[g]?):RowR w' B et m e pre sub v xs bs:=by
 obtain ⟨vs,b1,h1,h2,rfl⟩:=h;exact ⟨vs,b1,own_stay h1 fun g hg=>hk g (List.mem_append_left _ (mem_own.2 hg)),h2.keep fun g hg=>hk g (List.mem_append_right _ hg),rfl⟩
theorem RowR.more (hne:et≠e) (h:RowR w B et m e pre sub v xs bs):∃vs b1,w.ownsRow B et m v xs.length (flat pre xs vs)∧vs.length=xs.length∧bs=v.ownBlock.toList++b1∧
 ∀(w1:World) (v':Value) (ys:List X) (us:List Value) (cs:List Nat),w.grownBy w1 v.ownBlock→w1.ownsRow B et m v' (xs++ys).length (flat pre xs vs++flat pre ys us)→SubL w1 B e sub ys us cs→RowR w1 B et m e pre sub v' (xs++ys) (v'.ownBlock.toList++(b1++cs)):=by
 obtain ⟨vs,b1,h1,h2,rfl⟩:=h;refine ⟨vs,b1,h1,h2.len,rfl,fun w1 v' ys us cs hg ho hs=>⟨vs++us,b1++cs,by rw[flat_append h2.len];exact ho,(h2.keep fun g hg'=>?_).append hs,rfl⟩⟩;refine hg.block g (h2.mem g hg').2 fun e'=>?_;obtain ⟨cur,hc⟩:=h2.cellsOf g hg'
 rcases h1.2 with ⟨rfl,_⟩ | ⟨g',cap,cur',rfl,_,hb,_⟩
 ·cases e'
 ·obtain rfl:g=g':=Option.some.inj e';rw[hc] at hb;injection hb with hb;injection hb with _ hb;exact hne hb.symm
end
end Go.Proofs.YtigfcihakghddaaGreatDoor.BufT
end
section
namespace FoldP
def inB (r lo hi:Int):Bool:=decide (lo≤r) && decide (r≤hi)
def amongB (r:Int):List Int→Bool
 | a::b::l=>inB r a b || amongB r l
 | _=>false
def low1:List Int:=[0x41,0x5A,0xC0,0xD6,0xD8,0xDE,0x391,0x3A1,0x3A3,0x3AB,0x410,0x42F]
def low2:List Int:=[0x100,0x12F,0x132,0x137,0x14A,0x177,0x460,0x481,0x48A,0x4BF,0x4D0,0x52F]
def low3:List Int:=[0x139,0x148,0x179,0x17E,0x4C1,0x4CE]
def lowerF (r:Int):Int:=
 if amongB r low1 then r+0x20
 else if amongB r low2 then r - r % 2+1
 else if amongB r low3 then r+r % 2
 else if inB r 0x388 0x38A then r+0x25
 else if inB r 0x38E 0x38F then r+0x3F
 else if inB r 0x400 0x40F then r+0x50
 else if r=0x178 then 0xFF
 else if r=0x4C0 then 0x4CF
 else if r=0x386 then 0x3AC
 else if r=0x38C then 0x3CC
 else r
def letters:List Int:=[0x41,0x5A,0x61,0x7A,0xAA,0xAA,0xB5,0xB5,0xBA,0xBA,0xC0,0xD6,0xD8,0xF6,0xF8,0x2AF,0x370,0x373,0x376,0x377,0x37B,0x37D,0x37F,0x37F,0x386,0x386,0x388,0x38A,0x38C,0x38C,0x38E,0x3A1,0x3A3,0x3F5,0x3F7,0x481,0x48A,0x52F,0x5D0,0x5EA,0x620,0x64A,0x904,0x939,0x3041,0x3096,0x30A1,0x30FA,0x4E00,0x9FFF,0xAC00,0xD7A3]
def digits:List Int:=[0x30,0x39,0x660,0x669,0x966,0x96F,0xFF10,0xFF19]
def marks:List Int:=[0x300,0x36F,0x483,0x489,0x591,0x5BD,0x64B,0x65F,0x93C,0x93C,0x20D0,0x20F0,0xFE20,0xFE2F]
def letterF (r:Int):Bool:=amongB r letters
def digitF (r:Int):Bool:=amongB r digits
def markF (r:Int):Bool:=amongB r marks
theorem inB_true {r lo hi:Int}:inB r lo hi=true↔lo≤r∧r≤hi:=by simp[inB]
theorem inB_false {r lo hi:Int}:inB r lo hi=false↔¬(lo≤r∧r≤hi):=by simp[inB]
theorem lowerF_eq (r:Int):lowerF r =
 if (0x41≤r∧r≤0x5A)∨(0xC0≤r∧r≤0xD6)∨(0xD8≤r∧r≤0xDE)∨(0x391≤r∧r≤0x3A1)∨(0x3A3≤r∧r≤0x3AB)∨(0x410≤r∧r≤0x42F) then r+0x20
 else if (0x100≤r∧r≤0x12F)∨(0x132≤r∧r≤0x137)∨(0x14A≤r∧r≤0x177)∨(0x460≤r∧r≤0x481)∨(0x48A≤r∧r≤0x4BF)∨(0x4D0≤r∧r≤0x52F) then r - r % 2+1
 else if (0x139≤r∧r≤0x148)∨(0x179≤r∧r≤0x17E)∨(0x4C1≤r∧r≤0x4CE) then r+r % 2
 else if 0x388≤r∧r≤0x38A then r+0x25
 else if 0x38E≤r∧r≤0x38F then r+0x3F
 else if 0x400≤r∧r≤0x40F then r+0x50
 else if r=0x178 then 0xFF
 else if r=0x4C0 then 0x4CF
 else if r=0x386 then 0x3AC
 else if r=0x38C then 0x3CC
 else r:=by
 unfold lowerF;simp only[amongB,low1,low2,low3,inB,Bool.or_eq_true,Bool.and_eq_true,decide_eq_true_eq,Bool.false_eq_true,or_false]
def stepF (r odd:Int):Int:=if r % 2=odd then r+1 else r
def isA (r:Int):Prop:=(0x41≤r∧r≤0x5A)∨(0xC0≤r∧r≤0xD6)∨(0xD8≤r∧r≤0xDE)∨(0x391≤r∧r≤0x3A1)∨(0x3A3≤r∧r≤0x3AB)∨(0x410≤r∧r≤0x42F)
def isB (r:Int):Prop:=(0x100≤r∧r≤0x12F)∨(0x132≤r∧r≤0x137)∨(0x14A≤r∧r≤0x177)∨(0x460≤r∧r≤0x481)∨(0x48A≤r∧r≤0x4BF)∨(0x4D0≤r∧r≤0x52F)
def isC (r:Int):Prop:=(0x139≤r∧r≤0x148)∨(0x179≤r∧r≤0x17E)∨(0x4C1≤r∧r≤0x4CE)
theorem low_A (r:Int) (h:isA r):r+0x20=lowerF r:=by
 simp only[isA] at *;rw[lowerF_eq,if_pos h]
theorem low_B (r:Int) (h:isB r):stepF r 0=lowerF r:=by
 have a:¬isA r:=by unfold isA isB at *;omega
 simp only[isA,isB] at *;rw[lowerF_eq,if_neg a,if_pos h,stepF];split <;> omega
theorem low_C (r:Int) (h:isC r):stepF r 1=lowerF r:=by
 have a:¬isA r:=by unfold isA isC at *;omega
 have b:¬isB r:=by unfold isB isC at *;omega
 simp only[isA,isB,isC] at *;rw[lowerF_eq,if_neg a,if_neg b,if_pos h,stepF];split <;> omega
theorem low_D (r:Int) (h:0x388≤r∧r≤0x38A):r+0x25=lowerF r:=by
 have a:¬isA r:=by unfold isA;omega
 have b:¬isB r:=by unfold isB;omega
 have c:¬isC r:=by unfold isC;omega
 simp only[isA,isB,isC] at *;rw[lowerF_eq,if_neg a,if_neg b,if_neg c,if_pos h]
theorem low_E (r:Int) (h:0x38E≤r∧r≤0x38F):r+0x3F=lowerF r:=by
 have a:¬isA r:=by unfold isA;omega
 have b:¬isB r:=by unfold isB;omega
 have c:¬isC r:=by unfold isC;omega
 simp only[isA,isB,isC] at *;rw[lowerF_eq,if_neg a,if_neg b,if_neg c,if_neg (by omega),if_pos h]
theorem low_F (r:Int) (h:0x400≤r∧r≤0x40F):r+0x50=lowerF r:=by
 have a:¬isA r:=by unfold isA;omega
 have b:¬isB r:=by unfold isB;omega
 have c:¬isC r:=by unfold isC;omega
 simp only[isA,isB,isC] at *;rw[lowerF_eq,if_neg a,if_neg b,if_neg c,if_neg (by omega),if_neg (by omega),if_pos h]
theorem low_178:lowerF 0x178=0xFF:=by decide
theorem low_4C0:lowerF 0x4C0=0x4CF:=by decide
theorem low_386:lowerF 0x386=0x3AC:=by decide
theorem low_38C:lowerF 0x38C=0x3CC:=by decide
theorem low_id (r:Int) (a:¬isA r) (b:¬isB r) (c:¬isC r) (d:¬(0x388≤r∧r≤0x38A)) (e:¬(0x38E≤r∧r≤0x38F)) (f:¬(0x400≤r∧r≤0x40F))
 (g1:¬r=0x178) (g2:¬r=0x4C0) (g3:¬r=0x386) (g4:¬r=0x38C):r=lowerF r:=by
 simp only[isA,isB,isC] at *;rw[lowerF_eq,if_neg a,if_neg b,if_neg c,if_neg d,if_neg e,if_neg f,if_neg g1,if_neg g2,if_neg g3,if_neg g4]
def isLetter (r:Int):Prop:=(0x41≤r∧r≤0x5A)∨(0x61≤r∧r≤0x7A)∨(0xAA≤r∧r≤0xAA)∨(0xB5≤r∧r≤0xB5)∨(0xBA≤r∧r≤0xBA)∨(0xC0≤r∧r≤0xD6)∨(0xD8≤r∧r≤0xF6)∨(0xF8≤r∧r≤0x2AF)∨(0x370≤r∧r≤0x373)∨(0x376≤r∧r≤0x377)∨(0x37B≤r∧r≤0x37D)∨(0x37F≤r∧r≤0x37F)∨(0x386≤r∧r≤0x386)∨(0x388≤r∧r≤0x38A)∨(0x38C≤r∧r≤0x38C)∨(0x38E≤r∧r≤0x3A1)∨(0x3A3≤r∧r≤0x3F5)∨(0x3F7≤r∧r≤0x481)∨(0x48A≤r∧r≤0x52F)∨(0x5D0≤r∧r≤0x5EA)∨(0x620≤r∧r≤0x64A)∨(0x904≤r∧r≤0x939)∨(0x3041≤r∧r≤0x3096)∨(0x30A1≤r∧r≤0x30FA)∨(0x4E00≤r∧r≤0x9FFF)∨(0xAC00≤r∧r≤0xD7A3)
theorem letter_iff (r:Int):letterF r=true↔isLetter r:=by
 unfold letterF isLetter;simp only[amongB,letters,inB,Bool.or_eq_true,Bool.and_eq_true,decide_eq_true_eq,Bool.false_eq_true,or_false]
theorem letter_true (r:Int) (h:isLetter r):letterF r=true:=(letter_iff r).2 h
theorem letter_false (r:Int) (h:¬isLetter r):letterF r=false:=by
 cases e:letterF r
 ·rfl
 ·exact absurd ((letter_iff r).1 e) h
def isDigit (r:Int):Prop:=(0x30≤r∧r≤0x39)∨(0x660≤r∧r≤0x669)∨(0x966≤r∧r≤0x96F)∨(0xFF10≤r∧r≤0xFF19)
theorem digit_iff (r:Int):digitF r=true↔isDigit r:=by
 unfold digitF isDigit;simp only[amongB,digits,inB,Bool.or_eq_true,Bool.and_eq_true,decide_eq_true_eq,Bool.false_eq_true,or_false]
theorem digit_true (r:Int) (h:isDigit r):digitF r=true:=(digit_iff r).2 h
theorem digit_false (r:Int) (h:¬isDigit r):digitF r=false:=by
 cases e:digitF r
 ·rfl
 ·exact absurd ((digit_iff r).1 e) h
def isMark (r:Int):Prop:=(0x300≤r∧r≤0x36F)∨(0x483≤r∧r≤0x489)∨(0x591≤r∧r≤0x5BD)∨(0x64B≤r∧r≤0x65F)∨(0x93C≤r∧r≤0x93C)∨(0x20D0≤r∧r≤0x20F0)∨(0xFE20≤r∧r≤0xFE2F)
theorem mark_iff (r:Int):markF r=true↔isMark r:=by
 unfold markF isMark;simp only[amongB,marks,inB,Bool.or_eq_true,Bool.and_eq_true,decide_eq_true_eq,Bool.false_eq_true,or_false]
theorem mark_true (r:Int) (h:isMark r):markF r=true:=(mark_iff r).2 h
theorem mark_false (r:Int) (h:¬isMark r):markF r=false:=by
 cases e:markF r
 ·rfl
 ·exact absurd ((mark_iff r).1 e) h
end FoldP
end
section
namespace FoldP
open Go.Lib Go
def odd:Nat × Nat:=(65533,1)
def acc (l:List UInt8) (r0:Int):Nat→Int
 | 0=>r0
 | k+1=>acc l r0 k*64+((l.getD (k+1) 0).toNat % 64:Nat)
def nextF (l:List UInt8) (at_:Int):Int × Int:=
 if 0≤at_∧at_<l.length then (((decodeL (l.drop at_.toNat)).1:Int),((decodeL (l.drop at_.toNat)).2:Int)) else (0,0)
end FoldP
end
section
namespace FoldP
open Go.Lib Go
def runesGo:Nat→Nat→List UInt8→List (Nat × Int)
 | 0,_,_=>[]
 | f+1,p,l=>if l=[] then [] else (p,((decodeL l).1:Int))::runesGo f (p+(decodeL l).2) (l.drop (decodeL l).2)
def runesFrom (p:Nat) (l:List UInt8):List (Nat × Int):=runesGo l.length p l
def runesL (l:List UInt8):List (Nat × Int):=runesFrom 0 l
theorem runesGo_nil:∀f p,runesGo f p []=[]
 | 0,_=>rfl
 | _+1,_=>by simp[runesGo]
theorem runesGo_fuel:∀(n m p:Nat) (l:List UInt8),l.length≤n→l.length≤m→runesGo n p l=runesGo m p l
 | 0,m,p,l,hn,_=>by have:l=[]:=List.eq_nil_of_length_eq_zero (by omega);subst this;rw[runesGo_nil,runesGo_nil]
 | n+1,0,p,l,_,hm=>by have:l=[]:=List.eq_nil_of_length_eq_zero (by omega);subst this;rw[runesGo_nil,runesGo_nil]
 | n+1,m+1,p,l,hn,hm=>by
  by_cases hne:l=[]
  ·subst hne;rw[runesGo_nil,runesGo_nil]
  ·have hw:=decodeL_width l;have hl:0<l.length:=List.length_pos_iff.2 hne;simp only[runesGo,if_neg hne];rw[runesGo_fuel n m _ _ (by rw[List.length_drop];omega) (by rw[List.length_drop];omega)]
theorem runesFrom_step (p:Nat) (l:List UInt8) (hne:l≠[]):runesFrom p l=(p,((decodeL l).1:Int))::runesFrom (p+(decodeL l).2) (l.drop (decodeL l).2):=by
 have hw:=decodeL_width l;have hl:0<l.length:=List.length_pos_iff.2 hne;unfold runesFrom
 obtain ⟨n,hn⟩:∃n,l.length=n+1:=⟨l.length - 1,by omega⟩
 rw[hn];simp only[runesGo,if_neg hne];rw[runesGo_fuel n _ _ _ (by rw[List.length_drop];omega) (Nat.le_refl _)]
theorem runesAt (l:List UInt8) (k:Nat) (h:k<l.length) :
 runesFrom k (l.drop k)=(k,((decodeL (l.drop k)).1:Int))::runesFrom (k+(decodeL (l.drop k)).2) (l.drop (k+(decodeL (l.drop k)).2)):=by
 rw[runesFrom_step _ _ (by intro e;have:=congrArg List.length e;simp at this;omega),List.drop_drop]
theorem runesEnd (l:List UInt8) (k:Nat) (h:l.length≤k):runesFrom k (l.drop k)=[]:=by
 rw[List.drop_eq_nil_of_le h];rfl
theorem step_le (l:List UInt8) (k:Nat) (h:k<l.length):1≤(decodeL (l.drop k)).2∧k+(decodeL (l.drop k)).2≤l.length:=by
 have hne:l.drop k≠[]:=by intro e;have:=congrArg List.length e;simp at this;omega
 have h1:=decodeL_le _ hne;rw[List.length_drop] at h1;exact ⟨decodeL_width _,by omega⟩
theorem runesFrom_mem (l:List UInt8):∀(f k:Nat),l.length - k≤f→∀x∈runesFrom k (l.drop k),k≤x.1∧x.1<l.length∧x.2=((decodeL (l.drop x.1)).1:Int)
 | 0,k,hf,x,hx=>by rw[runesEnd l k (by omega)] at hx;cases hx
 | f+1,k,hf,x,hx=>by
  by_cases h:k<l.length
  ·rw[runesAt l k h] at hx;have hs:=step_le l k h;rcases List.mem_cons.1 hx with rfl | hx
   ·exact ⟨Nat.le_refl _,h,rfl⟩
   ·have:=runesFrom_mem l f _ (by omega) x hx;exact ⟨by omega,this.2⟩
  ·rw[runesEnd l k (by omega)] at hx;cases hx
theorem runesL_mem {l:List UInt8} {x:Nat × Int} (h:x∈runesL l):x.1<l.length∧x.2=((decodeL (l.drop x.1)).1:Int):=by
 have:=runesFrom_mem l l.length 0 (by omega) x (by simpa [runesL] using h);exact this.2
theorem runesFrom_length (l:List UInt8):∀(f k:Nat),l.length - k≤f→(runesFrom k (l.drop k)).length≤l.length - k
 | 0,k,hf=>by rw[runesEnd l k (by omega)];simp
 | f+1,k,hf=>by
  by_cases h:k<l.length
  ·rw[runesAt l k h];have hs:=step_le l k h;have:=runesFrom_length l f (k+(decodeL (l.drop k)).2) (by omega);simp only[List.length_cons];omega
  ·rw[runesEnd l k (by omega)];simp
theorem runesL_length (l:List UInt8):(runesL l).length≤l.length:=by
 have:=runesFrom_length l l.length 0 (by omega);simpa [runesL] using this
def foldGo:Nat→List UInt8→List UInt8
 | 0,_=>[]
 | f+1,l=>if l=[] then [] else (if lowerF (decodeL l).1=(decodeL l).1 then l.take (decodeL l).2 else encodeRune (lowerF (decodeL l).1))++foldGo f (l.drop (decodeL l).2)
def foldL (l:List UInt8):List UInt8:=foldGo l.length l
theorem foldGo_nil:∀f,foldGo f []=[]
 | 0=>rfl
 | _+1=>by simp[foldGo]
theorem foldGo_fuel:∀(n m:Nat) (l:List UInt8),l.length≤n→l.length≤m→foldGo n l=foldGo m l
 | 0,m,l,hn,_=>by have:l=[]:=List.eq_nil_of_length_eq_zero (by omega);subst this;rw[foldGo_nil,foldGo_nil]
 | n+1,0,l,_,hm=>by have:l=[]:=List.eq_nil_of_length_eq_zero (by omega);subst this;rw[foldGo_nil,foldGo_nil]
 | n+1,m+1,l,hn,hm=>by
  by_cases hne:l=[]
  ·subst hne;rw[foldGo_nil,foldGo_nil]
  ·have hw:=decodeL_width l;have hl:0<l.length:=List.length_pos_iff.2 hne;simp only[foldGo,if_neg hne];rw[foldGo_fuel n m _ (by rw[List.length_drop];omega) (by rw[List.length_drop];omega)]
def piece (l:List UInt8):List UInt8:=if lowerF (decodeL l).1=(decodeL l).1 then l.take (decodeL l).2 else encodeRune (lowerF (decodeL l).1)
theorem foldL_step (l:List UInt8) (hne:l≠[]):foldL l=piece l++foldL (l.drop (decodeL l).2):=by
 have hw:=decodeL_width l;have hl:0<l.length:=List.length_pos_iff.2 hne;unfold foldL piece
 obtain ⟨n,hn⟩:∃n,l.length=n+1:=⟨l.length - 1,by omega⟩
 rw[hn];simp only[foldGo,if_neg hne];rw[foldGo_fuel n _ _ (by rw[List.length_drop];omega) (Nat.le_refl _)]
theorem foldAt (l:List UInt8) (k:Nat) (h:k<l.length):foldL (l.drop k)=piece (l.drop k)++foldL (l.drop (k+(decodeL (l.drop k)).2)):=by
 rw[foldL_step _ (by intro e;have:=congrArg List.length e;simp at this;omega),List.drop_drop]
theorem foldEnd (l:List UInt8) (k:Nat) (h:l.length≤k):foldL (l.drop k)=[]:=by rw[List.drop_eq_nil_of_le h];rfl
theorem lower_moves (r:Int) (h0:0≤r) (h:lowerF r≠r):(r<128∧0≤lowerF r∧lowerF r<128)∨(128≤r∧r<2048∧128≤lowerF r∧lowerF r<2048):=by
 revert h;rw[lowerF_eq];repeat' split
 all_goals (intro h;omega)
theorem dec_width (l:List UInt8) (h:(decodeL l).1≠65533):((decodeL l).1<128→(decodeL l).2=1)∧(128≤(decodeL l).1→(decodeL l).1<2048→(decodeL l).2=2):=by
 have hr:=runeLen_decode l h;unfold runeLen at hr;constructor
 ·intro h1;rw[if_neg (by omega),if_pos (by omega)] at hr;omega
 ·intro h1 h2;rw[if_neg (by omega),if_neg (by omega),if_pos (by omega)] at hr;omega
theorem piece_len (l:List UInt8) (hne:l≠[]):(piece l).length=(decodeL l).2:=by
 have hle:=decodeL_le l hne;unfold piece;by_cases h:lowerF (decodeL l).1=(decodeL l).1
 ·rw[if_pos h,List.length_take];omega
 ·rw[if_neg h];have hm:=lower_moves _ (by omega) h;have hodd:(decodeL l).1≠65533:=by omega
  have hw:=dec_width l hodd;have e:(encodeRune (lowerF ((decodeL l).1:Int))).length=(encodeRuneZ (lowerF ((decodeL l).1:Int))).length:=by simp[encodeRune]
  rw[e];rcases hm with hm | hm
  ·rw[encodeRuneZ_one (by omega) (by omega)];have:=hw.1 (by omega);simp;omega
  ·rw[encodeRuneZ_two (by omega) (by omega)];have:=hw.2 (by omega) (by omega);simp;omega
end FoldP
end
section
namespace AnaP
open Go.Lib Go FoldP
structure TokD where
 text:ByteArray
 pos:Int
 frm:Int
 til:Int
def TokD.cells (t:TokD):List Value:=[.string t.text,.int .i64 t.pos,.int .i64 t.frm,.int .i64 t.til]
def tokCells (l:List TokD):List Value:=l.flatMap TokD.cells
theorem cells_len (t:TokD):t.cells.length=4:=rfl
def posFrom (l:List UInt8) (k:Nat):List Nat:=(runesFrom k (l.drop k)).map (·.1)++[l.length]
def posL (l:List UInt8):List Nat:=posFrom l 0
def nR (l:List UInt8):Nat:=(runesL l).length
theorem posL_len (l:List UInt8):(posL l).length=nR l+1:=by simp[posL,posFrom,nR,runesL]
theorem posFrom_cons (l:List UInt8) (k:Nat) (h:k<l.length):posFrom l k=k::posFrom l (k+(decodeL (l.drop k)).2):=by
 unfold posFrom;rw[runesAt l k h];rfl
theorem posFrom_end (l:List UInt8) (k:Nat) (h:l.length≤k):posFrom l k=[l.length]:=by
 unfold posFrom;rw[runesEnd l k h];rfl
theorem posFrom_zero (l:List UInt8) (k:Nat) (h:k≤l.length):(posFrom l k)[0]?=some k:=by
 rcases Nat.lt_or_ge k l.length with h1 | h1
 ·rw[posFrom_cons l k h1];rfl
 ·rw[posFrom_end l k h1,show k=l.length by omega];rfl
theorem posFrom_next (l:List UInt8):∀(f k:Nat),l.length - k≤f→k≤l.length→∀(i p q:Nat),(posFrom l k)[i]?=some p→(posFrom l k)[i+1]?=some q→p<l.length∧q=p+(decodeL (l.drop p)).2
 | 0,k,hf,hk,i,p,q,h1,h2=>by rw[posFrom_end l k (by omega)] at h2;simp at h2
 | f+1,k,hf,hk,i,p,q,h1,h2=>by
  rcases Nat.lt_or_ge k l.length with h | h
  ·have hs:=step_le l k h;rw[posFrom_cons l k h] at h1 h2
   cases i with
   | zero=>
    simp only[List.getElem?_cons_zero,Option.some.injEq] at h1;rw[List.getElem?_cons_succ,posFrom_zero l _ (by omega)] at h2;simp only[Option.some.injEq] at h2;subst h1;subst h2;exact ⟨h,rfl⟩
   | succ i=>
    rw[List.getElem?_cons_succ] at h1 h2;exact posFrom_next l f _ (by omega) (by omega) i p q h1 h2
  ·rw[posFrom_end l k h] at h2;simp at h2
def posAt (l:List UInt8) (i:Nat):Nat:=(posL l).getD i l.length
theorem posAt_get (l:List UInt8) (i:Nat) (h:i≤nR l):(posL l)[i]?=some (posAt l i):=by
 have hl:i<(posL l).length:=by rw[posL_len];omega
 unfold posAt;rw[List.getD_eq_getElem?_getD,List.getElem?_eq_getElem hl];rfl
theorem posAt_zero (l:List UInt8):posAt l 0=0:=by
 have:=posAt_get l 0 (by omega);rw[posL,posFrom_zero l 0 (by omega)] at this;exact (Option.some.inj this).symm
theorem posAt_end (l:List UInt8):posAt l (nR l)=l.length:=by
 unfold posAt posL posFrom;rw[List.getD_eq_getElem?_getD,List.getElem?_append_right (by simp[nR,runesL])];simp[nR,runesL]
theorem posAt_next (l:List UInt8) (i:Nat) (h:i<nR l):posAt l i<l.length∧posAt l (i+1)=posAt l i+(decodeL (l.drop (posAt l i))).2:=
 posFrom_next l l.length 0 (by omega) (by omega) i _ _ (posAt_get l i (by omega)) (posAt_get l (i+1) (by omega))
theorem posAt_step (l:List UInt8) (i:Nat) (h:i<nR l):posAt l i<posAt l (i+1)∧posAt l (i+1)≤l.length:=by
 obtain ⟨h1,h2⟩:=posAt_next l i h;have:=step_le l _ h1;omega
theorem posAt_le (l:List UInt8) (i:Nat):posAt l i≤l.length:=by
 rcases Nat.lt_or_ge (nR l) i with h | h
 ·unfold posAt;rw[List.getD_eq_getElem?_getD,List.getElem?_eq_none (by rw[posL_len];omega)];simp
 ·cases i with
  | zero=>rw[posAt_zero];omega
  | succ i=>exact (posAt_step l i (by omega)).2
theorem posAt_mono (l:List UInt8) (i j:Nat) (h:i≤j) (hj:j≤nR l):posAt l i≤posAt l j:=by
 induction j with
 | zero=>rw[show i=0 by omega];exact Nat.le_refl _
 | succ j ih=>
  rcases Nat.lt_or_ge j i with h1 | h1
  ·rw[show i=j+1 by omega];exact Nat.le_refl _
  ·exact Nat.le_trans (ih h1 (by omega)) (Nat.le_of_lt (posAt_step l j (by omega)).1)
theorem nR_le (l:List UInt8):nR l≤l.length:=runesL_length l
theorem runes_get (l:List UInt8) (i:Nat) (h:i<nR l):(runesL l)[i]?=some (posAt l i,((decodeL (l.drop (posAt l i))).1:Int)):=by
 have hl:i<(runesL l).length:=h;have h1:=posAt_get l i (by omega);unfold posL posFrom at h1;rw[List.drop_zero,List.getElem?_append_left (by rw[List.length_map];exact hl),List.getElem?_map,show runesFrom 0 l=runesL l from rfl,List.getElem?_eq_getElem hl] at h1;simp only[Option.map_some,Option.some.injEq] at h1;rw[List.getElem?_eq_getElem hl];have h2:=runesL_mem (List.getElem_mem hl);rw[h1] at h2;exact congrArg some (Prod.ext h1 h2.2)
def stopWords:List (List UInt8):=[[97],[97,110],[97,110,100],[97,114,101],[97,115],[97,116],[98,101],[98,117,116],[98,121],[102,111,114],[105,102],[105,110],[105,110,116,111],[105,115],[105,116],[110,111],[110,111,116],[111,102],[111,110],[111,114],[115,117,99,104],[116,104,97,116],[116,104,101],[116,104,101,105,114],[116,104,101,110],[116,104,101,114,101],[116,104,101,115,101],[116,104,101,121],[116,104,105,115],[116,111],[119,97,115],[119,105,108,108],[119,105,116,104]]
def stopF (s:ByteArray):Bool:=stopWords.contains s.data.toList
def gramsF (n:Nat) (s:ByteArray):List ByteArray:=if nR s.data.toList≤n then [s] else (List.range (nR s.data.toList+1 - n)).map fun i=>s.extract (posAt s.data.toList i) (posAt s.data.toList (i+n))
def shortF (s:ByteArray):List ByteArray:=if 16<nR s.data.toList then [s.extract 0 (posAt s.data.toList 16)] else [s]
def unmark1 (l:List UInt8) (i:Nat):List UInt8:=if markF ((decodeL (l.drop (posAt l i))).1:Int) then [] else (l.drop (posAt l i)).take (posAt l (i+1) - posAt l i)
def unmarkTo (l:List UInt8) (n:Nat):List UInt8:=(List.range n).flatMap (unmark1 l)
theorem unmarkTo_succ (l:List UInt8) (n:Nat):unmarkTo l (n+1)=unmarkTo l n++unmark1 l n:=by simp[unmarkTo,List.range_succ,List.flatMap_append]
theorem unmarkTo_len (l:List UInt8):∀n,n≤nR l→(unmarkTo l n).length≤posAt l n
 | 0,_=>by simp[unmarkTo]
 | n+1,h=>by
  rw[unmarkTo_succ,List.length_append];have h1:=unmarkTo_len l n (by omega);have h2:=posAt_step l n (by omega)
  have h3:(unmark1 l n).length≤posAt l (n+1) - posAt l n:=by
   unfold unmark1;split
   ·simp
   ·rw[List.length_take,List.length_drop];omega
  omega
def marksF (s:ByteArray):List ByteArray:=if unmarkTo s.data.toList (nR s.data.toList)=[] then [] else [⟨(unmarkTo s.data.toList (nR s.data.toList)).toArray⟩]
def filterB (n:Int):Bool:=decide (10≤n∧n≤15)
def oneF (n:Int) (s:ByteArray):List ByteArray:=
 if n=10 then [⟨(foldL s.data.toList).toArray⟩] else if n=11 then (if stopF s then [] else [s]) else if n=12 then gramsF 2 s else if n=13 then gramsF 3 s else if n=14 then shortF s else marksF s
def oneT (n:Int) (t:TokD):List TokD:=(oneF n t.text).map fun x=>{ t with text:=x }
def linkGo (n:Int):List TokD→List TokD→Option (List TokD)
 | [],acc=>some acc
 | t::ts,acc=>if 4096<(acc++oneT n t).length then none else linkGo n ts (acc++oneT n t)
def linkF (n:Int) (l:List TokD):Option (List TokD):=linkGo n l []
theorem gramsF_len (n:Nat) (s:ByteArray):(gramsF n s).length≤s.size+1:=by
 have:=nR_le s.data.toList;have e:s.data.toList.length=s.size:=by simp
 unfold gramsF;split <;> simp;omega
theorem oneF_len (n:Int) (s:ByteArray):(oneF n s).length≤s.size+1:=by
 have h1:=gramsF_len 2 s;have h2:=gramsF_len 3 s;unfold oneF shortF marksF;repeat' split
 all_goals first | exact h1 | exact h2 | simp
def blankF (r:Int):Bool:=decide (9≤r∧r≤13) || r == 32 || r == 133 || r == 160 || decide (8192≤r∧r≤8202) || r == 8232 || r == 8233 || r == 12288
end AnaP
end
