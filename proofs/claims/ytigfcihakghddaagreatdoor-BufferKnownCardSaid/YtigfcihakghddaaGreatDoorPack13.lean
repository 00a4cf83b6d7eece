/- Lemmas that the last text leans on. -/
import Derived.Test.YtigfcihakghddaaGreatDoorTake
import Derived.Test.YtigfcihakghddaaGreatDoorPack12
import Derived.Test.YtigfcihakghddaaGreatDoorPack8
import Derived.Test.YtigfcihakghddaaGreatDoorProg
import Derived.Test.YtigfcihakghddaaGreatDoorPack7
import Derived.Test.YtigfcihakghddaaGreatDoorPack3
import Derived.Test.YtigfcihakghddaaGreatDoorWords
import Derived.BigGuardPart
import Derived.Outline
import Derived.Test.YtigfcihakghddaaGreatDoorPack4
import Derived.LoopTactic
set_option linter.all false
set_option maxRecDepth 100000
set_option maxHeartbeats 1000000
section
namespace AnaP
open Go.Lib Go FoldP
theorem tokOf_get (s:ByteArray) (cuts:List (Nat × Nat)) (i:Nat) (h:i<(tokOf s cuts).length):(tokOf s cuts)[i]=tokAt s i (cuts[i]'(by rw[tokOf_len] at h;exact h)):=by
 simp[tokOf]
theorem linkAll_cases:∀(ns:List Int) (t:List TokD),(linkAll ns t).2=0∨linkAll ns t=([],84)
 | [],t=>.inl rfl
 | n::ns,t=>by
  unfold linkAll;split
  ·exact .inr rfl
  ·exact linkAll_cases ns _
theorem linkAll_all {p:List TokD→Prop} (hp:∀n l ts,p l→linkF n l=some ts→p ts):∀(ns:List Int) (t:List TokD),p t→(linkAll ns t).2=0→p (linkAll ns t).1
 | [],t,h,_=>h
 | n::ns,t,h,e=>by
  unfold linkAll at e ⊢;split at e
  ·cases e
  ·rename_i t' he
   exact linkAll_all hp ns _ (hp n t t' h he) e
theorem runF_cases (c:List Int) (s:ByteArray):(runF c s).2=0∨(runF c s).1=[]:=by
 unfold runF;split
 ·exact .inr rfl
 ·split
  ·exact .inr rfl
  ·split
   ·exact .inr rfl
   ·rcases linkAll_cases c.tail (tokensF (c.getD 0 0) s) with h | h
    ·exact .inl h
    ·rw[h];exact .inr rfl
theorem runF_all {p:List TokD→Prop} (hp:∀n l ts,p l→linkF n l=some ts→p ts) (c:List Int) (s:ByteArray) (h0:s.size≤4096→(tokensF (c.getD 0 0) s).length≤4096→p (tokensF (c.getD 0 0) s)) (e:(runF c s).2=0):p (runF c s).1:=by
 unfold runF at e ⊢;split at e
 ·cases e
 ·split at e
  ·cases e
  ·split at e
   ·cases e
   ·rename_i h1 h2 h3
    rw[if_neg h1,if_neg h2,if_neg h3];exact linkAll_all hp _ _ (h0 (by omega) (by omega)) e
theorem runF_len (c:List Int) (s:ByteArray):(runF c s).1.length≤4096:=by
 rcases runF_cases c s with h | h
 ·exact runF_all (p:=fun l=>l.length≤4096) (fun n l ts _ e=>linkF_len4 e) c s (fun _ h=>h) h
 ·rw[h];simp
theorem runF_text (c:List Int) (s:ByteArray):∀t∈(runF c s).1,t.text.size≤4096:=by
 rcases runF_cases c s with h | h
 ·exact runF_all (p:=fun l=>∀t∈l,t.text.size≤4096) (fun n l ts h e=>link_all (p:=fun t=>t.text.size≤4096) (fun t x h1 h2=>by have:=one_size n t.text x h2;exact Nat.le_trans this h1) h e) c s
   (fun h4 _ t ht=>by have:=tokensF_size _ s t ht;omega) h
 ·rw[h];simp
theorem tokens_text (n:Int) (s:ByteArray) (i:Nat) (h:i<(tokensF n s).length):∃a b:Nat,a≤b∧b≤s.size∧(tokensF n s)[i].text=s.extract a b∧(tokensF n s)[i].pos=i∧(tokensF n s)[i].frm=a∧(tokensF n s)[i].til=b:=by
 have hc:=cutF_ok n (runeL s.data.toList);rw[runeL_len] at hc;unfold tokensF at h ⊢;have hi':i<(cutF n (runeL s.data.toList)).length:=by rwa [tokOf_len] at h
 have h2:=hc.1 _ (List.getElem_mem hi');have h3:=posAt_mono s.data.toList _ _ (Nat.le_of_lt h2.1) h2.2;have h4:=posAt_le s.data.toList (cutF n (runeL s.data.toList))[i].2;have e2:s.data.toList.length=s.size:=by simp
 rw[tokOf_get];exact ⟨_,_,h3,by omega,rfl,rfl,rfl,rfl⟩
end AnaP
end
section
namespace SchP
open AnaP
def shiftP (b:Int) (ts:List TokD):List TokD:=ts.map fun t=>{ t with pos:=t.pos+b }
def baseP (out:List TokD):Int:=match out.getLast? with
 | none=>0
 | some t=>t.pos+101
def toksGo (run:ByteArray→List TokD) (field:Int):List TokD→List CT→List TokD
 | out,[]=>out
 | out,c::cs=>toksGo run field (if c.field=field then out++shiftP (baseP out) (run c.text) else out) cs
def runTk (f:FT) (s:ByteArray):List TokD:=(runF f.chain s).1
def toksF (l:List FT) (field:Int) (cs:List CT):List TokD:=
 if checkS l=false∨field<0∨(l.length:Int)≤field then [] else match l[field.toNat]? with
  | none=>[]
  | some f=>if f.kind=1 then toksGo (runTk f) field [] cs else []
theorem runF_pos (c:List Int) (s:ByteArray):∀t∈(runF c s).1,0≤t.pos∧t.pos<4096:=by
 rcases runF_cases c s with h | h
 ·refine runF_all (p:=fun l=>∀t∈l,0≤t.pos∧t.pos<4096) (fun n l ts h e=>link_all (p:=fun t=>0≤t.pos∧t.pos<4096) (fun t x h1 h2=>h1) h e) c s (fun _ hl t ht=>?_) h;obtain ⟨i,hi,rfl⟩:=List.mem_iff_getElem.1 ht;have:=tokens_text (c.getD 0 0) s i hi;obtain ⟨a,b,_,_,_,hp,_,_⟩:=this;rw[hp];omega
 ·rw[h];simp
theorem shiftP_len (b:Int) (ts:List TokD):(shiftP b ts).length=ts.length:=by simp[shiftP]
theorem shiftP_take {b:Int} {ts:List TokD} {j:Nat} (h:j<ts.length):(shiftP b ts).take (j+1)=(shiftP b ts).take j++[{ ts[j] with pos:=ts[j].pos+b }]:=by
 rw[List.take_succ_eq_append_getElem (by rw[shiftP_len];exact h)];simp[shiftP]
theorem toksGo_step {run:ByteArray→List TokD} {field:Int} {out:List TokD} {cs:List CT} {k:Nat} (h:k<cs.length):toksGo run field out (cs.drop k)=toksGo run field (if cs[k].field=field then out++shiftP (baseP out) (run cs[k].text) else out) (cs.drop (k+1)):=by
 rw[List.drop_eq_getElem_cons h];rfl
theorem baseP_cons {out:List TokD} (h:out≠[]):baseP out=(out.getLast h).pos+101:=by
 unfold baseP;rw[List.getLast?_eq_some_getLast h]
theorem baseP_at {out:List TokD} {n:Nat} (h:out.length=n+1):baseP out=(out[n]'(by omega)).pos+101:=by
 have hne:out≠[]:=by intro e;subst e;simp at h
 rw[baseP_cons hne,List.getLast_eq_getElem];congr 3
 omega
structure ToksOk (k:Nat) (out:List TokD):Prop where
 len:out.length≤4096*k
 pos:∀t∈out,0≤t.pos∧t.pos<4200*(k:Int)
 text:∀t∈out,t.text.size≤4096
theorem ToksOk.nil:ToksOk 0 []:=⟨by simp,by simp,by simp⟩
theorem ToksOk.base {k:Nat} {out:List TokD} (h:ToksOk k out):0≤baseP out∧baseP out≤4200*(k:Int)+100:=by
 unfold baseP;split
 ·omega
 ·rename_i t ht
  have:=h.pos t (List.mem_of_getLast? ht);omega
theorem ToksOk.more {k:Nat} {out:List TokD} (h:ToksOk k out):ToksOk (k+1) out:=⟨by have:=h.len;omega,fun t ht=>by have:=h.pos t ht;push_cast;omega,h.text⟩
theorem ToksOk.step {k:Nat} {out:List TokD} (h:ToksOk k out) (c:List Int) (s:ByteArray):ToksOk (k+1) (out++shiftP (baseP out) (runF c s).1):=by
 have hb:out=[]∨baseP out≤4200*(k:Int)+100:=.inr h.base.2;have h0:=h.base.1;refine ⟨?_,?_,?_⟩
 ·have:=runF_len c s;have:=h.len;rw[List.length_append,shiftP_len];omega
 ·intro t ht;rcases List.mem_append.1 ht with ht | ht
  ·have:=h.pos t ht;push_cast;omega
  ·unfold shiftP at ht;obtain ⟨x,hx,rfl⟩:=List.mem_map.1 ht;have:=runF_pos c s x hx;have:=h.base.2;dsimp only;push_cast;omega
 ·intro t ht;rcases List.mem_append.1 ht with ht | ht
  ·exact h.text t ht
  ·unfold shiftP at ht;obtain ⟨x,hx,rfl⟩:=List.mem_map.1 ht;exact runF_text c s x hx
theorem toksGo_ok (f:FT) (field:Int):∀(cs:List CT) (k:Nat) (out:List TokD),ToksOk k out→ToksOk (k+cs.length) (toksGo (runTk f) field out cs)
 | [],k,out,h=>by simpa [toksGo] using h
 | c::cs,k,out,h=>by
  rw[toksGo,List.length_cons,show k+(cs.length+1)=(k+1)+cs.length by omega];refine toksGo_ok f field cs (k+1) _ ?_;split
  ·exact h.step f.chain c.text
  ·exact h.more
theorem toksF_ok (l:List FT) (field:Int) (cs:List CT):ToksOk cs.length (toksF l field cs):=by
 have hn:ToksOk cs.length []:=⟨by simp,by simp,by simp⟩
 unfold toksF;split
 ·exact hn
 ·split
  ·exact hn
  ·split
   ·have:=toksGo_ok ‹_› field cs 0 [] ToksOk.nil;simpa using this
   ·exact hn
theorem toksF_no {l:List FT} {field:Int} (h:checkS l=false∨field<0∨(l.length:Int)≤field) (cs:List CT):toksF l field cs=[]:=by unfold toksF;rw[if_pos h]
theorem toksF_in {l:List FT} {i:Nat} {f:FT} (h:checkS l=true) (hf:l[i]?=some f) (cs:List CT):toksF l i cs=if f.kind=1 then toksGo (runTk f) i [] cs else []:=by
 have hi:=(List.getElem?_eq_some_iff.1 hf).1;unfold toksF;rw[if_neg (by rw[h];simp;omega)];simp only[Int.toNat_natCast,hf]
end SchP
end
section
namespace Go.Proofs.YtigfcihakghddaaGreatDoor.Ana
open Go.RowKit Go.Lib AnaP Words Kit
def PureB (b:Bool) (w:World) (e:Ending) (w':World):Prop:=e = .returned (.bool b)∧w=w'
theorem eql_nilF (w:World):(binOp .eql 190 .nilFunc .nilFunc).run Tryz.prog w = .ok (.bool true) w:=by rfl
theorem eql_fnF (F:Nat) (cap:Array Value) (w:World):(binOp .eql 190 (.func (.func F) #[] cap) .nilFunc).run Tryz.prog w = .ok (.bool false) w:=by rfl
theorem grams_any (n:Int) (w:World):Calls Tryz.prog 141 #[.int .i64 n] w fun e w'=>e = .returned (.func (.func 201) #[] #[.pointer (some ⟨w.heap.size,0,none⟩)])∧w'=w.alloc (.cells #[.int .i64 n] 3):=by
 have hmf:∀(fn:Fn) (first cap:Array Value) (w:World),(Instr.makeFunc fn first cap).run Tryz.prog w = .ok (.func fn first cap) w:=fun _ _ _ _=>rfl;go_enter Tryz.func141,Tryz.ntmps141;go_wp2_with fail;go_ret;exact ⟨rfl,rfl⟩
theorem find_none (n:Int) (w:World) (h:filterB n=false):Calls Tryz.prog 120 #[.int .i64 n] w fun e w'=>e = .returned .nilFunc∧w=w':=by
 have h0:¬(10≤n∧n≤15):=by unfold filterB at h;simpa using h
 have h1:(n == 10)=false:=by rw[beq_eq_false_iff_ne];omega
 have h2:(n == 11)=false:=by rw[beq_eq_false_iff_ne];omega
 have h3:(n == 12)=false:=by rw[beq_eq_false_iff_ne];omega
 have h4:(n == 13)=false:=by rw[beq_eq_false_iff_ne];omega
 have h5:(n == 14)=false:=by rw[beq_eq_false_iff_ne];omega
 have h6:(n == 15)=false:=by rw[beq_eq_false_iff_ne];omega
 clear h h0;go_enter Tryz.func120,Tryz.ntmps120;go_wp2_with fail;go_ret;exact ⟨rfl,rfl⟩
theorem find_10 (w:World):Calls Tryz.prog 120 #[.int .i64 10] w fun e w'=>e = .returned (.func (.func 139) #[] #[])∧w=w':=by
 go_enter Tryz.func120,Tryz.ntmps120;go_wp2_with fail;go_ret;exact ⟨rfl,rfl⟩
theorem find_11 (w:World):Calls Tryz.prog 120 #[.int .i64 11] w fun e w'=>e = .returned (.func (.func 140) #[] #[])∧w=w':=by
 go_enter Tryz.func120,Tryz.ntmps120;go_wp2_with fail;go_ret;exact ⟨rfl,rfl⟩
theorem find_12 (w:World):Calls Tryz.prog 120 #[.int .i64 12] w fun e w'=>e = .returned (.func (.func 201) #[] #[.pointer (some ⟨w.heap.size,0,none⟩)])∧w'=w.alloc (.cells #[.int .i64 2] 3):=by
 go_enter Tryz.func120,Tryz.ntmps120;go_wp2_with fail;refine (grams_any _ _).mono ?_;rintro e w' ⟨rfl,rfl⟩;go_wp2_with fail;go_ret;exact ⟨rfl,rfl⟩
theorem find_13 (w:World):Calls Tryz.prog 120 #[.int .i64 13] w fun e w'=>e = .returned (.func (.func 201) #[] #[.pointer (some ⟨w.heap.size,0,none⟩)])∧w'=w.alloc (.cells #[.int .i64 3] 3):=by
 go_enter Tryz.func120,Tryz.ntmps120;go_wp2_with fail;refine (grams_any _ _).mono ?_;rintro e w' ⟨rfl,rfl⟩;go_wp2_with fail;go_ret;exact ⟨rfl,rfl⟩
theorem find_14 (w:World):Calls Tryz.prog 120 #[.int .i64 14] w fun e w'=>e = .returned (.func (.func 142) #[] #[])∧w=w':=by
 go_enter Tryz.func120,Tryz.ntmps120;go_wp2_with fail;go_ret;exact ⟨rfl,rfl⟩
theorem find_15 (w:World):Calls Tryz.prog 120 #[.int .i64 15] w fun e w'=>e = .returned (.func (.func 143) #[] #[])∧w=w':=by
 go_enter Tryz.func120,Tryz.ntmps120;go_wp2_with fail;go_ret;exact ⟨rfl,rfl⟩
end Go.Proofs.YtigfcihakghddaaGreatDoor.Ana
end
section
namespace Go.Proofs.YtigfcihakghddaaGreatDoor.Ana
open Go.RowKit Go.Lib AnaP Words Tree Kit Owned
def intCells (l:List Int):List Value:=l.map (Value.int .i64)
theorem reads_int {w:World} {B n:Nat} {ao:Option Addr} {xs:List Int} (h:Reads w B 1 ao n (intCells xs)) (hn:n=xs.length) {k:Nat} (hk:k<xs.length):∃ad,ao=some ad∧ad.block<B∧w.cell? (ad.add k)=some (.int .i64 xs[k]):=by
 obtain ⟨ad,e,hb,hc⟩:=h.2 (by omega);exact ⟨ad,e,hb,hc k _ (by simp[intCells,hk])⟩
theorem mem_take_succ {l:List Int} {k:Nat} {v:Int} (h:k<l.length):v∈l.take (k+1)↔v∈l.take k∨v=l[k]:=by
 rw[List.take_succ_eq_append_getElem h,List.mem_append,List.mem_singleton]
def IdxRet (l:List Int) (v:Int) (w:World) (e:Ending) (w':World):Prop:=∃i:Int,e = .returned (.int .i64 i)∧w=w'∧(0≤i↔v∈l)
theorem index_any (ao:Option Addr) (c:Nat) (l:List Int) (v:Int) (w:World) (hk:Reads w w.heap.size 1 ao l.length (intCells l)) (hl:l.length≤maxLen) :
 Calls Tryz.prog 144 #[.slice ao l.length c,.int .i64 v] w (IdxRet l v w):=by
 unfold maxLen at hl;have HK:=hX hk;clear hk;go_enter Tryz.func144,Tryz.ntmps144;go_wp2_with fail;go_loop [5,8] (fun _ i=>∃k:Nat,k≤l.length∧i = .int .i64 k∧Hid (v∉l.take k)) (fun _ i=>l.length - (RowKit.intOf i).toNat)
 case atStart=>exact ⟨0,by omega,rfl,hX (by simp)⟩
 case round=>
  obtain ⟨k,hkk,rfl,HV⟩:=hrel;by_cases hlt:k<l.length
  ·obtain ⟨ad,rfl,hba,hc⟩:=reads_int HK.out rfl hlt;have HM:Hid (v∈l.take (k+1)↔v∈l.take k∨v=l[k]):=hX (mem_take_succ hlt);have HM2:Hid (l[k]∈l):=hX (List.getElem_mem hlt);generalize l[k]=x at *;by_cases he:v=x
   ·subst he;have hb:(v == v)=true:=by simp
    go_wp2_with fail;go_ret;exact ⟨_,rfl,rfl,⟨fun _=>HM2.out,fun _=>by omega⟩⟩
   ·have hb:(v == x)=false:=by rw[beq_eq_false_iff_ne];exact he
    have HN:Hid (v∉l.take (k+1)):=hX (fun h=>(HM.out.1 h).elim HV.out he);clear he;go_wp2_with fail;go_round
    case rel=>exact ⟨k+1,by omega,by go_num,HN⟩
    case measure=>simp[RowKit.intOf];omega
  ·obtain rfl:k=l.length:=by omega
   have HN:Hid (v∉l):=hX (by have:=HV.out;rwa [List.take_of_length_le (Nat.le_refl _)] at this);go_wp2_with fail;go_ret;exact ⟨_,rfl,rfl,⟨fun h=>by omega,fun h=>absurd h HN.out⟩⟩
theorem contains_any (ao:Option Addr) (n c:Nat) (l:List Int) (v:Int) (w:World) (hn:n=l.length) (hk:Reads w w.heap.size 1 ao n (intCells l)) (hl:n≤maxLen) (b:Bool) (hb:l.contains v=b) :
 Calls Tryz.prog 121 #[.slice ao n c,.int .i64 v] w (PureB b w):=by
 subst hn;have HC:=hX (index_any ao c l v w hk hl);have HB:=hX hb;clear hk hb;go_enter Tryz.func121,Tryz.ntmps121;go_wp2_with fail;refine HC.out.mono ?_;rintro e w' ⟨i,rfl,rfl,hi⟩;have HI:=hX hi;clear hi;go_wp2_with fail;go_ret;refine ⟨ret_bool ?_,rfl⟩;rw[←HB.out,Bool.eq_iff_iff,List.contains_iff_mem,←HI.out];simp
def FoundRet (b:Bool) (w:World) (e:Ending) (w':World):Prop:=
 (b=false∧e = .returned .nilFunc∧w=w')∨(b=true∧∃F cap,e = .returned (.func (.func F) #[] cap)∧Below w.heap.size w w')
theorem find_any (n:Int) (w:World):Calls Tryz.prog 120 #[.int .i64 n] w (FoundRet (filterB n) w):=by
 cases hf:filterB n with
 | false=>exact (find_none n w hf).mono fun e w' ⟨h1,h2⟩=>.inl ⟨rfl,h1,h2⟩
 | true=>
  rw[filterB_iff] at hf;rcases (show n=10∨n=11∨n=12∨n=13∨n=14∨n=15 by omega) with rfl | rfl | rfl | rfl | rfl | rfl
  ·exact (find_10 w).mono fun e w' ⟨h1,h2⟩=>.inr ⟨rfl,_,_,h1,by subst h2;exact Below.refl _ _⟩
  ·exact (find_11 w).mono fun e w' ⟨h1,h2⟩=>.inr ⟨rfl,_,_,h1,by subst h2;exact Below.refl _ _⟩
  ·exact (find_12 w).mono fun e w' ⟨h1,h2⟩=>.inr ⟨rfl,_,_,h1,by subst h2;exact (Below.refl _ _).alloc (Nat.le_refl _) _⟩
  ·exact (find_13 w).mono fun e w' ⟨h1,h2⟩=>.inr ⟨rfl,_,_,h1,by subst h2;exact (Below.refl _ _).alloc (Nat.le_refl _) _⟩
  ·exact (find_14 w).mono fun e w' ⟨h1,h2⟩=>.inr ⟨rfl,_,_,h1,by subst h2;exact Below.refl _ _⟩
  ·exact (find_15 w).mono fun e w' ⟨h1,h2⟩=>.inr ⟨rfl,_,_,h1,by subst h2;exact Below.refl _ _⟩
def IntB (k:Int) (w:World) (e:Ending) (w':World):Prop:=e = .returned (.int .i64 k)∧Below w.heap.size w w'
def errOf (b:Bool):Int:=if b then 0 else 60
theorem checkGo_step {t:List Int} {k:Nat} (h:k<t.length):checkGo (t.take k) (t.drop k)=(filterB t[k] && !(t.take k).contains t[k] && checkGo (t.take (k+1)) (t.drop (k+1))):=by
 rw[List.drop_eq_getElem_cons h,checkGo,List.take_succ_eq_append_getElem h]
theorem check_bad (l:List Int) (h:¬(1≤l.length∧l.length≤8∧1≤l.getD 0 0∧l.getD 0 0≤4)):checkB l=false:=by
 cases l with
 | nil=>rfl
 | cons a t=>
  simp only[List.length_cons,List.getD_cons_zero] at h;simp only[checkB,Bool.and_eq_false_iff,decide_eq_false_iff_not];omega
theorem check_good (l:List Int) (h1:1≤l.length) (h2:l.length≤8) (h3:1≤l.getD 0 0) (h4:l.getD 0 0≤4):checkB l=checkGo [] (l.drop 1):=by
 cases l with
 | nil=>simp at h1
 | cons a t=>
  simp only[List.length_cons,List.getD_cons_zero] at *;simp only[checkB,List.drop_succ_cons,List.drop_zero];rw[decide_eq_true (by omega),decide_eq_true h3,decide_eq_true h4];rfl
theorem check_nil (ao:Option Addr) (c:Nat) (w:World):Calls Tryz.prog 101 #[.slice ao 0 c] w (IntB 60 w):=by
 go_enter Tryz.func101,Tryz.ntmps101;go_wp2_with fail;go_ret;exact ⟨rfl,Below.refl _ _⟩
theorem check_long (ao:Option Addr) (n c:Nat) (w:World) (h1:8<n) (hm:n≤9223372036854775807):Calls Tryz.prog 101 #[.slice ao n c] w (IntB 60 w):=by
 have a1:decide ((n:Int)<1)=false:=by rw[decide_eq_false_iff_not];omega
 have a2:decide ((8:Int)<n)=true:=by rw[decide_eq_true_iff];omega
 go_enter Tryz.func101,Tryz.ntmps101;go_wp2_with fail;go_ret;exact ⟨rfl,Below.refl _ _⟩
theorem check_first (ad:Addr) (n c:Nat) (a:Int) (w:World) (h0:1≤n) (h1:n≤8) (ha:a<1∨4<a) (hc:w.cell? ad=some (.int .i64 a)):Calls Tryz.prog 101 #[.slice (some ad) n c] w (IntB 60 w):=by
 have a1:decide ((n:Int)<1)=false:=by rw[decide_eq_false_iff_not];omega
 have a2:decide ((8:Int)<n)=false:=by rw[decide_eq_false_iff_not];omega
 rcases ha with ha | ha
 ·have a3:decide (a<1)=true:=by rw[decide_eq_true_iff];omega
  go_enter Tryz.func101,Tryz.ntmps101;go_wp2_with fail;go_ret;exact ⟨rfl,Below.refl _ _⟩
 ·have a3:decide (a<1)=false:=by rw[decide_eq_false_iff_not];omega
  have a4:decide (4<a)=true:=by rw[decide_eq_true_iff];omega
  go_enter Tryz.func101,Tryz.ntmps101;go_wp2_with fail;go_ret;exact ⟨rfl,Below.refl _ _⟩
theorem check_one (ad:Addr) (c:Nat) (a:Int) (w:World) (hc0:1≤c) (ha:1≤a) (ha4:a≤4) (hm:c≤9223372036854775807) (hc:w.cell? ad=some (.int .i64 a)):Calls Tryz.prog 101 #[.slice (some ad) 1 c] w (IntB 0 w):=by
 have a3:decide (a<1)=false:=by rw[decide_eq_false_iff_not];omega
 have a4:decide (4<a)=false:=by rw[decide_eq_false_iff_not];omega
 rcases (show c=1∨2≤c by omega) with rfl | h2
 ·go_enter Tryz.func101,Tryz.ntmps101;go_wp2_with fail;go_loop [28] (fun i=>i = .int .i64 0) (fun _=>0)
  case atStart=>rfl
  case round=>
   subst hrel;go_wp2_with fail;go_ret;exact ⟨rfl,Below.refl _ _⟩
 ·go_enter Tryz.func101,Tryz.ntmps101;go_wp2_with fail;go_loop [28] (fun i=>i = .int .i64 0) (fun _=>0)
  case atStart=>rfl
  case round=>
   subst hrel;go_wp2_with fail;go_ret;exact ⟨rfl,Below.refl _ _⟩
theorem add_pos (ad:Addr) {j:Nat} (h:j≠0):ad.add j=⟨ad.block,ad.off+j,none⟩:=by unfold Addr.add;rw[if_neg h]
theorem eql_fn2 (F:Nat) (cap:Array Value) (w:World):(binOp .eql 190 (.func (.func F) #[] cap) .nilFunc).run Tryz.prog w = .ok (.bool false) w:=by rfl
theorem check_more (ad:Addr) (c:Nat) (a:Int) (t:List Int) (w:World) (h1:1≤t.length) (h7:t.length≤7) (hc0:t.length+1≤c) (hm:c≤9223372036854775807) (ha:1≤a) (ha4:a≤4) (hb:ad.block<w.heap.size) (hc:w.cell? ad=some (.int .i64 a)) (hr:∀(j:Nat) (v:Int),t[j]?=some v→w.cell? (ad.add (1+j))=some (.int .i64 v)) :
 Calls Tryz.prog 101 #[.slice (some ad) (t.length+1) c] w (IntB (errOf (checkGo [] t)) w):=by
 obtain ⟨r,hR⟩:∃r,checkGo [] t=r:=⟨_,rfl⟩
 have HR:Hid (checkGo (t.take 0) (t.drop 0)=r):=hX hR;have HC:=hX hr;rw[hR]
 have HRD:Hid (∀(k:Nat) (W:World),k≤t.length→Below w.heap.size w W→Reads W W.heap.size 1 (some ⟨ad.block,ad.off+1,none⟩) k (intCells (t.take k))):=hX (fun k W hk hW=>by
  rw[←add_pos ad (j:=1) (by omega)]
  exact ⟨by simp[intCells,hk],fun _=>⟨ad.add 1,rfl,by rw[block_of_add];have:=hW.size;omega,fun j u hu=>by
  simp only[intCells,List.map_take,List.getElem?_take,List.getElem?_map] at hu;split at hu
  ·cases htj:t[j]? with
   | none=>rw[htj] at hu;cases hu
   | some v=>
    rw[htj] at hu;cases hu;rw[add_of_add];exact (hW.cell (by rw[block_of_add];exact hb)).trans (HC.out j v htj)
  ·cases hu⟩⟩)
 clear hr hR
 obtain ⟨n,hn⟩:∃n,n=t.length+1:=⟨_,rfl⟩
 have a1:decide ((n:Int)<1)=false:=by rw[decide_eq_false_iff_not];omega
 have a2:decide ((8:Int)<n)=false:=by rw[decide_eq_false_iff_not];omega
 have a3:decide (a<1)=false:=by rw[decide_eq_false_iff_not];omega
 have a4:decide (4<a)=false:=by rw[decide_eq_false_iff_not];omega
 have a5:(c == 1)=false:=by rw[beq_eq_false_iff_ne];omega
 have a6:¬c=1:=by omega
 have hq1:=eql_nilF;have hq2:=eql_fn2;rw[←hn];have HN:=hX hn;clear hn;have hn1:2≤n:=by have:=HN.out;omega
 have hnc:n≤c:=by have:=HN.out;omega
 go_enter Tryz.func101,Tryz.ntmps101;go_wp2_with fail;go_loopw [3,4,28] (fun _ _ i wr=>∃k:Nat,k≤t.length∧i = .int .i64 k∧Hid (checkGo (t.take k) (t.drop k)=r)∧Hid (Below w.heap.size w wr)) (fun _ _ i _=>t.length - (RowKit.intOf i).toNat);case atStart=>exact ⟨0,by omega,rfl,HR,hX (Below.refl _ _)⟩
 case round=>
  obtain ⟨k,hk,rfl,HE,HW⟩:=hrel;have hN1:n≤t.length+1:=by have:=HN.out;omega
  have hN2:t.length+1≤n:=by have:=HN.out;omega
  by_cases hlt:k<t.length
  ·have hck:=HC.out k t[k] (List.getElem?_eq_getElem hlt);have hcw:wr.cell? (ad.add (1+k))=some (.int .i64 t[k]):=(HW.out.cell (by rw[block_of_add];exact hb)).trans hck;have HS:=hX (checkGo_step hlt);have hcw2:wr.cell? ⟨ad.block,ad.off+1+k,none⟩=some (.int .i64 t[k]):=by rw[add_pos _ (by omega),←Nat.add_assoc] at hcw;exact hcw
   clear hck hcw;generalize t[k]=x at *;go_wp2_with fail;refine (find_any x _).mono ?_;rintro e w2 (⟨h0,rfl,rfl⟩ | ⟨h0,F,cap,rfl,b2⟩)
   ·have HF:Hid (r=false):=hX (by rw[←HE.out,HS.out,h0];rfl);clear h0;go_wp2_with fail;go_ret;rw[HF.out];exact ⟨rfl,HW.out⟩
   ·have HW2:=hX (HW.out.trans (b2.mono HW.out.size));have HF:Hid (r=(!(t.take k).contains x && checkGo (t.take (k+1)) (t.drop (k+1)))):=hX (by rw[←HE.out,HS.out,h0];rfl);clear h0 b2 hcw2
    cases hct:(t.take k).contains x with
    | true=>
     have HCT:Hid (∀W,Below w.heap.size w W→Calls Tryz.prog 121 #[.slice (some ⟨ad.block,ad.off+1,none⟩) k (c - 1),.int .i64 x] W (PureB true W)):=
      hX (fun W hW=>contains_any _ k (c - 1) (t.take k) x W (by simp;omega) (HRD.out k W hk hW) (by unfold maxLen;omega) _ hct)
     have HF2:Hid (r=false):=hX (by rw[HF.out,hct];rfl);clear hct;go_wp2_with fail;refine (HCT.out _ HW2.out).mono ?_;rintro e w3 ⟨rfl,rfl⟩;go_wp2_with fail;go_ret;rw[HF2.out];exact ⟨rfl,HW2.out⟩
    | false=>
     have HCT:Hid (∀W,Below w.heap.size w W→Calls Tryz.prog 121 #[.slice (some ⟨ad.block,ad.off+1,none⟩) k (c - 1),.int .i64 x] W (PureB false W)):=
      hX (fun W hW=>contains_any _ k (c - 1) (t.take k) x W (by simp;omega) (HRD.out k W hk hW) (by unfold maxLen;omega) _ hct)
     have HF2:Hid (checkGo (t.take (k+1)) (t.drop (k+1))=r):=hX (by rw[HF.out,hct];rfl);clear hct;go_wp2_with fail;refine (HCT.out _ HW2.out).mono ?_;rintro e w3 ⟨rfl,rfl⟩;go_wp2_with fail;go_roundw;case rel=>exact ⟨k+1,by omega,by go_num,HF2,HW2⟩
     case measure=>simp[RowKit.intOf];omega
  ·obtain rfl:k=t.length:=by omega
   have HF:Hid (r=true):=hX (by rw[←HE.out,List.drop_length];rfl);have hlt2:¬(t.length<n - 1):=by omega
   go_wp2_with fail;go_ret;rw[HF.out];exact ⟨rfl,HW.out⟩
theorem check_any (ao:Option Addr) (n c:Nat) (l:List Int) (w:World) (hn:n=l.length) (hk:Reads w w.heap.size 1 ao n (intCells l)) (hc:n≤c) (hm:c≤maxLen) :
 Calls Tryz.prog 101 #[.slice ao n c] w (IntB (errOf (checkB l)) w):=by
 subst hn;unfold maxLen at hm;by_cases h:1≤l.length∧l.length≤8∧1≤l.getD 0 0∧l.getD 0 0≤4
 ·obtain ⟨h1,h2,h3,h4⟩:=h;rw[check_good l h1 h2 h3 h4];obtain ⟨ad,rfl,hb,hcell⟩:=hk.2 (by omega)
  match l,h1 with
  | a::t,_=>
   simp only[List.length_cons,List.getD_cons_zero,List.drop_succ_cons,List.drop_zero] at *;have h0:=hcell 0 _ rfl;rw[show ad.add 0=ad from rfl] at h0;rcases Nat.eq_zero_or_pos t.length with hz | hz
   ·obtain rfl:=List.eq_nil_of_length_eq_zero hz;exact check_one ad c a w (by simpa using hc) h3 h4 hm h0
   ·exact check_more ad c a t w hz (by omega) hc hm h3 h4 hb h0 (fun j v hj=>hcell (1+j) _ (by rw[Nat.add_comm];simp[intCells,hj]))
 ·rw[check_bad l h]
  rcases (show l.length=0∨8<l.length∨(1≤l.length∧l.length≤8) by omega) with h1 | h1 | ⟨h1,h2⟩
  ·rw[h1];exact check_nil ao c w
  ·exact check_long ao _ c w h1 (by omega)
  ·obtain ⟨ad,rfl,hb,hcell⟩:=hk.2 (by omega)
   match l,h1 with
   | a::t,_=>
    simp only[List.length_cons,List.getD_cons_zero] at *;have h0:=hcell 0 _ rfl;rw[show ad.add 0=ad from rfl] at h0;exact check_first ad _ c a w (by omega) h2 (by omega) h0
end Go.Proofs.YtigfcihakghddaaGreatDoor.Ana
end
