/- Lemmas that the last text leans on. -/
import Derived.Test.YtplkbdncgkgppaaGreatDoorTake
import Derived.Test.YtplkbdncgkgppaaGreatDoorPack19
import Derived.Test.YtplkbdncgkgppaaGreatDoorPack23
import Derived.Deep.QuietTactic
import Derived.BigQuiet
import Derived.Test.YtplkbdncgkgppaaGreatDoorPack27
import Derived.Test.YtplkbdncgkgppaaGreatDoorPack7
import Derived.Test.YtplkbdncgkgppaaGreatDoorPack28
import Derived.Test.YtplkbdncgkgppaaGreatDoorPack30
import Derived.Lib.AppendStr
import Derived.Test.YtplkbdncgkgppaaGreatDoorAnaToks4
import Derived.Test.YtplkbdncgkgppaaGreatDoorPack13
import Derived.Test.YtplkbdncgkgppaaGreatDoorPack6
set_option linter.all false
set_option maxRecDepth 100000
set_option maxHeartbeats 2000000
section
namespace Go.Proofs.YtplkbdncgkgppaaGreatDoor.Ana
open Go.RowKit Go.Lib AnaP Words Tree Kit Owned
end Go.Proofs.YtplkbdncgkgppaaGreatDoor.Ana
end
section
namespace Go.Proofs.YtplkbdncgkgppaaGreatDoor.FoldRefRunes
open Go.RowKit Go.Lib FoldP FoldInts Kit FoldForms FoldNext FoldValid Words Owned
def yhg (x:Nat × Int):Value:=.int .i64 (x.1:Int)
def yhh (x:Nat × Int):Value:=.int .i32 x.2
end Go.Proofs.YtplkbdncgkgppaaGreatDoor.FoldRefRunes
end
section
namespace Go.Proofs.YtplkbdncgkgppaaGreatDoor.Ana
open Go.RowKit Go.Lib FoldP FoldNext FoldRefFold FoldAmong AnaP Words Tree Kit Owned
open FoldRefRunes (yhg yhh)
end Go.Proofs.YtplkbdncgkgppaaGreatDoor.Ana
end
section
namespace Go.Proofs.YtplkbdncgkgppaaGreatDoor.Ana
open Go.RowKit Go.Lib FoldP FoldNext FoldRefFold FoldAmong AnaP Words Tree Kit Owned
open FoldRefRunes (yhg yhh)
end Go.Proofs.YtplkbdncgkgppaaGreatDoor.Ana
end
section
namespace Go.Proofs.YtplkbdncgkgppaaGreatDoor.Ana
open Go.RowKit Go.Lib FoldP FoldNext AnaP Words Tree Kit Owned
end Go.Proofs.YtplkbdncgkgppaaGreatDoor.Ana
end
section
namespace Go.Proofs.YtplkbdncgkgppaaGreatDoor.Ana
open Go.RowKit Go.Lib FoldP FoldInts Kit FoldForms FoldNext AnaP Words Owned Tree
def zp5 (r:List TokD × Int) (w:World) (e:Ending) (w':World):Prop:=
 ∃ao c,e = .returned (.tuple #[.slice ao r.1.length c,.int .i64 r.2])∧w'.ownsRow w.heap.size 98 4 (.slice ao r.1.length c) r.1.length (zai r.1)∧Below w.heap.size w w'
theorem zhx {k:Int} {w w':World} {e:Ending} (h:e = .returned (.tuple #[.slice none 0 0,.int .i64 k])) (hb:Below w.heap.size w w'):zp5 ([],k) w e w':=⟨none,0,h,World.ownsRow_nil _ _ _ _,hb⟩
theorem yb4 (n:Int) (h1:1≤n) (h4:n≤4) (s:ByteArray) (w:World) (hs:s.size≤4096) (hT:zc9 w):Calls Tryz.prog 69 #[.int .i64 n,.string s] w (zc5 (zbs n s) w):=by
 rcases (show n=1∨n=2∨n=3∨n=4 by omega) with rfl | rfl | rfl | rfl
 ·exact yhc s w (by omega) hT
 ·exact yhd s w (by omega) hT
 ·exact yhe s w (by omega) hT
 ·exact yhf s w (by omega) hT
theorem zij {l:List Int} (h:zer l=true):1≤l.length∧l.length≤8∧1≤l.getD 0 0∧l.getD 0 0≤4∧∀n∈l.tail,zdu n=true:=by
 cases l with
 | nil=>cases h
 | cons a t=>
  simp only[zer,Bool.and_eq_true,decide_eq_true_eq] at h;obtain ⟨⟨⟨h1,h2⟩,h3⟩,h4⟩:=h;refine ⟨by simp,by simp only[List.length_cons];omega,h2,h3,fun n hn=>?_⟩;obtain ⟨i,hi,rfl⟩:=List.mem_iff_getElem.1 hn;have h5:=(zkj t []).1 h4 i hi;have hi':i<t.length:=hi;have e:t.getD i 0=t[i]:=by rw[List.getD_eq_getElem?_getD,List.getElem?_eq_getElem hi'];rfl
  rw[e] at h5;exact h5.1
theorem zp6 {T:List Int} {k:Nat} (h:k<T.length) (t:List TokD):zdd (T.drop k) t=(match zi0 T[k] t with
 | none=>([],84)
 | some t'=>zdd (T.drop (k+1)) t'):=by
 rw[List.drop_eq_getElem_cons h];rfl
theorem ye2 (ao:Option Addr) (n c:Nat) (l:List Int) (s:ByteArray) (w:World) (hn:n=l.length) (hk:Reads w w.heap.size 1 ao n (zbl l)) (hc:n≤c) (hm:c≤maxLen) (h:zer l=false) :
 Calls Tryz.prog 48 #[.slice ao n c,.string s] w (zp5 (zf6 l s) w):=by
 have HC:=hX (zib ao n c l w hn hk hc hm);rw[h] at HC;have HR:Hid (zf6 l s=([],60)):=hX (by unfold zf6;rw[if_pos h]);rw[HR.out];clear hk hn h;go_enter Tryz.func48,Tryz.ntmps48;go_wp2_with fail;refine HC.out.mono ?_;rintro e w1 ⟨rfl,b1⟩;have HB:=hX b1;clear b1;go_wp2_with fail;go_ret2;exact zhx rfl HB.out
theorem yb5 (ao:Option Addr) (n c:Nat) (l:List Int) (s:ByteArray) (w:World) (hn:n=l.length) (hk:Reads w w.heap.size 1 ao n (zbl l)) (hc:n≤c) (hm:c≤maxLen) (h:zer l=true) (hs:4096<s.size) (hs2:s.size≤9223372036854775807) :
 Calls Tryz.prog 48 #[.slice ao n c,.string s] w (zp5 (zf6 l s) w):=by
 have HC:=hX (zib ao n c l w hn hk hc hm);rw[h] at HC;have HR:Hid (zf6 l s=([],3)):=hX (by unfold zf6;rw[h,if_neg (by decide),if_pos hs]);have h1:decide ((4096:Int)<s.size)=true:=by rw[decide_eq_true_iff];omega
 rw[HR.out];clear hk hn h;go_enter Tryz.func48,Tryz.ntmps48;go_wp2_with fail;refine HC.out.mono ?_;rintro e w1 ⟨rfl,b1⟩;have HB:=hX b1;clear b1;go_wp2_with fail;go_ret2;exact zhx rfl HB.out
theorem yhi (ad:Addr) (c:Nat) (a:Int) (T:List Int) (s:ByteArray) (w:World) (hk:Reads w w.heap.size 1 (some ad) (T.length+1) (zbl (a::T))) (hc:T.length+1≤c) (hm:c≤maxLen) (h:zer (a::T)=true) (hs:s.size≤4096) (hT:zc9 w) :
 Calls Tryz.prog 48 #[.slice (some ad) (T.length+1) c,.string s] w (zp5 (zf6 (a::T) s) w):=by
 have HC:=hX (zib (some ad) (T.length+1) c (a::T) w rfl hk hc hm);obtain ⟨_,h8,ha1,ha4,hf⟩:=zij h;simp only[List.getD_cons_zero,List.length_cons,List.tail_cons] at ha1 ha4 hf h8;rw[h] at HC;have HF:=hX hf;have hl:=zre a s
 obtain ⟨R,hR⟩:∃R,zf6 (a::T) s=R:=⟨_,rfl⟩
 have HR:Hid (zdd (T.drop 0) (zbs a s)=R):=hX (by rw[←hR];unfold zf6;rw[h,if_neg (by decide),if_neg (by omega),if_neg (by simp only[List.getD_cons_zero];omega)];rfl);rw[hR];have HTS:Hid (∀t∈zbs a s,t.text.size≤4096):=hX (fun t ht=>by have:=zjk a s t ht;omega);have HTK:=hX (fun W hW=>yb4 a ha1 ha4 s W hs (hT.next hW));have HT:=hX hT;obtain ⟨ad',e,hba,hcell⟩:=hk.2 (by omega);cases e;have h0:w.cell? ad=some (.int .i64 a):=hcell 0 _ rfl;have HCE:Hid (∀(j:Nat) (v:Int),T[j]?=some v→w.cell? (ad.add (1+j))=some (.int .i64 v)):=hX (fun j v hj=>hcell (1+j) _ (by rw[Nat.add_comm];simp[zbl,hj]));have H0:=hX h0;have h40:decide ((4096:Int)<s.size)=false:=by rw[decide_eq_false_iff_not];omega
 have h41:¬4096<s.size:=by omega
 unfold maxLen at hm;clear hk h hT hR hf hcell h0;generalize zbs a s=ts0 at *;have h50:¬4096<ts0.length:=by omega
 have h51:decide ((4096:Int)<ts0.length)=false:=by rw[decide_eq_false_iff_not];omega
 obtain ⟨n,hn⟩:∃n,n=T.length+1:=⟨_,rfl⟩
 rw[←hn] at HC hc ⊢;have hn1:n≤T.length+1:=by omega
 have hn2:T.length+1≤n:=by omega
 clear hn;by_cases hc1:c=1
 ·subst hc1;have hT0:T.length=0:=by omega
  obtain rfl:=List.eq_nil_of_length_eq_zero hT0;obtain rfl:n=1:=by simp at hn2;omega
  have HRE:Hid (R=(ts0,0)):=hX (by rw[←HR.out];rfl);clear hT0 HR;go_enter Tryz.func48,Tryz.ntmps48;go_wp2_with fail;refine HC.out.mono ?_;rintro e w1 ⟨rfl,b1⟩;have hc0:w1.cell? ad=some (.int .i64 a):=(b1.cell hba).trans H0.out;have HB1:=hX b1;clear b1;go_wp2_with fail;refine (HTK.out _ HB1.out).mono ?_;rintro e w2 ⟨v,rfl,o2,b2⟩;obtain ⟨aot,ct,rfl⟩:=zfe o2;have HO2:=hX (zg2 o2 HB1.out.size);have HB2:=hX (HB1.out.trans (b2.mono HB1.out.size));clear o2 b2 hc0;go_wp2_with fail;go_loopw [7,9,10,11,31] (fun o _ _ _ i wq=>o = .slice aot ts0.length ct∧i = .int .i64 0∧wq=w2) (fun _ _ _ _ _ _=>0);case atStart=>exact ⟨rfl,rfl,rfl⟩
  case round=>
   obtain ⟨rfl,rfl,rfl⟩:=hrel;go_wp2_with fail;go_ret2;rw[HRE.out];exact ⟨aot,ct,rfl,HO2.out,HB2.out⟩
 ·have a5:(c == 1)=false:=by rw[beq_eq_false_iff_ne];exact hc1
  go_enter Tryz.func48,Tryz.ntmps48;go_wp2_with fail;refine HC.out.mono ?_;rintro e w1 ⟨rfl,b1⟩;have hc0:w1.cell? ad=some (.int .i64 a):=(b1.cell hba).trans H0.out;have HB1:=hX b1;clear b1;go_wp2_with fail;refine (HTK.out _ HB1.out).mono ?_;rintro e w2 ⟨v,rfl,o2,b2⟩;obtain ⟨aot,ct,rfl⟩:=zfe o2;have HO2:=hX (zg2 o2 HB1.out.size);have HB2:=hX (HB1.out.trans (b2.mono HB1.out.size));clear o2 b2 hc0;go_wp2_with fail;go_loopw [7,9,10,11,31] (fun o _ _ _ i wq=>∃(k:Nat) (ts:List TokD) (ao:Option Addr) (co:Nat),k≤T.length∧ts.length≤4096∧i = .int .i64 k∧o = .slice ao ts.length co∧Hid (wq.ownsRow w.heap.size 98 4 (.slice ao ts.length co) ts.length (zai ts))∧Hid (zdd (T.drop k) ts=R)∧Hid (∀t∈ts,t.text.size≤4096)∧Hid (Below w.heap.size w wq)) (fun _ _ _ _ i _=>T.length - (RowKit.intOf i).toNat);case atStart=>exact ⟨0,ts0,aot,ct,by omega,by omega,rfl,rfl,HO2,HR,HTS,HB2⟩
  case round=>
   obtain ⟨k,ts,ao,co,hk,htl,rfl,rfl,HO,HE,HX,HW⟩:=hrel;have hzr:=HW.out.size;by_cases hlt:k<T.length
   ·have hcw:wr.cell? (ad.add (1+k))=some (.int .i64 T[k]):=(HW.out.cell (by rw[zaa];exact hba)).trans (HCE.out k T[k] (List.getElem?_eq_getElem hlt));have hcw2:wr.cell? ⟨ad.block,ad.off+1+k,none⟩=some (.int .i64 T[k]):=by rw[zrz _ (by omega),←Nat.add_assoc] at hcw;exact hcw
    have HST:=hX (zp6 hlt ts);have hfk:=HF.out T[k] (List.getElem_mem hlt);clear hcw;generalize T[k]=x at *;have HL:=hX (fun W (hW:Below w.heap.size w W) hr=>yb0 x hfk ao co ts W hr (by omega) (fun t ht=>by have:=HX.out t ht;omega) (HT.out.next hW));have HRD:=hX (Reads.of_own HO.out);have HX2:Hid (∀ts',zi0 x ts=some ts'→∀t∈ts',t.text.size≤4096):=hX (fun ts' e=>zs2 (p:=fun t=>t.text.size≤4096) (fun t y h1 h2=>by have:=zs1 x t.text y h2;exact Nat.le_trans this h1) HX.out e);have HX3:Hid (∀ts',zi0 x ts=some ts'→ts'.length≤4096):=hX (fun ts' e=>zmn e);clear hfk;generalize zi0 x ts=LR at *;go_wp2_with fail;refine (HL.out wr HW.out HRD.out).mono ?_;rintro e w3 (⟨rfl,rfl,b3⟩ | ⟨ts',ao',co',rfl,rfl,o3,b3⟩)
    ·have HN:Hid (R=([],84)):=hX (by rw[←HE.out,HST.out]);have HB3:=hX (HW.out.trans (b3.mono hzr));clear b3 hcw2;go_wp2_with fail;go_ret2;rw[HN.out];exact zhx rfl HB3.out
    ·have HN:Hid (zdd (T.drop (k+1)) ts'=R):=hX (by rw[←HE.out,HST.out]);have HB3:=hX (HW.out.trans (b3.mono hzr));have HO3:=hX (zg2 o3 hzr);have htl2:=HX3.out ts' rfl;have HX4:=hX (HX2.out ts' rfl);clear b3 hcw2 o3;go_wp2_with fail;go_roundw;case rel=>exact ⟨k+1,ts',ao',co',by omega,htl2,by go_num,rfl,HO3,HN,HX4,HB3⟩
     case measure=>simp[RowKit.intOf];omega
   ·obtain rfl:k=T.length:=by omega
    have HN:Hid (R=(ts,0)):=hX (by rw[←HE.out,List.drop_length];rfl);have hlt2:¬(T.length<n - 1):=by omega
    go_wp2_with fail;go_ret2;rw[HN.out];exact ⟨ao,co,rfl,HO.out,HW.out⟩
theorem run_any (ao:Option Addr) (n c:Nat) (l:List Int) (s:ByteArray) (w:World) (hn:n=l.length) (hk:Reads w w.heap.size 1 ao n (zbl l)) (hc:n≤c) (hm:c≤maxLen) (hs:s.size≤9223372036854775807) (hT:zc9 w) :
 Calls Tryz.prog 48 #[.slice ao n c,.string s] w (zp5 (zf6 l s) w):=by
 cases h:zer l with
 | false=>exact ye2 ao n c l s w hn hk hc hm h
 | true=>
  by_cases h4:s.size≤4096
  ·have h1:=(zij h).1;subst hn
   match l,h1 with
   | a::T,_=>
    obtain ⟨ad,rfl,_,_⟩:=hk.2 (by simp);exact yhi ad c a T s w hk hc hm h h4 hT
  ·exact yb5 ao n c l s w hn hk hc hm h (by omega) hs
end Go.Proofs.YtplkbdncgkgppaaGreatDoor.Ana
end
section
namespace Go.Proofs.YtplkbdncgkgppaaGreatDoor.Qry
open Go.RowKit Words Tree QryP Kit Owned Sch SchP RewP Ana Qck QckP FoldNext
inductive BoH:QT→Prop where
 | mk {k o b op:Int} {f t u:ByteArray} {lo hi:List Int} {ks:List QT} (h:k=9→0≤b∧b≤1048576) (hk:∀x∈ks,BoH x):BoH (.mk k o f t u lo hi b op ks)
def Snd (q:QT):Prop:=Qry.Ok q∧BoH q
theorem BoH.kids_ {q:QT} (h:BoH q):∀x∈kids q,BoH x:=by
 cases h with
 | mk _ hk=>exact hk
theorem Snd.kids_ {q:QT} (h:Snd q):∀x∈kids q,Snd x:=fun x hx=>⟨zlc q h.1 x hx,h.2.kids_ x hx⟩
theorem zik:Snd zdv:=
 ⟨.mk ⟨by decide,by decide⟩ ⟨by decide,by decide⟩ (by decide) (by decide) (by decide) ⟨by decide,fun z hz=>by cases hz⟩ ⟨by decide,fun z hz=>by cases hz⟩ ⟨by decide,by decide⟩ ⟨by decide,by decide⟩ (by decide) (fun x hx=>by cases hx),.mk (fun h=>by cases h) (fun x hx=>by cases hx)⟩
section
variable {q:QT}
theorem Snd.withO {o:Int} (h:Snd q) (ho:Qry.I64 o):Snd (RewP.withO o q):=by
 refine ⟨ztt o h.1 ho,?_⟩
 cases h.2 with
 | mk hb hk=>exact .mk hb hk
theorem Snd.withK {k:Int} (h:Snd q) (hk:k=3∨k=4):Snd (RewP.withK k q):=by
 obtain ⟨h1,h2⟩:=h
 cases h2 with
 | mk _ hkb=>
  cases h1 with
  | mk hkd hoc hf ht hu hlo hhi hb hop hks hkk=>
   refine ⟨.mk ?_ hoc hf ht hu hlo hhi hb hop hks hkk,.mk (fun h=>by omega) hkb⟩;rcases hk with rfl | rfl <;> exact ⟨by decide,by decide⟩
theorem Snd.withT (h:Snd q):Snd (RewP.withT q):=by
 obtain ⟨h1,h2⟩:=h
 cases h2 with
 | mk _ hkb=>
  cases h1 with
  | mk hkd hoc hf ht hu hlo hhi hb hop hks hkk=>exact ⟨.mk ⟨by decide,by decide⟩ hoc hf ht (by decide) hlo hhi hb hop hks hkk,.mk (fun h=>by cases h) hkb⟩
theorem Snd.withB {b':Int} (h:Snd q) (hb':0≤b'∧b'≤1048576):Snd (RewP.withB b' q):=by
 obtain ⟨h1,h2⟩:=h
 cases h2 with
 | mk _ hkb=>
  cases h1 with
  | mk hkd hoc hf ht hu hlo hhi hb hop hks hkk=>exact ⟨.mk hkd hoc hf ht hu hlo hhi ⟨by omega,by omega⟩ hop hks hkk,.mk (fun _=>hb') hkb⟩
theorem Snd.withKids {l:List QT} (h:Snd q) (hl:∀x∈l,Snd x) (hn:l.length≤100000):Snd (RewP.withKids l q):=by
 obtain ⟨h1,h2⟩:=h
 cases h2 with
 | mk hb9 hkb=>
  cases h1 with
  | mk hkd hoc hf ht hu hlo hhi hb hop hks hkk=>exact ⟨.mk hkd hoc hf ht hu hlo hhi hb hop (by omega) (fun x hx=>(hl x hx).1),.mk hb9 (fun x hx=>(hl x hx).2)⟩
end
theorem zy0 {l:List QT} (h:∀q∈l,Snd q):∀q∈zc0 l,Snd q:=by
 have hm:∀q∈l.map zb7,Snd q:=fun q hq=>by
  obtain ⟨x,hx,rfl⟩:=List.mem_map.1 hq;unfold zb7;split
  ·exact (h x hx).withO ⟨by decide,by decide⟩
  ·exact h x hx
 intro q hq;unfold zc0 at hq;split at hq
 ·exact hm q (List.mem_filter.1 hq).1
 ·exact hm q hq
theorem zm3 {l:List QT} (h:l.length≤100000):(zda l).1.length≤100000:=by
 unfold zda;dsimp only;have h1:=zpr h;generalize (zbt l.length l).getD l=a at *;have h2:=zid a [];simp only[List.length_nil,Nat.zero_add] at h2;generalize zcf [] a=b at *
 cases ho:zjm b with
 | none=>exact Nat.le_trans h2 h1
 | some x=>exact Nat.le_trans (ztu ho) (Nat.le_trans h2 h1)
theorem zp7:∀(n:Nat) {l:List QT},l.length≤100000→(zcv n l).length≤100000
 | 0,l,h=>by rw[zcv];exact h
 | n+1,l,h=>by
  rw[zcv];split
  ·exact zp7 n (zm3 h)
  ·exact zm3 h
theorem zp8:∀(n:Nat) {l:List QT},(∀q∈l,Snd q)→∀q∈zcv n l,Snd q
 | 0,l,h=>by rw[zcv];exact h
 | n+1,l,h=>by
  have h1:=zi5 (p:=Snd) (fun k _ hk x hx _=>hk.kids_ x hx) l h;rw[zcv];split
  ·exact zp8 n h1
  ·exact h1
theorem zy1 {s:Bool} {q:QT} (h:Snd q) (hn:(kids q).length≤100000):Snd (zi3 s q):=by
 unfold zi3;split
 ·exact zik
 dsimp only;have h1:∀x∈(kids q).filter (fun k=>decide (kd k≠2)),Snd x:=fun x hx=>h.kids_ x (List.mem_filter.1 hx).1;have n1:((kids q).filter (fun k=>decide (kd k≠2))).length≤100000:=Nat.le_trans (List.length_filter_le _ _) hn;generalize (kids q).filter (fun k=>decide (kd k≠2))=l1 at *
 have h2:∀x∈(if s=true then l1 else zc0 l1),Snd x:=by
  split
  ·exact h1
  ·exact zy0 h1
 have n2:(if s=true then l1 else zc0 l1).length≤100000:=by
  split
  ·exact n1
  ·exact Nat.le_trans (zps l1) n1
 generalize (if s=true then l1 else zc0 l1)=l2 at *;have h3:=zp8 (zal l2+1) h2;have n3:=zp7 (zal l2+1) n2;generalize zcv (zal l2+1) l2=l3 at *;split
 ·unfold zs3;split
  ·rename_i he
   match l3,he,h3 with
   | [x],_,h3=>exact h3 x (List.mem_singleton.2 rfl)
  ·exact h.withKids h3 n3
 ·exact zik
theorem yb6 {l:List FT} {s:Bool} {q:QT} (h:Snd q) (hn:(kids q).length≤100000):Snd (zho l s q):=by
 unfold zho;split
 ·split
  ·exact h
  ·split
   ·split
    ·exact zik
    ·split
     ·exact h.withK (.inl rfl)
     ·exact h.withK (.inr rfl)
   ·exact h
 split
 ·split
  ·exact zik
  ·split
   ·exact h.withT
   ·exact h
 split
 ·split
  ·exact zik
  ·exact h
 split
 ·split
  ·exact h
  ·rename_i k _ e
   have hk:Snd k:=h.kids_ k (by rw[e];exact List.mem_cons_self ..);split
   ·exact hk
   ·split
    ·rename_i h9
     refine hk.withB ?_;obtain ⟨h91,h92,h93⟩:=h9
     have b1:0≤bo q:=by
      obtain ⟨_,h2⟩:=h
      cases h2 with
      | mk hb _=>exact (hb h91).1
     have b2:0≤bo k:=by
      obtain ⟨_,h2⟩:=hk
      cases h2 with
      | mk hb _=>exact (hb h92).1
     exact ⟨Int.mul_nonneg b2 b1,by rw[Int.mul_comm];exact h93⟩
    ·exact h
 split
 ·exact zy1 h hn
 ·exact h
inductive Fit (l:List FT):QT→Prop where
 | mk {k o b op:Int} {f t u:ByteArray} {lo hi:List Int} {ks:List QT} (h3:k=3∨k=4∨k=6→∃g,zbc l f=some g) (h7:k=7→lo.length=hi.length) (h9:k=9∨k=10→ks.length=1) (hn:ks.length≤100000) (hk:∀x∈ks,Fit l x):Fit l (.mk k o f t u lo hi b op ks)
theorem zel (l:List FT) (s:Bool):∀ks:List QT,(zb8 l s ks).length=ks.length
 | []=>by rw[zb8]
 | q::qs=>by rw[zb8,List.length_cons,List.length_cons,zel l s qs]
def keepB (s:Bool) (q:QT):Bool:=s && decide (oc q≠4) && decide (oc q≠3)
theorem zm4 (l:List FT) (s:Bool):∀(ks:List QT) (i:Nat) (h:i<ks.length),zb8 l s (ks.take (i+1))=zb8 l s (ks.take i)++[ze0 l (keepB s ks[i]) ks[i]]
 | [],_,h=>by simp at h
 | q::qs,0,_=>by rw[List.take_succ_cons,List.take_zero,List.take_zero,zb8,zb8];rfl
 | q::qs,i+1,h=>by rw[List.take_succ_cons,zb8,zm4 l s qs i (by simpa using h),List.take_succ_cons,zb8];rfl
mutual
theorem zp9 {l:List FT} (s:Bool):∀q:QT,Fit l q→Snd q→Snd (ze0 l s q)
 | .mk k o f t u lo hi b p ks,hf,h=>by
  rw[ze0]
  have hn:ks.length≤100000:=by
   cases hf with
   | mk _ _ _ hn _=>exact hn
  have ho:Qry.I64 o:=by
   obtain ⟨h1,_⟩:=h
   cases h1 with
   | mk _ ho=>exact ho
  have hkk:∀x∈ks,Fit l x:=by
   cases hf with
   | mk _ _ _ _ hk=>exact hk
  have hl:=zlm s ks hkk (fun x hx=>h.kids_ x hx);have e:QT.mk k o f t u lo hi b p (zb8 l s ks)=RewP.withKids (zb8 l s ks) (.mk k o f t u lo hi b p ks):=rfl;refine Snd.withO (yb6 ?_ ?_) ho
  ·rw[e];exact h.withKids hl (by rw[zel];exact hn)
  ·show (zb8 l s ks).length≤100000;rw[zel];exact hn
theorem zlm {l:List FT} (s:Bool):∀ks:List QT,(∀x∈ks,Fit l x)→(∀x∈ks,Snd x)→∀x∈zb8 l s ks,Snd x
 | [],_,_=>by rw[zb8];intro x hx;cases hx
 | q::qs,hf,h=>by
  rw[zb8];intro x hx;rcases List.mem_cons.1 hx with rfl | hx
  ·exact zp9 _ q (hf q (by simp)) (h q (by simp))
  ·exact zlm s qs (fun y hy=>hf y (by simp[hy])) (fun y hy=>h y (by simp[hy])) x hx
end
structure Mst (w:World) (B:Nat) (l:List FT) (u:Value):Prop where
 at_:T.At bare w (fun g=>g<B) (zbg l) u
 len:l.length*72≤140737488351232
 fok:∀f∈l,FOk f
 tabs:zc9 w
 tb:6≤B
 hB:B≤w.heap.size
theorem Mst.next {w w':World} {B:Nat} {l:List FT} {u:Value} (h:Mst w B l u) (hb:Below B w w'):Mst w' B l u:=
 ⟨At.below h.at_ hb (fun g hg=>hg),h.len,h.fok,h.tabs.below hb h.tb,h.tb,Nat.le_trans h.hB hb.size⟩
theorem Mst.mk_ {w:World} {B:Nat} {l:List FT} {u:Value} (h:Mst w B l u):Mk w l u:=
 ⟨At.keep (fun _ _=>rfl) (fun g hg=>Nat.lt_of_lt_of_le hg h.hB) h.at_,h.len⟩
end Go.Proofs.YtplkbdncgkgppaaGreatDoor.Qry
end
section
namespace Go.Proofs.YtplkbdncgkgppaaGreatDoor.Qry
open Go.RowKit Words Tree QryP Kit Owned Sch SchP RewP Ana Qck QckP FoldNext
theorem zj7 {a b:Int} (h:orE a b=0):a=0∧b=0:=by
 unfold orE at h;split at h
 ·exact ⟨‹_›,h⟩
 ·exact absurd h ‹_›
inductive Lfs (l:List FT):QT→Prop where
 | mk {k o b op:Int} {f t u:ByteArray} {lo hi:List Int} {ks:List QT} (hk1:1≤k∧k≤10) (h3:3≤k∧k≤7→∃g,zbc l f=some g) (h7:k=7→lo.length=hi.length∧lo.length≤4) (h9:k=9∨k=10→ks.length=1) (h10:k=10→lo.length=1) (hb:k=9→0≤b∧b≤1048576) (hk:∀x∈ks,Lfs l x):Lfs l (.mk k o f t u lo hi b op ks)
theorem zvz {f:ByteArray} (h:zb4 f=true):f.size≠0:=by
 unfold zb4 at h;simp only[Bool.and_eq_true,decide_eq_true_eq] at h;omega
mutual
theorem zj8 {l:List FT}:∀(u:Int) (a:Nat) (q:QT),zhm l u a q=0→Fit l q∧Lfs l q∧BoH q∧za0 u q=true
 | u,a,.mk k o f t up lo hi b p ks,h=>by
  rw[zhm] at h;obtain ⟨h1,h2⟩:=zj7 h;unfold yau at h1;split at h1
  ·exact absurd h1 (by decide)
  split at h1
  ·exact absurd h1 (by decide)
  rename_i hkn
  have hkn:ks.length≤32:=Nat.le_of_not_lt hkn
  have hown:zf2 (.mk k o f t up lo hi b p ks) u=true:=by
   cases hh:zf2 (.mk k o f t up lo hi b p ks) u with
   | true=>rfl
   | false=>
    rw[hh] at h1;have h1':(181:Int)=0:=h1;exact absurd h1' (by decide)
  rw[if_pos hown] at h1;obtain ⟨f1,f2,f3,f4,f5,f6,f7,f8,f9,f10,f11,f12,f13,f14⟩:=zk2 hown
  have hfield:(3≤k∧k≤7∨k=10)→∃g,zbc l f=some g:=fun hk=>by
   have hs:=zvz (f2 hk);unfold yda at h1
   have h1':(if f.size=0 then (0:Int) else match zbc l f with
    | none=>81
    | some g=>zo0 (.mk k o f t up lo hi b p ks) g)=0:=h1
   rw[if_neg hs] at h1'
   cases hf:zbc l f with
   | none=>
    rw[hf] at h1';have h2':(81:Int)=0:=h1';exact absurd h2' (by decide)
   | some g=>exact ⟨g,rfl⟩
  have ih:=zqa k (a+1) ks h2;refine ⟨.mk (fun hk=>hfield (by omega)) (fun hk=>(f6 hk).2.2.symm) f13 (by omega) ih.1,.mk f1 (fun hk=>hfield (.inl hk)) (fun hk=>⟨(f6 hk).2.2.symm,(f6 hk).2.1⟩) f13 (fun hk=>(f7 hk).1) f9 ih.2.1,.mk f9 ih.2.2.1,?_⟩;rw[za0,hown,ih.2.2.2];rfl
theorem zqa {l:List FT}:∀(u:Int) (a:Nat) (ks:List QT),zf3 l u a ks=0→(∀x∈ks,Fit l x)∧(∀x∈ks,Lfs l x)∧(∀x∈ks,BoH x)∧zat u ks=true
 | u,a,[],_=>⟨fun x hx=>(by cases hx),fun x hx=>(by cases hx),fun x hx=>(by cases hx),by rw[zat]⟩
 | u,a,q::qs,h=>by
  rw[zf3] at h;obtain ⟨h1,h2⟩:=zj7 h;obtain ⟨a1,a2,a3,a4⟩:=zj8 u a q h1;obtain ⟨b1,b2,b3,b4⟩:=zqa u a qs h2;refine ⟨fun x hx=>?_,fun x hx=>?_,fun x hx=>?_,by rw[zat,a4,b4];rfl⟩
  ·rcases List.mem_cons.1 hx with rfl | hx
   ·exact a1
   ·exact b1 x hx
  ·rcases List.mem_cons.1 hx with rfl | hx
   ·exact a2
   ·exact b2 x hx
  ·rcases List.mem_cons.1 hx with rfl | hx
   ·exact a3
   ·exact b3 x hx
end
def zy2 (q:QT):ReqT:=⟨q,[],[],0,⟨#[]⟩,[],[]⟩
theorem zjc {l:List FT} {q:QT} (h:zgd l (zy2 q)=0):zhm l 0 0 q=0:=(zj7 (zj7 h).2).1
def zju (l:List FT) (q:QT):QT:=if zgd l (zy2 q)=0 then ze0 l true q else q
section
variable {l:List FT} {q:QT}
theorem Lfs.kids_ (h:Lfs l q):∀x∈kids q,Lfs l x:=by
 cases h with
 | mk _ _ _ _ _ _ hk=>exact hk
theorem zil:Lfs l zdv:=.mk (by decide) (fun h=>absurd h.1 (by decide)) (fun h=>absurd h (by decide)) (fun h=>absurd h (by decide)) (fun h=>absurd h (by decide)) (fun h=>absurd h (by decide)) (fun x hx=>by cases hx)
theorem Lfs.withO {o:Int} (h:Lfs l q):Lfs l (RewP.withO o q):=by
 cases h with
 | mk h1 h3 h7 h9 h10 hb hk=>exact .mk h1 h3 h7 h9 h10 hb hk
theorem Lfs.withK {k:Int} (h:Lfs l q) (h34:kd q=3∨kd q=4) (hk:k=3∨k=4):Lfs l (RewP.withK k q):=by
 cases h with
 | mk h1 h3 h7 h9 h10 hb hkk=>
  simp only[kd] at h34;exact .mk (by omega) (fun _=>h3 (by omega)) (fun h=>by omega) (fun h=>by omega) (fun h=>by omega) (fun h=>by omega) hkk
theorem Lfs.withT (h:Lfs l q) (h6:kd q=6):Lfs l (RewP.withT q):=by
 cases h with
 | mk h1 h3 h7 h9 h10 hb hkk=>
  simp only[kd] at h6;exact .mk (by omega) (fun _=>h3 (by omega)) (fun h=>by omega) (fun h=>by omega) (fun h=>by omega) (fun h=>by omega) hkk
theorem Lfs.withB {b':Int} (h:Lfs l q) (hb':0≤b'∧b'≤1048576):Lfs l (RewP.withB b' q):=by
 cases h with
 | mk h1 h3 h7 h9 h10 hb hkk=>exact .mk h1 h3 h7 h9 h10 (fun _=>hb') hkk
theorem Lfs.withKids {ks:List QT} (h:Lfs l q) (h8:kd q=8∨ks.length=(kids q).length) (hks:∀x∈ks,Lfs l x):Lfs l (RewP.withKids ks q):=by
 cases h with
 | mk h1 h3 h7 h9 h10 hb hkk=>
  simp only[kd,kids] at h8;exact .mk h1 h3 h7 (fun h=>by have:=h9 h;omega) h10 hb hks
theorem zy3 {ks:List QT} (h:∀q∈ks,Lfs l q):∀q∈zc0 ks,Lfs l q:=by
 have hm:∀q∈ks.map zb7,Lfs l q:=fun q hq=>by
  obtain ⟨x,hx,rfl⟩:=List.mem_map.1 hq;unfold zb7;split
  ·exact (h x hx).withO
  ·exact h x hx
 intro q hq;unfold zc0 at hq;split at hq
 ·exact hm q (List.mem_filter.1 hq).1
 ·exact hm q hq
theorem zqb:∀(n:Nat) {ks:List QT},(∀q∈ks,Lfs l q)→∀q∈zcv n ks,Lfs l q
 | 0,ks,h=>by rw[zcv];exact h
 | n+1,ks,h=>by
  have h1:=zi5 (p:=Lfs l) (fun k _ hk x hx _=>hk.kids_ x hx) ks h;rw[zcv];split
  ·exact zqb n h1
  ·exact h1
theorem zy4 {s:Bool} (h:Lfs l q) (h8:kd q=8):Lfs l (zi3 s q):=by
 unfold zi3;split
 ·exact zil
 dsimp only;have h1:∀x∈(kids q).filter (fun k=>decide (kd k≠2)),Lfs l x:=fun x hx=>h.kids_ x (List.mem_filter.1 hx).1;generalize (kids q).filter (fun k=>decide (kd k≠2))=l1 at *
 have h2:∀x∈(if s=true then l1 else zc0 l1),Lfs l x:=by
  split
  ·exact h1
  ·exact zy3 h1
 generalize (if s=true then l1 else zc0 l1)=l2 at *;have h3:=zqb (zal l2+1) h2;generalize zcv (zal l2+1) l2=l3 at *;split
 ·unfold zs3;split
  ·rename_i he
   match l3,he,h3 with
   | [x],_,h3=>exact h3 x (List.mem_singleton.2 rfl)
  ·exact h.withKids (.inl h8) h3
 ·exact zil
theorem yb7 {s:Bool} (h:Lfs l q):Lfs l (zho l s q):=by
 unfold zho;split
 ·rename_i h34
  split
  ·exact h
  ·split
   ·split
    ·exact zil
    ·split
     ·exact h.withK h34 (.inl rfl)
     ·exact h.withK h34 (.inr rfl)
   ·exact h
 split
 ·rename_i h6
  split
  ·exact zil
  ·split
   ·exact h.withT h6
   ·exact h
 split
 ·split
  ·exact zil
  ·exact h
 split
 ·split
  ·exact h
  ·rename_i k _ e
   have hk:Lfs l k:=h.kids_ k (by rw[e];exact List.mem_cons_self ..);split
   ·exact hk
   ·split
    ·rename_i h9
     refine hk.withB ?_;obtain ⟨h91,h92,h93⟩:=h9
     have b1:0≤bo q:=by
      cases h with
      | mk _ _ _ _ _ hb _=>exact (hb h91).1
     have b2:0≤bo k:=by
      cases hk with
      | mk _ _ _ _ _ hb _=>exact (hb h92).1
     exact ⟨Int.mul_nonneg b2 b1,by rw[Int.mul_comm];exact h93⟩
    ·exact h
 split
 ·exact zy4 h ‹_›
 ·exact h
mutual
theorem zqc {l:List FT} (s:Bool):∀q:QT,Lfs l q→Lfs l (ze0 l s q)
 | .mk k o f t u lo hi b p ks,h=>by rw[ze0];have hl:=zqd s ks (fun x hx=>h.kids_ x hx);have e:QT.mk k o f t u lo hi b p (zb8 l s ks)=RewP.withKids (zb8 l s ks) (.mk k o f t u lo hi b p ks):=rfl;refine Lfs.withO (yb7 ?_);rw[e];exact h.withKids (.inr (by rw[zel];rfl)) hl
theorem zqd {l:List FT} (s:Bool):∀ks:List QT,(∀x∈ks,Lfs l x)→∀x∈zb8 l s ks,Lfs l x
 | [],_=>by rw[zb8];intro x hx;cases hx
 | q::qs,h=>by
  rw[zb8];intro x hx;rcases List.mem_cons.1 hx with rfl | hx
  ·exact zqc _ q (h q (by simp))
  ·exact zqd s qs (fun y hy=>h y (by simp[hy])) x hx
end
end
end Go.Proofs.YtplkbdncgkgppaaGreatDoor.Qry
end
section
namespace Go.Proofs.YtplkbdncgkgppaaGreatDoor.Qry
open Go.RowKit Words Tree QryP Kit Owned Sch SchP RewP Ana AnaP Qck QckP FoldNext
theorem zjd (p0:Int):∀(l:List TokD) (t:TokD),zb3 p0 (l++[t])=zb3 p0 l++(t.text.data.toList++zdx (t.pos - p0))
 | [],t=>by rw[List.nil_append,zb3,zb3,zb3,List.append_nil];rfl
 | x::l,t=>by rw[List.cons_append,zb3,zb3,zjd p0 l t];simp only[List.append_assoc]
theorem zy5 (n:Int):zdx (wrap64 n)=zdx n:=by
 unfold zdx;have:wrap64 n % 18446744073709551616=n % 18446744073709551616:=by unfold wrap64;omega
 rw[this]
theorem zm5 (n:Int):zdx (IntKind.i64.wrap n)=zdx n:=by
 have e:IntKind.i64.wrap n=wrap64 n:=(by simp[IntKind.wrap,IntKind.signed,IntKind.bits,wrap64];split <;> omega)
 rw[e,zy5]
theorem zim (p0:Int):∀(l:List TokD),(∀t∈l,t.text.size≤4096)→(zb3 p0 l).length≤l.length*4104
 | [],_=>by rw[zb3];exact Nat.zero_le _
 | t::l,h=>by
  have h1:=zim p0 l (fun x hx=>h x (List.mem_cons_of_mem _ hx));have h2:=h t (List.mem_cons_self ..);have h3:t.text.data.toList.length=t.text.size:=by simp
  rw[zb3,List.length_append,List.length_append,zc1,List.length_cons,h3];omega
theorem zqe {lo hi:List Int} {d:Nat} (h1:d<lo.length) (h2:d<hi.length):zbj (lo.drop d) (hi.drop d)=if hi[d]<lo[d] then none else (zbj (lo.drop (d+1)) (hi.drop (d+1))).map fun x=>zdx lo[d]++zdx hi[d]++x:=by
 rw[List.drop_eq_getElem_cons h1,List.drop_eq_getElem_cons h2,zbj]
theorem zln {a b:ByteArray} (h:a.data.toList=b.data.toList):a=b:=ByteArray.ext (Array.toList_inj.1 h)
theorem zce (l:List UInt8):(str l).data.toList=l:=rfl
theorem zft (a b:ByteArray):(a++b).data.toList=a.data.toList++b.data.toList:=by simp
theorem zfu (l:List UInt8):(str l).size=l.length:=rfl
theorem yb8 (f t u:ByteArray):((((⟨#[116]⟩:ByteArray)++f)++(⟨#[0]⟩:ByteArray))++t)++(⟨#[0]⟩:ByteArray)++u=str (116::(f.data.toList++0::(t.data.toList++0::u.data.toList))):=by
 apply zln;rw[zce];simp only[zft];simp
theorem yi3 (f t:ByteArray):(((⟨#[112]⟩:ByteArray)++f)++(⟨#[0]⟩:ByteArray))++t=str (112::(f.data.toList++0::t.data.toList)):=by
 apply zln;rw[zce];simp only[zft];simp
theorem yhj (f:ByteArray) (K:List UInt8):(((⟨#[119]⟩:ByteArray)++f)++(⟨#[0]⟩:ByteArray))++str K=str (119::(f.data.toList++0::K)):=by
 apply zln;rw[zce];simp only[zft,zce];simp
theorem yi5 (f:ByteArray):((⟨#[114]⟩:ByteArray)++f)++(⟨#[0]⟩:ByteArray)=str (114::(f.data.toList++0::[])):=by
 apply zln;rw[zce];simp only[zft];simp
theorem yi6 (f:ByteArray) (K:List UInt8):((⟨#[118]⟩:ByteArray)++f)++str K=str (118::(f.data.toList++K)):=by
 apply zln;rw[zce];simp only[zft,zce];simp
theorem zy6 (K:List UInt8) (t:ByteArray) (N:List UInt8):(str K++t)++str N=str (K++(t.data.toList++N)):=by
 apply zln;rw[zce];simp only[zft,zce];simp
theorem ye3 (K A B:List UInt8):(str K++str A)++str B=str (K++(A++B)):=by
 apply zln;rw[zce];simp only[zft,zce];simp
theorem zy7 {l:List FT} {q:QT} (hok:Qry.Ok q) (hl:Lfs l q):(zdy l q).length≤1000000000000000:=by
 cases hok with
 | @mk k o f t u lo hi b op ks _ _ hf ht hu hlo _ _ _ _ _=>
  have e1:f.data.toList.length=f.size:=by simp
  have e2:t.data.toList.length=t.size:=by simp
  have e3:u.data.toList.length=u.size:=by simp
  by_cases h34:k=3∨k=4
  ·cases hff:zbc l f with
   | none=>
    unfold zdy;rw[if_pos (show kd (QT.mk k o f t u lo hi b op ks)=3∨kd (QT.mk k o f t u lo hi b op ks)=4 from h34)];show (match zbc l f with | none=>_ | some f=>_:List UInt8).length≤_;rw[hff];exact Nat.zero_le _
   | some g=>
    rw[zgx l o f t u lo hi b op ks k h34 g hff];have h1:=zoc g.chain t;have h2:=zlk g.chain t;generalize (zf6 g.chain t).1=R at *;split
    ·match R,h1,h2 with
     | [],_,_=>exact Nat.zero_le _
     | x::ts,h1,h2=>
      have:=zim x.pos (x::ts) h2;simp only[List.length_cons,List.length_append] at *;omega
    ·simp only[List.length_cons,List.length_append];omega
  ·by_cases h6:k=6
   ·subst h6;rw[znm];split
    ·exact Nat.zero_le _
    ·simp only[List.length_cons,List.length_append];omega
   ·by_cases h5:k=5
    ·subst h5;have e:zdy l (.mk 5 o f t u lo hi b op ks)=112::(f.data.toList++0::t.data.toList):=(if_neg (show ¬((5:Int)=3∨(5:Int)=4) by omega)).trans ((if_neg (show ¬(5:Int)=6 by omega)).trans (if_pos rfl));rw[e];simp only[List.length_cons,List.length_append];omega
    ·have e:zdy l (.mk k o f t u lo hi b op ks)=match zbj lo hi with
      | none=>[]
      | some x=>114::(f.data.toList++0::x):=(if_neg (show ¬(k=3∨k=4) from h34)).trans ((if_neg (show ¬k=6 from h6)).trans (if_neg (show ¬k=5 from h5)))
     rw[e]
     have hb:∀(a b:List Int) (x:List UInt8),zbj a b=some x→x.length≤a.length*16:=by
      intro a
      induction a with
      | nil=>intro b x h;simp only[zbj,Option.some.injEq] at h;subst h;exact Nat.zero_le _
      | cons a l ih=>
       intro b x h
       cases b with
       | nil=>simp only[zbj,Option.some.injEq] at h;subst h;exact Nat.zero_le _
       | cons c r=>
        rw[zbj] at h;split at h
        ·cases h
        ·cases hbb:zbj l r with
         | none=>rw[hbb] at h;cases h
         | some y=>
          rw[hbb] at h;simp only[Option.map_some,Option.some.injEq] at h;subst h;have:=ih r y hbb;simp only[List.length_append,zc1,List.length_cons];omega
     cases hbb:zbj lo hi with
     | none=>exact Nat.zero_le _
     | some x=>
      have:=hb lo hi x hbb;have hlo:lo.length*8≤140737488351232:=hlo.1;simp only[List.length_cons,List.length_append];omega
end Go.Proofs.YtplkbdncgkgppaaGreatDoor.Qry
end
