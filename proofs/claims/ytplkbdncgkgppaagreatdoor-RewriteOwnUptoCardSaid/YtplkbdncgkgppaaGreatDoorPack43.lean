/- Lemmas that the last text leans on. -/
import Derived.Test.YtplkbdncgkgppaaGreatDoorTake
import Derived.Test.YtplkbdncgkgppaaGreatDoorPack30
import Derived.Test.YtplkbdncgkgppaaGreatDoorPack34
import Derived.Deep.QuietTactic
import Derived.BigQuiet
import Derived.Test.YtplkbdncgkgppaaGreatDoorPack38
import Derived.Test.YtplkbdncgkgppaaGreatDoorPack6
import Derived.Test.YtplkbdncgkgppaaGreatDoorPack39
import Derived.Test.YtplkbdncgkgppaaGreatDoorPack41
import Derived.Lib.AppendStr
import Derived.Test.YtplkbdncgkgppaaGreatDoorAnaToks4
import Derived.Test.YtplkbdncgkgppaaGreatDoorPack26
import Derived.Test.YtplkbdncgkgppaaGreatDoorPack3
import Derived.Test.YtplkbdncgkgppaaGreatDoorPack23
set_option linter.all false
set_option maxRecDepth 100000
set_option maxHeartbeats 2000000
section
namespace Go.Proofs.YtplkbdncgkgppaaGreatDoor.Ana
open Go.RowKit Go.Lib AnaP Words Tree Kit Owned
end Go.Proofs.YtplkbdncgkgppaaGreatDoor.Ana
end
section
namespace Go.Proofs.YtplkbdncgkgppaaGreatDoor.FoldRefRunes
open Go.RowKit Go.Lib FoldP FoldInts Kit FoldForms FoldNext FoldValid Words Owned
def ye4 (x:Nat × Int):Value:=.int .i64 (x.1:Int)
def ye5 (x:Nat × Int):Value:=.int .i32 x.2
end Go.Proofs.YtplkbdncgkgppaaGreatDoor.FoldRefRunes
end
section
namespace Go.Proofs.YtplkbdncgkgppaaGreatDoor.Ana
open Go.RowKit Go.Lib FoldP FoldNext FoldRefFold FoldAmong AnaP Words Tree Kit Owned
open FoldRefRunes (ye4 ye5)
end Go.Proofs.YtplkbdncgkgppaaGreatDoor.Ana
end
section
namespace Go.Proofs.YtplkbdncgkgppaaGreatDoor.Ana
open Go.RowKit Go.Lib FoldP FoldNext FoldRefFold FoldAmong AnaP Words Tree Kit Owned
open FoldRefRunes (ye4 ye5)
end Go.Proofs.YtplkbdncgkgppaaGreatDoor.Ana
end
section
namespace Go.Proofs.YtplkbdncgkgppaaGreatDoor.Ana
open Go.RowKit Go.Lib FoldP FoldNext AnaP Words Tree Kit Owned
end Go.Proofs.YtplkbdncgkgppaaGreatDoor.Ana
end
section
namespace Go.Proofs.YtplkbdncgkgppaaGreatDoor.Ana
open Go.RowKit Go.Lib FoldP FoldInts Kit FoldForms FoldNext AnaP Words Owned Tree
def zpj (r:List TokD × Int) (w:World) (e:Ending) (w':World):Prop:=
 ∃ao c,e = .returned (.tuple #[.slice ao r.1.length c,.int .i64 r.2])∧w'.ownsRow w.heap.size 98 4 (.slice ao r.1.length c) r.1.length (zah r.1)∧Below w.heap.size w w'
theorem zhb {k:Int} {w w':World} {e:Ending} (h:e = .returned (.tuple #[.slice none 0 0,.int .i64 k])) (hb:Below w.heap.size w w'):zpj ([],k) w e w':=⟨none,0,h,World.ownsRow_nil _ _ _ _,hb⟩
theorem yae (n:Int) (h1:1≤n) (h4:n≤4) (s:ByteArray) (w:World) (hs:s.size≤4096) (hT:zdi w):Calls Tryz.prog 69 #[.int .i64 n,.string s] w (zcn (zby n s) w):=by
 rcases (show n=1∨n=2∨n=3∨n=4 by omega) with rfl | rfl | rfl | rfl
 ·exact ye0 s w (by omega) hT
 ·exact ye1 s w (by omega) hT
 ·exact ye2 s w (by omega) hT
 ·exact ye3 s w (by omega) hT
theorem zhz {l:List Int} (h:zd5 l=true):1≤l.length∧l.length≤8∧1≤l.getD 0 0∧l.getD 0 0≤4∧∀n∈l.tail,zdb n=true:=by
 cases l with
 | nil=>cases h
 | cons a t=>
  simp only[zd5,Bool.and_eq_true,decide_eq_true_eq] at h;obtain ⟨⟨⟨h1,h2⟩,h3⟩,h4⟩:=h;refine ⟨by simp,by simp only[List.length_cons];omega,h2,h3,fun n hn=>?_⟩;obtain ⟨i,hi,rfl⟩:=List.mem_iff_getElem.1 hn;have h5:=(zkh t []).1 h4 i hi;have hi':i<t.length:=hi;have e:t.getD i 0=t[i]:=by rw[List.getD_eq_getElem?_getD,List.getElem?_eq_getElem hi'];rfl
  rw[e] at h5;exact h5.1
theorem zpk {T:List Int} {k:Nat} (h:k<T.length) (t:List TokD):zg5 (T.drop k) t=(match zkf T[k] t with
 | none=>([],84)
 | some t'=>zg5 (T.drop (k+1)) t'):=by
 rw[List.drop_eq_getElem_cons h];rfl
theorem yc7 (ao:Option Addr) (n c:Nat) (l:List Int) (s:ByteArray) (w:World) (hn:n=l.length) (hk:Reads w w.heap.size 1 ao n (zbi l)) (hc:n≤c) (hm:c≤maxLen) (h:zd5 l=false) :
 Calls Tryz.prog 48 #[.slice ao n c,.string s] w (zpj (zmx l s) w):=by
 have HC:=hX (zhs ao n c l w hn hk hc hm);rw[h] at HC;have HR:Hid (zmx l s=([],60)):=hX (by unfold zmx;rw[if_pos h]);rw[HR.out];clear hk hn h;go_enter Tryz.func48,Tryz.ntmps48;go_wp2_with fail;refine HC.out.mono ?_;rintro e w1 ⟨rfl,b1⟩;have HB:=hX b1;clear b1;go_wp2_with fail;go_ret2;exact zhb rfl HB.out
theorem yaf (ao:Option Addr) (n c:Nat) (l:List Int) (s:ByteArray) (w:World) (hn:n=l.length) (hk:Reads w w.heap.size 1 ao n (zbi l)) (hc:n≤c) (hm:c≤maxLen) (h:zd5 l=true) (hs:4096<s.size) (hs2:s.size≤9223372036854775807) :
 Calls Tryz.prog 48 #[.slice ao n c,.string s] w (zpj (zmx l s) w):=by
 have HC:=hX (zhs ao n c l w hn hk hc hm);rw[h] at HC;have HR:Hid (zmx l s=([],3)):=hX (by unfold zmx;rw[h,if_neg (by decide),if_pos hs]);have h1:decide ((4096:Int)<s.size)=true:=by rw[decide_eq_true_iff];omega
 rw[HR.out];clear hk hn h;go_enter Tryz.func48,Tryz.ntmps48;go_wp2_with fail;refine HC.out.mono ?_;rintro e w1 ⟨rfl,b1⟩;have HB:=hX b1;clear b1;go_wp2_with fail;go_ret2;exact zhb rfl HB.out
theorem ye6 (ad:Addr) (c:Nat) (a:Int) (T:List Int) (s:ByteArray) (w:World) (hk:Reads w w.heap.size 1 (some ad) (T.length+1) (zbi (a::T))) (hc:T.length+1≤c) (hm:c≤maxLen) (h:zd5 (a::T)=true) (hs:s.size≤4096) (hT:zdi w) :
 Calls Tryz.prog 48 #[.slice (some ad) (T.length+1) c,.string s] w (zpj (zmx (a::T) s) w):=by
 have HC:=hX (zhs (some ad) (T.length+1) c (a::T) w rfl hk hc hm);obtain ⟨_,h8,ha1,ha4,hf⟩:=zhz h;simp only[List.getD_cons_zero,List.length_cons,List.tail_cons] at ha1 ha4 hf h8;rw[h] at HC;have HF:=hX hf;have hl:=zqn a s
 obtain ⟨R,hR⟩:∃R,zmx (a::T) s=R:=⟨_,rfl⟩
 have HR:Hid (zg5 (T.drop 0) (zby a s)=R):=hX (by rw[←hR];unfold zmx;rw[h,if_neg (by decide),if_neg (by omega),if_neg (by simp only[List.getD_cons_zero];omega)];rfl);rw[hR];have HTS:Hid (∀t∈zby a s,t.text.size≤4096):=hX (fun t ht=>by have:=zop a s t ht;omega);have HTK:=hX (fun W hW=>yae a ha1 ha4 s W hs (hT.next hW));have HT:=hX hT;obtain ⟨ad',e,hba,hcell⟩:=hk.2 (by omega);cases e;have h0:w.cell? ad=some (.int .i64 a):=hcell 0 _ rfl;have HCE:Hid (∀(j:Nat) (v:Int),T[j]?=some v→w.cell? (ad.add (1+j))=some (.int .i64 v)):=hX (fun j v hj=>hcell (1+j) _ (by rw[Nat.add_comm];simp[zbi,hj]));have H0:=hX h0;have h40:decide ((4096:Int)<s.size)=false:=by rw[decide_eq_false_iff_not];omega
 have h41:¬4096<s.size:=by omega
 unfold maxLen at hm;clear hk h hT hR hf hcell h0;generalize zby a s=ts0 at *;have h50:¬4096<ts0.length:=by omega
 have h51:decide ((4096:Int)<ts0.length)=false:=by rw[decide_eq_false_iff_not];omega
 obtain ⟨n,hn⟩:∃n,n=T.length+1:=⟨_,rfl⟩
 rw[←hn] at HC hc ⊢;have hn1:n≤T.length+1:=by omega
 have hn2:T.length+1≤n:=by omega
 clear hn;by_cases hc1:c=1
 ·subst hc1;have hT0:T.length=0:=by omega
  obtain rfl:=List.eq_nil_of_length_eq_zero hT0;obtain rfl:n=1:=by simp at hn2;omega
  have HRE:Hid (R=(ts0,0)):=hX (by rw[←HR.out];rfl);clear hT0 HR;go_enter Tryz.func48,Tryz.ntmps48;go_wp2_with fail;refine HC.out.mono ?_;rintro e w1 ⟨rfl,b1⟩;have hc0:w1.cell? ad=some (.int .i64 a):=(b1.cell hba).trans H0.out;have HB1:=hX b1;clear b1;go_wp2_with fail;refine (HTK.out _ HB1.out).mono ?_;rintro e w2 ⟨v,rfl,o2,b2⟩;obtain ⟨aot,ct,rfl⟩:=zen o2;have HO2:=hX (zgn o2 HB1.out.size);have HB2:=hX (HB1.out.trans (b2.mono HB1.out.size));clear o2 b2 hc0;go_wp2_with fail;go_loopw [7,9,10,11,31] (fun o _ _ _ i wq=>o = .slice aot ts0.length ct∧i = .int .i64 0∧wq=w2) (fun _ _ _ _ _ _=>0);case atStart=>exact ⟨rfl,rfl,rfl⟩
  case round=>
   obtain ⟨rfl,rfl,rfl⟩:=hrel;go_wp2_with fail;go_ret2;rw[HRE.out];exact ⟨aot,ct,rfl,HO2.out,HB2.out⟩
 ·have a5:(c == 1)=false:=by rw[beq_eq_false_iff_ne];exact hc1
  go_enter Tryz.func48,Tryz.ntmps48;go_wp2_with fail;refine HC.out.mono ?_;rintro e w1 ⟨rfl,b1⟩;have hc0:w1.cell? ad=some (.int .i64 a):=(b1.cell hba).trans H0.out;have HB1:=hX b1;clear b1;go_wp2_with fail;refine (HTK.out _ HB1.out).mono ?_;rintro e w2 ⟨v,rfl,o2,b2⟩;obtain ⟨aot,ct,rfl⟩:=zen o2;have HO2:=hX (zgn o2 HB1.out.size);have HB2:=hX (HB1.out.trans (b2.mono HB1.out.size));clear o2 b2 hc0;go_wp2_with fail;go_loopw [7,9,10,11,31] (fun o _ _ _ i wq=>∃(k:Nat) (ts:List TokD) (ao:Option Addr) (co:Nat),k≤T.length∧ts.length≤4096∧i = .int .i64 k∧o = .slice ao ts.length co∧Hid (wq.ownsRow w.heap.size 98 4 (.slice ao ts.length co) ts.length (zah ts))∧Hid (zg5 (T.drop k) ts=R)∧Hid (∀t∈ts,t.text.size≤4096)∧Hid (Below w.heap.size w wq)) (fun _ _ _ _ i _=>T.length - (RowKit.intOf i).toNat);case atStart=>exact ⟨0,ts0,aot,ct,by omega,by omega,rfl,rfl,HO2,HR,HTS,HB2⟩
  case round=>
   obtain ⟨k,ts,ao,co,hk,htl,rfl,rfl,HO,HE,HX,HW⟩:=hrel;have hzr:=HW.out.size;by_cases hlt:k<T.length
   ·have hcw:wr.cell? (ad.add (1+k))=some (.int .i64 T[k]):=(HW.out.cell (by rw[zab];exact hba)).trans (HCE.out k T[k] (List.getElem?_eq_getElem hlt));have hcw2:wr.cell? ⟨ad.block,ad.off+1+k,none⟩=some (.int .i64 T[k]):=by rw[zqx _ (by omega),←Nat.add_assoc] at hcw;exact hcw
    have HST:=hX (zpk hlt ts);have hfk:=HF.out T[k] (List.getElem_mem hlt);clear hcw;generalize T[k]=x at *;have HL:=hX (fun W (hW:Below w.heap.size w W) hr=>yaa x hfk ao co ts W hr (by omega) (fun t ht=>by have:=HX.out t ht;omega) (HT.out.next hW));have HRD:=hX (Reads.of_own HO.out);have HX2:Hid (∀ts',zkf x ts=some ts'→∀t∈ts',t.text.size≤4096):=hX (fun ts' e=>zzf (p:=fun t=>t.text.size≤4096) (fun t y h1 h2=>by have:=zze x t.text y h2;exact Nat.le_trans this h1) HX.out e);have HX3:Hid (∀ts',zkf x ts=some ts'→ts'.length≤4096):=hX (fun ts' e=>ztg e);clear hfk;generalize zkf x ts=LR at *;go_wp2_with fail;refine (HL.out wr HW.out HRD.out).mono ?_;rintro e w3 (⟨rfl,rfl,b3⟩ | ⟨ts',ao',co',rfl,rfl,o3,b3⟩)
    ·have HN:Hid (R=([],84)):=hX (by rw[←HE.out,HST.out]);have HB3:=hX (HW.out.trans (b3.mono hzr));clear b3 hcw2;go_wp2_with fail;go_ret2;rw[HN.out];exact zhb rfl HB3.out
    ·have HN:Hid (zg5 (T.drop (k+1)) ts'=R):=hX (by rw[←HE.out,HST.out]);have HB3:=hX (HW.out.trans (b3.mono hzr));have HO3:=hX (zgn o3 hzr);have htl2:=HX3.out ts' rfl;have HX4:=hX (HX2.out ts' rfl);clear b3 hcw2 o3;go_wp2_with fail;go_roundw;case rel=>exact ⟨k+1,ts',ao',co',by omega,htl2,by go_num,rfl,HO3,HN,HX4,HB3⟩
     case measure=>simp[RowKit.intOf];omega
   ·obtain rfl:k=T.length:=by omega
    have HN:Hid (R=(ts,0)):=hX (by rw[←HE.out,List.drop_length];rfl);have hlt2:¬(T.length<n - 1):=by omega
    go_wp2_with fail;go_ret2;rw[HN.out];exact ⟨ao,co,rfl,HO.out,HW.out⟩
theorem run_any (ao:Option Addr) (n c:Nat) (l:List Int) (s:ByteArray) (w:World) (hn:n=l.length) (hk:Reads w w.heap.size 1 ao n (zbi l)) (hc:n≤c) (hm:c≤maxLen) (hs:s.size≤9223372036854775807) (hT:zdi w) :
 Calls Tryz.prog 48 #[.slice ao n c,.string s] w (zpj (zmx l s) w):=by
 cases h:zd5 l with
 | false=>exact yc7 ao n c l s w hn hk hc hm h
 | true=>
  by_cases h4:s.size≤4096
  ·have h1:=(zhz h).1;subst hn
   match l,h1 with
   | a::T,_=>
    obtain ⟨ad,rfl,_,_⟩:=hk.2 (by simp);exact ye6 ad c a T s w hk hc hm h h4 hT
  ·exact yaf ao n c l s w hn hk hc hm h (by omega) hs
end Go.Proofs.YtplkbdncgkgppaaGreatDoor.Ana
end
section
namespace Go.Proofs.YtplkbdncgkgppaaGreatDoor.Qry
open Go.RowKit Words Tree QryP Kit Owned Sch SchP RewP Ana Qck QckP FoldNext
inductive BoH:QT→Prop where
 | mk {k o b op:Int} {f t u:ByteArray} {lo hi:List Int} {ks:List QT} (h:k=9→0≤b∧b≤1048576) (hk:∀x∈ks,BoH x):BoH (.mk k o f t u lo hi b op ks)
def Snd (q:QT):Prop:=Qry.Ok q∧BoH q
theorem BoH.kids_ {q:QT} (h:BoH q):∀x∈kids q,BoH x:=by
 cases h with
 | mk _ hk=>exact hk
theorem Snd.kids_ {q:QT} (h:Snd q):∀x∈kids q,Snd x:=fun x hx=>⟨zxa q h.1 x hx,h.2.kids_ x hx⟩
theorem zh0:Snd zdz:=
 ⟨.mk ⟨by decide,by decide⟩ ⟨by decide,by decide⟩ (by decide) (by decide) (by decide) ⟨by decide,fun z hz=>by cases hz⟩ ⟨by decide,fun z hz=>by cases hz⟩ ⟨by decide,by decide⟩ ⟨by decide,by decide⟩ (by decide) (fun x hx=>by cases hx),.mk (fun h=>by cases h) (fun x hx=>by cases hx)⟩
section
variable {q:QT}
theorem Snd.withO {o:Int} (h:Snd q) (ho:Qry.I64 o):Snd (RewP.withO o q):=by
 refine ⟨zsh o h.1 ho,?_⟩
 cases h.2 with
 | mk hb hk=>exact .mk hb hk
theorem Snd.withK {k:Int} (h:Snd q) (hk:k=3∨k=4):Snd (RewP.withK k q):=by
 obtain ⟨h1,h2⟩:=h
 cases h2 with
 | mk _ hkb=>
  cases h1 with
  | mk hkd hoc hf ht hu hlo hhi hb hop hks hkk=>
   refine ⟨.mk ?_ hoc hf ht hu hlo hhi hb hop hks hkk,.mk (fun h=>by omega) hkb⟩;rcases hk with rfl | rfl <;> exact ⟨by decide,by decide⟩
theorem Snd.withT (h:Snd q):Snd (RewP.withT q):=by
 obtain ⟨h1,h2⟩:=h
 cases h2 with
 | mk _ hkb=>
  cases h1 with
  | mk hkd hoc hf ht hu hlo hhi hb hop hks hkk=>exact ⟨.mk ⟨by decide,by decide⟩ hoc hf ht (by decide) hlo hhi hb hop hks hkk,.mk (fun h=>by cases h) hkb⟩
theorem Snd.withB {b':Int} (h:Snd q) (hb':0≤b'∧b'≤1048576):Snd (RewP.withB b' q):=by
 obtain ⟨h1,h2⟩:=h
 cases h2 with
 | mk _ hkb=>
  cases h1 with
  | mk hkd hoc hf ht hu hlo hhi hb hop hks hkk=>exact ⟨.mk hkd hoc hf ht hu hlo hhi ⟨by omega,by omega⟩ hop hks hkk,.mk (fun _=>hb') hkb⟩
theorem Snd.withKids {l:List QT} (h:Snd q) (hl:∀x∈l,Snd x) (hn:l.length≤100000):Snd (RewP.withKids l q):=by
 obtain ⟨h1,h2⟩:=h
 cases h2 with
 | mk hb9 hkb=>
  cases h1 with
  | mk hkd hoc hf ht hu hlo hhi hb hop hks hkk=>exact ⟨.mk hkd hoc hf ht hu hlo hhi hb hop (by omega) (fun x hx=>(hl x hx).1),.mk hb9 (fun x hx=>(hl x hx).2)⟩
end
theorem zxv {l:List QT} (h:∀q∈l,Snd q):∀q∈zdw l,Snd q:=by
 have hm:∀q∈l.map zd0,Snd q:=fun q hq=>by
  obtain ⟨x,hx,rfl⟩:=List.mem_map.1 hq;unfold zd0;split
  ·exact (h x hx).withO ⟨by decide,by decide⟩
  ·exact h x hx
 intro q hq;unfold zdw at hq;split at hq
 ·exact hm q (List.mem_filter.1 hq).1
 ·exact hm q hq
theorem zma {l:List QT} (h:l.length≤100000):(zc3 l).1.length≤100000:=by
 unfold zc3;dsimp only;have h1:=zo4 h;generalize (zbo l.length l).getD l=a at *;have h2:=zhu a [];simp only[List.length_nil,Nat.zero_add] at h2;generalize zb7 [] a=b at *
 cases ho:zjk b with
 | none=>exact Nat.le_trans h2 h1
 | some x=>exact Nat.le_trans (zsi ho) (Nat.le_trans h2 h1)
theorem zpl:∀(n:Nat) {l:List QT},l.length≤100000→(zc4 n l).length≤100000
 | 0,l,h=>by rw[zc4];exact h
 | n+1,l,h=>by
  rw[zc4];split
  ·exact zpl n (zma h)
  ·exact zma h
theorem zpm:∀(n:Nat) {l:List QT},(∀q∈l,Snd q)→∀q∈zc4 n l,Snd q
 | 0,l,h=>by rw[zc4];exact h
 | n+1,l,h=>by
  have h1:=ztj (p:=Snd) (fun k _ hk x hx _=>hk.kids_ x hx) l h;rw[zc4];split
  ·exact zpm n h1
  ·exact h1
theorem zxw {s:Bool} {q:QT} (h:Snd q) (hn:(kids q).length≤100000):Snd (zkj s q):=by
 unfold zkj;split
 ·exact zh0
 dsimp only;have h1:∀x∈(kids q).filter (fun k=>decide (kd k≠2)),Snd x:=fun x hx=>h.kids_ x (List.mem_filter.1 hx).1;have n1:((kids q).filter (fun k=>decide (kd k≠2))).length≤100000:=Nat.le_trans (List.length_filter_le _ _) hn;generalize (kids q).filter (fun k=>decide (kd k≠2))=l1 at *
 have h2:∀x∈(if s=true then l1 else zdw l1),Snd x:=by
  split
  ·exact h1
  ·exact zxv h1
 have n2:(if s=true then l1 else zdw l1).length≤100000:=by
  split
  ·exact n1
  ·exact Nat.le_trans (zo5 l1) n1
 generalize (if s=true then l1 else zdw l1)=l2 at *;have h3:=zpm (zak l2+1) h2;have n3:=zpl (zak l2+1) n2;generalize zc4 (zak l2+1) l2=l3 at *;split
 ·unfold zup;split
  ·rename_i he
   match l3,he,h3 with
   | [x],_,h3=>exact h3 x (List.mem_singleton.2 rfl)
  ·exact h.withKids h3 n3
 ·exact zh0
theorem yag {l:List FT} {s:Bool} {q:QT} (h:Snd q) (hn:(kids q).length≤100000):Snd (zqp l s q):=by
 unfold zqp;split
 ·split
  ·exact h
  ·split
   ·split
    ·exact zh0
    ·split
     ·exact h.withK (.inl rfl)
     ·exact h.withK (.inr rfl)
   ·exact h
 split
 ·split
  ·exact zh0
  ·split
   ·exact h.withT
   ·exact h
 split
 ·split
  ·exact zh0
  ·exact h
 split
 ·split
  ·exact h
  ·rename_i k _ e
   have hk:Snd k:=h.kids_ k (by rw[e];exact List.mem_cons_self ..);split
   ·exact hk
   ·split
    ·rename_i h9
     refine hk.withB ?_;obtain ⟨h91,h92,h93⟩:=h9
     have b1:0≤bo q:=by
      obtain ⟨_,h2⟩:=h
      cases h2 with
      | mk hb _=>exact (hb h91).1
     have b2:0≤bo k:=by
      obtain ⟨_,h2⟩:=hk
      cases h2 with
      | mk hb _=>exact (hb h92).1
     exact ⟨Int.mul_nonneg b2 b1,by rw[Int.mul_comm];exact h93⟩
    ·exact h
 split
 ·exact zxw h hn
 ·exact h
inductive Fit (l:List FT):QT→Prop where
 | mk {k o b op:Int} {f t u:ByteArray} {lo hi:List Int} {ks:List QT} (h3:k=3∨k=4∨k=6→∃g,zbw l f=some g) (h7:k=7→lo.length=hi.length) (h9:k=9∨k=10→ks.length=1) (hn:ks.length≤100000) (hk:∀x∈ks,Fit l x):Fit l (.mk k o f t u lo hi b op ks)
theorem zeo (l:List FT) (s:Bool):∀ks:List QT,(zck l s ks).length=ks.length
 | []=>by rw[zck]
 | q::qs=>by rw[zck,List.length_cons,List.length_cons,zeo l s qs]
def keepB (s:Bool) (q:QT):Bool:=s && decide (oc q≠4) && decide (oc q≠3)
theorem zmb (l:List FT) (s:Bool):∀(ks:List QT) (i:Nat) (h:i<ks.length),zck l s (ks.take (i+1))=zck l s (ks.take i)++[zg7 l (keepB s ks[i]) ks[i]]
 | [],_,h=>by simp at h
 | q::qs,0,_=>by rw[List.take_succ_cons,List.take_zero,List.take_zero,zck,zck];rfl
 | q::qs,i+1,h=>by rw[List.take_succ_cons,zck,zmb l s qs i (by simpa using h),List.take_succ_cons,zck];rfl
mutual
theorem zpn {l:List FT} (s:Bool):∀q:QT,Fit l q→Snd q→Snd (zg7 l s q)
 | .mk k o f t u lo hi b p ks,hf,h=>by
  rw[zg7]
  have hn:ks.length≤100000:=by
   cases hf with
   | mk _ _ _ hn _=>exact hn
  have ho:Qry.I64 o:=by
   obtain ⟨h1,_⟩:=h
   cases h1 with
   | mk _ ho=>exact ho
  have hkk:∀x∈ks,Fit l x:=by
   cases hf with
   | mk _ _ _ _ hk=>exact hk
  have hl:=zk3 s ks hkk (fun x hx=>h.kids_ x hx);have e:QT.mk k o f t u lo hi b p (zck l s ks)=RewP.withKids (zck l s ks) (.mk k o f t u lo hi b p ks):=rfl;refine Snd.withO (yag ?_ ?_) ho
  ·rw[e];exact h.withKids hl (by rw[zeo];exact hn)
  ·show (zck l s ks).length≤100000;rw[zeo];exact hn
theorem zk3 {l:List FT} (s:Bool):∀ks:List QT,(∀x∈ks,Fit l x)→(∀x∈ks,Snd x)→∀x∈zck l s ks,Snd x
 | [],_,_=>by rw[zck];intro x hx;cases hx
 | q::qs,hf,h=>by
  rw[zck];intro x hx;rcases List.mem_cons.1 hx with rfl | hx
  ·exact zpn _ q (hf q (by simp)) (h q (by simp))
  ·exact zk3 s qs (fun y hy=>hf y (by simp[hy])) (fun y hy=>h y (by simp[hy])) x hx
end
structure Mst (w:World) (B:Nat) (l:List FT) (u:Value):Prop where
 at_:T.At bare w (fun g=>g<B) (zcm l) u
 len:l.length*72≤140737488351232
 fok:∀f∈l,FOk f
 tabs:zdi w
 tb:6≤B
 hB:B≤w.heap.size
theorem Mst.next {w w':World} {B:Nat} {l:List FT} {u:Value} (h:Mst w B l u) (hb:Below B w w'):Mst w' B l u:=
 ⟨At.below h.at_ hb (fun g hg=>hg),h.len,h.fok,h.tabs.below hb h.tb,h.tb,Nat.le_trans h.hB hb.size⟩
theorem Mst.mk_ {w:World} {B:Nat} {l:List FT} {u:Value} (h:Mst w B l u):Mk w l u:=
 ⟨At.keep (fun _ _=>rfl) (fun g hg=>Nat.lt_of_lt_of_le hg h.hB) h.at_,h.len⟩
end Go.Proofs.YtplkbdncgkgppaaGreatDoor.Qry
end
section
namespace RewP
open SchP QryP AnaP QckP
def zrc:QT→QT | .mk k _ f t u l h b p _=>.mk k 0 f t u l h b p []
structure LeafOk (l:List FT) (leaf:QT→Bool × Int) (wv:QT→Int→Int):Prop where
 range:∀q,ygl (leaf q).2
 wrange:∀q n,ygl (wv q n)
 term0:∀q f,(kd q=3∨kd q=4)→zbw l (fd q)=some f→f.kind=1→(zmx f.chain (tx q)).1.length=0→(leaf (zrc q)).1=false
 term1:∀q f k,(kd q=3∨kd q=4)→zbw l (fd q)=some f→f.kind=1→(zmx f.chain (tx q)).1.length≠0→(k=3∨k=4)→leaf (zrc (withK k q))=leaf (zrc q)
 terms0:∀q,kd q=6→gtL (tx q).data.toList (up q).data.toList=true→(leaf (zrc q)).1=false
 terms1:∀q,kd q=6→tx q=up q→zwi l (fd q)=2→leaf (zrc (withT q))=leaf (zrc q)
 range0:∀q,kd q=7→zkk (lo q) (hi q)=true→(leaf (zrc q)).1=false
section
variable {l:List FT} {leaf:QT→Bool × Int} {wv:QT→Int→Int}
variable (L:LeafOk l leaf wv)
include L
end
end RewP
end
section
namespace RewP
open SchP QryP AnaP QckP
section
variable {l:List FT} {leaf:QT→Bool × Int} {wv:QT→Int→Int} (L:LeafOk l leaf wv)
include L
end
section
variable {l:List FT} {leaf:QT→Bool × Int} {wv:QT→Int→Int}
end
end RewP
end
section
namespace RewP
open SchP QryP AnaP QckP
section
variable (l:List FT) (o:Int) (fl t u:ByteArray) (lo' hi':List Int) (b p:Int) (ks:List QT)
end
end RewP
end
section
namespace Go.Proofs.YtplkbdncgkgppaaGreatDoor.Qry
open Go.RowKit Words Tree QryP Kit Owned Sch SchP RewP Ana Qck QckP FoldNext
theorem zjn {a b:Int} (h:orE a b=0):a=0∧b=0:=by
 unfold orE at h;split at h
 ·exact ⟨‹_›,h⟩
 ·exact absurd h ‹_›
inductive Lfs (l:List FT):QT→Prop where
 | mk {k o b op:Int} {f t u:ByteArray} {lo hi:List Int} {ks:List QT} (hk1:1≤k∧k≤10) (h3:3≤k∧k≤7→∃g,zbw l f=some g) (h7:k=7→lo.length=hi.length∧lo.length≤4) (h9:k=9∨k=10→ks.length=1) (h10:k=10→lo.length=1) (hb:k=9→0≤b∧b≤1048576) (hk:∀x∈ks,Lfs l x):Lfs l (.mk k o f t u lo hi b op ks)
theorem zuc {f:ByteArray} (h:zbx f=true):f.size≠0:=by
 unfold zbx at h;simp only[Bool.and_eq_true,decide_eq_true_eq] at h;omega
mutual
theorem zh1 {l:List FT}:∀(u:Int) (a:Nat) (q:QT),zg6 l u a q=0→Fit l q∧Lfs l q∧BoH q∧zba u q=true
 | u,a,.mk k o f t up lo hi b p ks,h=>by
  rw[zg6] at h;obtain ⟨h1,h2⟩:=zjn h;unfold zzi at h1;split at h1
  ·exact absurd h1 (by decide)
  split at h1
  ·exact absurd h1 (by decide)
  rename_i hkn
  have hkn:ks.length≤32:=Nat.le_of_not_lt hkn
  have hown:zja (.mk k o f t up lo hi b p ks) u=true:=by
   cases hh:zja (.mk k o f t up lo hi b p ks) u with
   | true=>rfl
   | false=>
    rw[hh] at h1;have h1':(181:Int)=0:=h1;exact absurd h1' (by decide)
  rw[if_pos hown] at h1;obtain ⟨f1,f2,f3,f4,f5,f6,f7,f8,f9,f10,f11,f12,f13,f14⟩:=zjx hown
  have hfield:(3≤k∧k≤7∨k=10)→∃g,zbw l f=some g:=fun hk=>by
   have hs:=zuc (f2 hk);unfold ya1 at h1
   have h1':(if f.size=0 then (0:Int) else match zbw l f with
    | none=>81
    | some g=>zoq (.mk k o f t up lo hi b p ks) g)=0:=h1
   rw[if_neg hs] at h1'
   cases hf:zbw l f with
   | none=>
    rw[hf] at h1';have h2':(81:Int)=0:=h1';exact absurd h2' (by decide)
   | some g=>exact ⟨g,rfl⟩
  have ih:=zpo k (a+1) ks h2;refine ⟨.mk (fun hk=>hfield (by omega)) (fun hk=>(f6 hk).2.2.symm) f13 (by omega) ih.1,.mk f1 (fun hk=>hfield (.inl hk)) (fun hk=>⟨(f6 hk).2.2.symm,(f6 hk).2.1⟩) f13 (fun hk=>(f7 hk).1) f9 ih.2.1,.mk f9 ih.2.2.1,?_⟩;rw[zba,hown,ih.2.2.2];rfl
theorem zpo {l:List FT}:∀(u:Int) (a:Nat) (ks:List QT),ze7 l u a ks=0→(∀x∈ks,Fit l x)∧(∀x∈ks,Lfs l x)∧(∀x∈ks,BoH x)∧za5 u ks=true
 | u,a,[],_=>⟨fun x hx=>(by cases hx),fun x hx=>(by cases hx),fun x hx=>(by cases hx),by rw[za5]⟩
 | u,a,q::qs,h=>by
  rw[ze7] at h;obtain ⟨h1,h2⟩:=zjn h;obtain ⟨a1,a2,a3,a4⟩:=zh1 u a q h1;obtain ⟨b1,b2,b3,b4⟩:=zpo u a qs h2;refine ⟨fun x hx=>?_,fun x hx=>?_,fun x hx=>?_,by rw[za5,a4,b4];rfl⟩
  ·rcases List.mem_cons.1 hx with rfl | hx
   ·exact a1
   ·exact b1 x hx
  ·rcases List.mem_cons.1 hx with rfl | hx
   ·exact a2
   ·exact b2 x hx
  ·rcases List.mem_cons.1 hx with rfl | hx
   ·exact a3
   ·exact b3 x hx
end
def ya6 (q:QT):ReqT:=⟨q,[],[],0,⟨#[]⟩,[],[]⟩
theorem zgo {l:List FT} {q:QT} (h:zi5 l (ya6 q)=0):zg6 l 0 0 q=0:=(zjn (zjn h).2).1
def zh2 (l:List FT) (q:QT):QT:=if zi5 l (ya6 q)=0 then zg7 l true q else q
section
variable {l:List FT} {q:QT}
end
end Go.Proofs.YtplkbdncgkgppaaGreatDoor.Qry
end
section
namespace Go.Proofs.YtplkbdncgkgppaaGreatDoor.Qry
open Go.RowKit Words Tree QryP Kit Sch SchP Owned RewP QckP
def za3:List FT:=[⟨⟨#[98,111,100,121]⟩,1,[1,10],0,0,false,false⟩,⟨⟨#[116,97,103]⟩,2,[],0,0,false,false⟩,⟨⟨#[110]⟩,3,[],0,0,false,false⟩]
def zb2 (s:ByteArray):QT:=match zbf zan zbm s.data.toList with
 | .ok q=>q
 | .error _=>zdz
theorem zpp:za3.length*72≤140737488351232∧∀f∈za3,FOk f:=by
 refine ⟨by decide,fun f hf=>?_⟩;simp only[za3,List.mem_cons,List.not_mem_nil,or_false] at hf;rcases hf with rfl | rfl | rfl
 all_goals exact ⟨by decide,by unfold Sch.I64;decide,⟨by decide,fun z hz=>by (first | (simp at hz;unfold Sch.I64;omega) | (simp at hz))⟩,by unfold Sch.I64;decide,by unfold Sch.I64;decide⟩
def mt0:ByteArray:=⟨#[116,101,114,109,40,98,111,100,121,44,32,34,97,32,98,34,41]⟩
def mo0:ByteArray:=⟨#[112,104,114,97,115,101,40,98,111,100,121,44,32,34,97,32,98,34,41]⟩
theorem mp0:zbf zan zbm mt0.data.toList = .ok (zb2 mt0):=by kernel_rfl
theorem mr0:zbf zan zbm mo0.data.toList = .ok (zh2 za3 (zb2 mt0)):=by kernel_rfl
theorem mw0:str (zh6 zan (zh2 za3 (zb2 mt0)))=mo0:=by kernel_rfl
def mt1:ByteArray:=⟨#[116,101,114,109,40,98,111,100,121,44,32,34,45,34,41]⟩
def mo1:ByteArray:=⟨#[110,111,110,101]⟩
theorem mp1:zbf zan zbm mt1.data.toList = .ok (zb2 mt1):=by kernel_rfl
theorem mr1:zbf zan zbm mo1.data.toList = .ok (zh2 za3 (zb2 mt1)):=by kernel_rfl
theorem mw1:str (zh6 zan (zh2 za3 (zb2 mt1)))=mo1:=by kernel_rfl
def mt2:ByteArray:=⟨#[116,101,114,109,115,40,116,97,103,44,32,34,97,34,44,32,34,97,34,41]⟩
def mo2:ByteArray:=⟨#[116,101,114,109,40,116,97,103,44,32,34,97,34,41]⟩
theorem mp2:zbf zan zbm mt2.data.toList = .ok (zb2 mt2):=by kernel_rfl
theorem mr2:zbf zan zbm mo2.data.toList = .ok (zh2 za3 (zb2 mt2)):=by kernel_rfl
theorem mw2:str (zh6 zan (zh2 za3 (zb2 mt2)))=mo2:=by kernel_rfl
def mt3:ByteArray:=⟨#[98,111,111,108,40,61,97,108,108,41]⟩
def mo3:ByteArray:=⟨#[98,111,111,108,40,61,97,108,108,41]⟩
theorem mp3:zbf zan zbm mt3.data.toList = .ok (zb2 mt3):=by kernel_rfl
theorem mr3:zbf zan zbm mo3.data.toList = .ok (zh2 za3 (zb2 mt3)):=by kernel_rfl
theorem mw3:str (zh6 zan (zh2 za3 (zb2 mt3)))=mo3:=by kernel_rfl
def mt4:ByteArray:=⟨#[98,111,111,108,40,45,97,108,108,41]⟩
def mo4:ByteArray:=⟨#[110,111,110,101]⟩
theorem mp4:zbf zan zbm mt4.data.toList = .ok (zb2 mt4):=by kernel_rfl
theorem mr4:zbf zan zbm mo4.data.toList = .ok (zh2 za3 (zb2 mt4)):=by kernel_rfl
theorem mw4:str (zh6 zan (zh2 za3 (zb2 mt4)))=mo4:=by kernel_rfl
def mt5:ByteArray:=⟨#[98,111,111,108,40,43,116,101,114,109,40,98,111,100,121,44,32,34,97,34,41,44,32,61,98,111,111,108,40,43,116,101,114,109,40,116,97,103,44,32,34,120,34,41,44,32,63,97,108,108,44,32,45,110,111,110,101,41,41]⟩
def mo5:ByteArray:=⟨#[98,111,111,108,40,43,116,101,114,109,40,98,111,100,121,44,32,34,97,34,41,44,32,61,116,101,114,109,40,116,97,103,44,32,34,120,34,41,41]⟩
theorem mp5:zbf zan zbm mt5.data.toList = .ok (zb2 mt5):=by kernel_rfl
theorem mr5:zbf zan zbm mo5.data.toList = .ok (zh2 za3 (zb2 mt5)):=by kernel_rfl
theorem mw5:str (zh6 zan (zh2 za3 (zb2 mt5)))=mo5:=by kernel_rfl
def mt6:ByteArray:=⟨#[98,111,111,115,116,40,50,44,32,98,111,111,115,116,40,51,44,32,97,108,108,41,41]⟩
def mo6:ByteArray:=⟨#[98,111,111,115,116,40,54,44,32,97,108,108,41]⟩
theorem mp6:zbf zan zbm mt6.data.toList = .ok (zb2 mt6):=by kernel_rfl
theorem mr6:zbf zan zbm mo6.data.toList = .ok (zh2 za3 (zb2 mt6)):=by kernel_rfl
theorem mw6:str (zh6 zan (zh2 za3 (zb2 mt6)))=mo6:=by kernel_rfl
def mt7:ByteArray:=⟨#[98,111,111,108,40,43,97,108,108,44,32,45,98,111,111,115,116,40,53,44,32,116,101,114,109,40,116,97,103,44,32,34,120,34,41,41,41]⟩
def mo7:ByteArray:=⟨#[98,111,111,108,40,43,97,108,108,44,32,45,116,101,114,109,40,116,97,103,44,32,34,120,34,41,41]⟩
theorem mp7:zbf zan zbm mt7.data.toList = .ok (zb2 mt7):=by kernel_rfl
theorem mr7:zbf zan zbm mo7.data.toList = .ok (zh2 za3 (zb2 mt7)):=by kernel_rfl
theorem mw7:str (zh6 zan (zh2 za3 (zb2 mt7)))=mo7:=by kernel_rfl
end Go.Proofs.YtplkbdncgkgppaaGreatDoor.Qry
end
