/- Lemmas that the last text leans on. -/
import Derived.Test.YtigfcihakghddaaGreatDoorTake
import Derived.Test.YtigfcihakghddaaGreatDoorPack13
import Derived.Test.YtigfcihakghddaaGreatDoorPack15
import Derived.Deep.QuietTactic
import Derived.BigQuiet
import Derived.Test.YtigfcihakghddaaGreatDoorPack22
import Derived.Test.YtigfcihakghddaaGreatDoorPack4
import Derived.Test.YtigfcihakghddaaGreatDoorPack24
import Derived.Test.YtigfcihakghddaaGreatDoorPack28
import Derived.Lib.AppendStr
import Derived.Test.YtigfcihakghddaaGreatDoorAnaToks4
set_option linter.all false
set_option maxRecDepth 100000
set_option maxHeartbeats 2000000
section
namespace Go.Proofs.YtigfcihakghddaaGreatDoor.Ana
open Go.RowKit Go.Lib AnaP Words Tree Kit Owned
end Go.Proofs.YtigfcihakghddaaGreatDoor.Ana
end
section
namespace Go.Proofs.YtigfcihakghddaaGreatDoor.FoldRefRunes
open Go.RowKit Go.Lib FoldP FoldInts Kit FoldForms FoldNext FoldValid Words Owned
def cellP (x:Nat × Int):Value:=.int .i64 (x.1:Int)
def cellR (x:Nat × Int):Value:=.int .i32 x.2
end Go.Proofs.YtigfcihakghddaaGreatDoor.FoldRefRunes
end
section
namespace Go.Proofs.YtigfcihakghddaaGreatDoor.Ana
open Go.RowKit Go.Lib FoldP FoldNext FoldRefFold FoldAmong AnaP Words Tree Kit Owned
open FoldRefRunes (cellP cellR)
end Go.Proofs.YtigfcihakghddaaGreatDoor.Ana
end
section
namespace Go.Proofs.YtigfcihakghddaaGreatDoor.Ana
open Go.RowKit Go.Lib FoldP FoldNext FoldRefFold FoldAmong AnaP Words Tree Kit Owned
open FoldRefRunes (cellP cellR)
end Go.Proofs.YtigfcihakghddaaGreatDoor.Ana
end
section
namespace Go.Proofs.YtigfcihakghddaaGreatDoor.Ana
open Go.RowKit Go.Lib FoldP FoldNext AnaP Words Tree Kit Owned
end Go.Proofs.YtigfcihakghddaaGreatDoor.Ana
end
section
namespace Go.Proofs.YtigfcihakghddaaGreatDoor.Ana
open Go.RowKit Go.Lib FoldP FoldInts Kit FoldForms FoldNext AnaP Words Owned Tree
def RunRet (r:List TokD × Int) (w:World) (e:Ending) (w':World):Prop:=
 ∃ao c,e = .returned (.tuple #[.slice ao r.1.length c,.int .i64 r.2])∧w'.ownsRow w.heap.size 179 4 (.slice ao r.1.length c) r.1.length (tokCells r.1)∧Below w.heap.size w w'
theorem runRet_none {k:Int} {w w':World} {e:Ending} (h:e = .returned (.tuple #[.slice none 0 0,.int .i64 k])) (hb:Below w.heap.size w w'):RunRet ([],k) w e w':=⟨none,0,h,World.ownsRow_nil _ _ _ _,hb⟩
theorem toks_any (n:Int) (h1:1≤n) (h4:n≤4) (s:ByteArray) (w:World) (hs:s.size≤4096) (hT:Tabs w):Calls Tryz.prog 122 #[.int .i64 n,.string s] w (OwnToks (tokensF n s) w):=by
 rcases (show n=1∨n=2∨n=3∨n=4 by omega) with rfl | rfl | rfl | rfl
 ·exact toks_1 s w (by omega) hT
 ·exact toks_2 s w (by omega) hT
 ·exact toks_3 s w (by omega) hT
 ·exact toks_4 s w (by omega) hT
theorem check_filters {l:List Int} (h:checkB l=true):1≤l.length∧l.length≤8∧1≤l.getD 0 0∧l.getD 0 0≤4∧∀n∈l.tail,filterB n=true:=by
 cases l with
 | nil=>cases h
 | cons a t=>
  simp only[checkB,Bool.and_eq_true,decide_eq_true_eq] at h;obtain ⟨⟨⟨h1,h2⟩,h3⟩,h4⟩:=h;refine ⟨by simp,by simp only[List.length_cons];omega,h2,h3,fun n hn=>?_⟩;obtain ⟨i,hi,rfl⟩:=List.mem_iff_getElem.1 hn;have h5:=(checkGo_iff t []).1 h4 i hi;have hi':i<t.length:=hi;have e:t.getD i 0=t[i]:=by rw[List.getD_eq_getElem?_getD,List.getElem?_eq_getElem hi'];rfl
  rw[e] at h5;exact h5.1
theorem linkAll_step {T:List Int} {k:Nat} (h:k<T.length) (t:List TokD):linkAll (T.drop k) t=(match linkF T[k] t with
 | none=>([],84)
 | some t'=>linkAll (T.drop (k+1)) t'):=by
 rw[List.drop_eq_getElem_cons h];rfl
theorem run_bad (ao:Option Addr) (n c:Nat) (l:List Int) (s:ByteArray) (w:World) (hn:n=l.length) (hk:Reads w w.heap.size 1 ao n (intCells l)) (hc:n≤c) (hm:c≤maxLen) (h:checkB l=false) :
 Calls Tryz.prog 102 #[.slice ao n c,.string s] w (RunRet (runF l s) w):=by
 have HC:=hX (check_any ao n c l w hn hk hc hm);rw[h] at HC;have HR:Hid (runF l s=([],60)):=hX (by unfold runF;rw[if_pos h]);rw[HR.out];clear hk hn h;go_enter Tryz.func102,Tryz.ntmps102;go_wp2_with fail;refine HC.out.mono ?_;rintro e w1 ⟨rfl,b1⟩;have HB:=hX b1;clear b1;go_wp2_with fail;go_ret2;exact runRet_none rfl HB.out
theorem run_long (ao:Option Addr) (n c:Nat) (l:List Int) (s:ByteArray) (w:World) (hn:n=l.length) (hk:Reads w w.heap.size 1 ao n (intCells l)) (hc:n≤c) (hm:c≤maxLen) (h:checkB l=true) (hs:4096<s.size) (hs2:s.size≤9223372036854775807) :
 Calls Tryz.prog 102 #[.slice ao n c,.string s] w (RunRet (runF l s) w):=by
 have HC:=hX (check_any ao n c l w hn hk hc hm);rw[h] at HC;have HR:Hid (runF l s=([],3)):=hX (by unfold runF;rw[h,if_neg (by decide),if_pos hs]);have h1:decide ((4096:Int)<s.size)=true:=by rw[decide_eq_true_iff];omega
 rw[HR.out];clear hk hn h;go_enter Tryz.func102,Tryz.ntmps102;go_wp2_with fail;refine HC.out.mono ?_;rintro e w1 ⟨rfl,b1⟩;have HB:=hX b1;clear b1;go_wp2_with fail;go_ret2;exact runRet_none rfl HB.out
theorem run_go (ad:Addr) (c:Nat) (a:Int) (T:List Int) (s:ByteArray) (w:World) (hk:Reads w w.heap.size 1 (some ad) (T.length+1) (intCells (a::T))) (hc:T.length+1≤c) (hm:c≤maxLen) (h:checkB (a::T)=true) (hs:s.size≤4096) (hT:Tabs w) :
 Calls Tryz.prog 102 #[.slice (some ad) (T.length+1) c,.string s] w (RunRet (runF (a::T) s) w):=by
 have HC:=hX (check_any (some ad) (T.length+1) c (a::T) w rfl hk hc hm);obtain ⟨_,h8,ha1,ha4,hf⟩:=check_filters h;simp only[List.getD_cons_zero,List.length_cons,List.tail_cons] at ha1 ha4 hf h8;rw[h] at HC;have HF:=hX hf;have hl:=tokensF_len a s
 obtain ⟨R,hR⟩:∃R,runF (a::T) s=R:=⟨_,rfl⟩
 have HR:Hid (linkAll (T.drop 0) (tokensF a s)=R):=hX (by rw[←hR];unfold runF;rw[h,if_neg (by decide),if_neg (by omega),if_neg (by simp only[List.getD_cons_zero];omega)];rfl);rw[hR];have HTS:Hid (∀t∈tokensF a s,t.text.size≤4096):=hX (fun t ht=>by have:=tokensF_size a s t ht;omega);have HTK:=hX (fun W hW=>toks_any a ha1 ha4 s W hs (hT.next hW));have HT:=hX hT;obtain ⟨ad',e,hba,hcell⟩:=hk.2 (by omega);cases e;have h0:w.cell? ad=some (.int .i64 a):=hcell 0 _ rfl;have HCE:Hid (∀(j:Nat) (v:Int),T[j]?=some v→w.cell? (ad.add (1+j))=some (.int .i64 v)):=hX (fun j v hj=>hcell (1+j) _ (by rw[Nat.add_comm];simp[intCells,hj]));have H0:=hX h0;have h40:decide ((4096:Int)<s.size)=false:=by rw[decide_eq_false_iff_not];omega
 have h41:¬4096<s.size:=by omega
 unfold maxLen at hm;clear hk h hT hR hf hcell h0;generalize tokensF a s=ts0 at *;have h50:¬4096<ts0.length:=by omega
 have h51:decide ((4096:Int)<ts0.length)=false:=by rw[decide_eq_false_iff_not];omega
 obtain ⟨n,hn⟩:∃n,n=T.length+1:=⟨_,rfl⟩
 rw[←hn] at HC hc ⊢;have hn1:n≤T.length+1:=by omega
 have hn2:T.length+1≤n:=by omega
 clear hn;by_cases hc1:c=1
 ·subst hc1;have hT0:T.length=0:=by omega
  obtain rfl:=List.eq_nil_of_length_eq_zero hT0;obtain rfl:n=1:=by simp at hn2;omega
  have HRE:Hid (R=(ts0,0)):=hX (by rw[←HR.out];rfl);clear hT0 HR;go_enter Tryz.func102,Tryz.ntmps102;go_wp2_with fail;refine HC.out.mono ?_;rintro e w1 ⟨rfl,b1⟩;have hc0:w1.cell? ad=some (.int .i64 a):=(b1.cell hba).trans H0.out;have HB1:=hX b1;clear b1;go_wp2_with fail;refine (HTK.out _ HB1.out).mono ?_;rintro e w2 ⟨v,rfl,o2,b2⟩;obtain ⟨aot,ct,rfl⟩:=own_slice2 o2;have HO2:=hX (own_base o2 HB1.out.size);have HB2:=hX (HB1.out.trans (b2.mono HB1.out.size));clear o2 b2 hc0;go_wp2_with fail;go_loopw [7,9,10,11,31] (fun o _ _ _ i wq=>o = .slice aot ts0.length ct∧i = .int .i64 0∧wq=w2) (fun _ _ _ _ _ _=>0);case atStart=>exact ⟨rfl,rfl,rfl⟩
  case round=>
   obtain ⟨rfl,rfl,rfl⟩:=hrel;go_wp2_with fail;go_ret2;rw[HRE.out];exact ⟨aot,ct,rfl,HO2.out,HB2.out⟩
 ·have a5:(c == 1)=false:=by rw[beq_eq_false_iff_ne];exact hc1
  go_enter Tryz.func102,Tryz.ntmps102;go_wp2_with fail;refine HC.out.mono ?_;rintro e w1 ⟨rfl,b1⟩;have hc0:w1.cell? ad=some (.int .i64 a):=(b1.cell hba).trans H0.out;have HB1:=hX b1;clear b1;go_wp2_with fail;refine (HTK.out _ HB1.out).mono ?_;rintro e w2 ⟨v,rfl,o2,b2⟩;obtain ⟨aot,ct,rfl⟩:=own_slice2 o2;have HO2:=hX (own_base o2 HB1.out.size);have HB2:=hX (HB1.out.trans (b2.mono HB1.out.size));clear o2 b2 hc0;go_wp2_with fail;go_loopw [7,9,10,11,31] (fun o _ _ _ i wq=>∃(k:Nat) (ts:List TokD) (ao:Option Addr) (co:Nat),k≤T.length∧ts.length≤4096∧i = .int .i64 k∧o = .slice ao ts.length co∧Hid (wq.ownsRow w.heap.size 179 4 (.slice ao ts.length co) ts.length (tokCells ts))∧Hid (linkAll (T.drop k) ts=R)∧Hid (∀t∈ts,t.text.size≤4096)∧Hid (Below w.heap.size w wq)) (fun _ _ _ _ i _=>T.length - (RowKit.intOf i).toNat);case atStart=>exact ⟨0,ts0,aot,ct,by omega,by omega,rfl,rfl,HO2,HR,HTS,HB2⟩
  case round=>
   obtain ⟨k,ts,ao,co,hk,htl,rfl,rfl,HO,HE,HX,HW⟩:=hrel;have hzr:=HW.out.size;by_cases hlt:k<T.length
   ·have hcw:wr.cell? (ad.add (1+k))=some (.int .i64 T[k]):=(HW.out.cell (by rw[block_of_add];exact hba)).trans (HCE.out k T[k] (List.getElem?_eq_getElem hlt));have hcw2:wr.cell? ⟨ad.block,ad.off+1+k,none⟩=some (.int .i64 T[k]):=by rw[add_pos _ (by omega),←Nat.add_assoc] at hcw;exact hcw
    have HST:=hX (linkAll_step hlt ts);have hfk:=HF.out T[k] (List.getElem_mem hlt);clear hcw;generalize T[k]=x at *;have HL:=hX (fun W (hW:Below w.heap.size w W) hr=>link_any x hfk ao co ts W hr (by omega) (fun t ht=>by have:=HX.out t ht;omega) (HT.out.next hW));have HRD:=hX (Reads.of_own HO.out);have HX2:Hid (∀ts',linkF x ts=some ts'→∀t∈ts',t.text.size≤4096):=hX (fun ts' e=>link_all (p:=fun t=>t.text.size≤4096) (fun t y h1 h2=>by have:=one_size x t.text y h2;exact Nat.le_trans this h1) HX.out e);have HX3:Hid (∀ts',linkF x ts=some ts'→ts'.length≤4096):=hX (fun ts' e=>linkF_len4 e);clear hfk;generalize linkF x ts=LR at *;go_wp2_with fail;refine (HL.out wr HW.out HRD.out).mono ?_;rintro e w3 (⟨rfl,rfl,b3⟩ | ⟨ts',ao',co',rfl,rfl,o3,b3⟩)
    ·have HN:Hid (R=([],84)):=hX (by rw[←HE.out,HST.out]);have HB3:=hX (HW.out.trans (b3.mono hzr));clear b3 hcw2;go_wp2_with fail;go_ret2;rw[HN.out];exact runRet_none rfl HB3.out
    ·have HN:Hid (linkAll (T.drop (k+1)) ts'=R):=hX (by rw[←HE.out,HST.out]);have HB3:=hX (HW.out.trans (b3.mono hzr));have HO3:=hX (own_base o3 hzr);have htl2:=HX3.out ts' rfl;have HX4:=hX (HX2.out ts' rfl);clear b3 hcw2 o3;go_wp2_with fail;go_roundw;case rel=>exact ⟨k+1,ts',ao',co',by omega,htl2,by go_num,rfl,HO3,HN,HX4,HB3⟩
     case measure=>simp[RowKit.intOf];omega
   ·obtain rfl:k=T.length:=by omega
    have HN:Hid (R=(ts,0)):=hX (by rw[←HE.out,List.drop_length];rfl);have hlt2:¬(T.length<n - 1):=by omega
    go_wp2_with fail;go_ret2;rw[HN.out];exact ⟨ao,co,rfl,HO.out,HW.out⟩
theorem run_any (ao:Option Addr) (n c:Nat) (l:List Int) (s:ByteArray) (w:World) (hn:n=l.length) (hk:Reads w w.heap.size 1 ao n (intCells l)) (hc:n≤c) (hm:c≤maxLen) (hs:s.size≤9223372036854775807) (hT:Tabs w) :
 Calls Tryz.prog 102 #[.slice ao n c,.string s] w (RunRet (runF l s) w):=by
 cases h:checkB l with
 | false=>exact run_bad ao n c l s w hn hk hc hm h
 | true=>
  by_cases h4:s.size≤4096
  ·have h1:=(check_filters h).1;subst hn
   match l,h1 with
   | a::T,_=>
    obtain ⟨ad,rfl,_,_⟩:=hk.2 (by simp);exact run_go ad c a T s w hk hc hm h h4 hT
  ·exact run_long ao n c l s w hn hk hc hm h (by omega) hs
end Go.Proofs.YtigfcihakghddaaGreatDoor.Ana
end
