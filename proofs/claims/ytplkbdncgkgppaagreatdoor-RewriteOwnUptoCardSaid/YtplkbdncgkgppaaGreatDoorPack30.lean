/- Lemmas that the last text leans on. -/
import Derived.Test.YtplkbdncgkgppaaGreatDoorTake
import Derived.Test.YtplkbdncgkgppaaGreatDoorProg
import Derived.Test.YtplkbdncgkgppaaGreatDoorPack25
import Derived.Test.YtplkbdncgkgppaaGreatDoorPack2
import Derived.BigGuardPart
import Derived.Outline
import Derived.Test.YtplkbdncgkgppaaGreatDoorPack5
import Derived.LoopTactic
import Derived.Test.YtplkbdncgkgppaaGreatDoorPack6
import Derived.Test.YtplkbdncgkgppaaGreatDoorPack29
import Derived.Laws.EntriesVeiled
import Derived.Deep.LoopGhost
set_option linter.all false
set_option maxRecDepth 100000
set_option maxHeartbeats 8000000
section
namespace Go.Proofs.YtplkbdncgkgppaaGreatDoor.Ana
open Go.RowKit Go.Lib AnaP Words Kit
def zdc (b:Bool) (w:World) (e:Ending) (w':World):Prop:=e = .returned (.bool b)∧w=w'
theorem zzs (w:World):(binOp .eql 151 .nilFunc .nilFunc).run Tryz.prog w = .ok (.bool true) w:=by rfl
theorem yct (F:Nat) (cap:Array Value) (w:World):(binOp .eql 151 (.func (.func F) #[] cap) .nilFunc).run Tryz.prog w = .ok (.bool false) w:=by rfl
theorem zoy (n:Int) (w:World):Calls Tryz.prog 132 #[.int .i64 n] w fun e w'=>e = .returned (.func (.func 162) #[] #[.pointer (some ⟨w.heap.size,0,none⟩)])∧w'=w.alloc (.cells #[.int .i64 n] 3):=by
 have hmf:∀(fn:Fn) (first cap:Array Value) (w:World),(Instr.makeFunc fn first cap).run Tryz.prog w = .ok (.func fn first cap) w:=fun _ _ _ _=>rfl;go_enter Tryz.func132,Tryz.ntmps132;go_wp2_with fail;go_ret;exact ⟨rfl,rfl⟩
theorem zwt (n:Int) (w:World) (h:zdb n=false):Calls Tryz.prog 102 #[.int .i64 n] w fun e w'=>e = .returned .nilFunc∧w=w':=by
 have h0:¬(10≤n∧n≤15):=by unfold zdb at h;simpa using h
 have h1:(n == 10)=false:=by rw[beq_eq_false_iff_ne];omega
 have h2:(n == 11)=false:=by rw[beq_eq_false_iff_ne];omega
 have h3:(n == 12)=false:=by rw[beq_eq_false_iff_ne];omega
 have h4:(n == 13)=false:=by rw[beq_eq_false_iff_ne];omega
 have h5:(n == 14)=false:=by rw[beq_eq_false_iff_ne];omega
 have h6:(n == 15)=false:=by rw[beq_eq_false_iff_ne];omega
 clear h h0;go_enter Tryz.func102,Tryz.ntmps102;go_wp2_with fail;go_ret;exact ⟨rfl,rfl⟩
theorem zwu (w:World):Calls Tryz.prog 102 #[.int .i64 10] w fun e w'=>e = .returned (.func (.func 130) #[] #[])∧w=w':=by
 go_enter Tryz.func102,Tryz.ntmps102;go_wp2_with fail;go_ret;exact ⟨rfl,rfl⟩
theorem zwv (w:World):Calls Tryz.prog 102 #[.int .i64 11] w fun e w'=>e = .returned (.func (.func 131) #[] #[])∧w=w':=by
 go_enter Tryz.func102,Tryz.ntmps102;go_wp2_with fail;go_ret;exact ⟨rfl,rfl⟩
theorem zww (w:World):Calls Tryz.prog 102 #[.int .i64 12] w fun e w'=>e = .returned (.func (.func 162) #[] #[.pointer (some ⟨w.heap.size,0,none⟩)])∧w'=w.alloc (.cells #[.int .i64 2] 3):=by
 go_enter Tryz.func102,Tryz.ntmps102;go_wp2_with fail;refine (zoy _ _).mono ?_;rintro e w' ⟨rfl,rfl⟩;go_wp2_with fail;go_ret;exact ⟨rfl,rfl⟩
theorem zwx (w:World):Calls Tryz.prog 102 #[.int .i64 13] w fun e w'=>e = .returned (.func (.func 162) #[] #[.pointer (some ⟨w.heap.size,0,none⟩)])∧w'=w.alloc (.cells #[.int .i64 3] 3):=by
 go_enter Tryz.func102,Tryz.ntmps102;go_wp2_with fail;refine (zoy _ _).mono ?_;rintro e w' ⟨rfl,rfl⟩;go_wp2_with fail;go_ret;exact ⟨rfl,rfl⟩
theorem zwy (w:World):Calls Tryz.prog 102 #[.int .i64 14] w fun e w'=>e = .returned (.func (.func 133) #[] #[])∧w=w':=by
 go_enter Tryz.func102,Tryz.ntmps102;go_wp2_with fail;go_ret;exact ⟨rfl,rfl⟩
theorem zwz (w:World):Calls Tryz.prog 102 #[.int .i64 15] w fun e w'=>e = .returned (.func (.func 134) #[] #[])∧w=w':=by
 go_enter Tryz.func102,Tryz.ntmps102;go_wp2_with fail;go_ret;exact ⟨rfl,rfl⟩
end Go.Proofs.YtplkbdncgkgppaaGreatDoor.Ana
end
section
namespace Go.Proofs.YtplkbdncgkgppaaGreatDoor.Ana
open Go.RowKit Go.Lib AnaP Words Tree Kit Owned
def zbi (l:List Int):List Value:=l.map (Value.int .i64)
theorem reads_int {w:World} {B n:Nat} {ao:Option Addr} {xs:List Int} (h:Reads w B 1 ao n (zbi xs)) (hn:n=xs.length) {k:Nat} (hk:k<xs.length):∃ad,ao=some ad∧ad.block<B∧w.cell? (ad.add k)=some (.int .i64 xs[k]):=by
 obtain ⟨ad,e,hb,hc⟩:=h.2 (by omega);exact ⟨ad,e,hb,hc k _ (by simp[zbi,hk])⟩
theorem zm2 {l:List Int} {k:Nat} {v:Int} (h:k<l.length):v∈l.take (k+1)↔v∈l.take k∨v=l[k]:=by
 rw[List.take_succ_eq_append_getElem h,List.mem_append,List.mem_singleton]
def yem (l:List Int) (v:Int) (w:World) (e:Ending) (w':World):Prop:=∃i:Int,e = .returned (.int .i64 i)∧w=w'∧(0≤i↔v∈l)
theorem zw0 (ao:Option Addr) (c:Nat) (l:List Int) (v:Int) (w:World) (hk:Reads w w.heap.size 1 ao l.length (zbi l)) (hl:l.length≤maxLen) :
 Calls Tryz.prog 135 #[.slice ao l.length c,.int .i64 v] w (yem l v w):=by
 unfold maxLen at hl;have HK:=hX hk;clear hk;go_enter Tryz.func135,Tryz.ntmps135;go_wp2_with fail;go_loop [5,8] (fun _ i=>∃k:Nat,k≤l.length∧i = .int .i64 k∧Hid (v∉l.take k)) (fun _ i=>l.length - (RowKit.intOf i).toNat)
 case atStart=>exact ⟨0,by omega,rfl,hX (by simp)⟩
 case round=>
  obtain ⟨k,hkk,rfl,HV⟩:=hrel;by_cases hlt:k<l.length
  ·obtain ⟨ad,rfl,hba,hc⟩:=reads_int HK.out rfl hlt;have HM:Hid (v∈l.take (k+1)↔v∈l.take k∨v=l[k]):=hX (zm2 hlt);have HM2:Hid (l[k]∈l):=hX (List.getElem_mem hlt);generalize l[k]=x at *;by_cases he:v=x
   ·subst he;have hb:(v == v)=true:=by simp
    go_wp2_with fail;go_ret;exact ⟨_,rfl,rfl,⟨fun _=>HM2.out,fun _=>by omega⟩⟩
   ·have hb:(v == x)=false:=by rw[beq_eq_false_iff_ne];exact he
    have HN:Hid (v∉l.take (k+1)):=hX (fun h=>(HM.out.1 h).elim HV.out he);clear he;go_wp2_with fail;go_round
    case rel=>exact ⟨k+1,by omega,by go_num,HN⟩
    case measure=>simp[RowKit.intOf];omega
  ·obtain rfl:k=l.length:=by omega
   have HN:Hid (v∉l):=hX (by have:=HV.out;rwa [List.take_of_length_le (Nat.le_refl _)] at this);go_wp2_with fail;go_ret;exact ⟨_,rfl,rfl,⟨fun h=>by omega,fun h=>absurd h HN.out⟩⟩
theorem zfs (ao:Option Addr) (n c:Nat) (l:List Int) (v:Int) (w:World) (hn:n=l.length) (hk:Reads w w.heap.size 1 ao n (zbi l)) (hl:n≤maxLen) (b:Bool) (hb:l.contains v=b) :
 Calls Tryz.prog 103 #[.slice ao n c,.int .i64 v] w (zdc b w):=by
 subst hn;have HC:=hX (zw0 ao c l v w hk hl);have HB:=hX hb;clear hk hb;go_enter Tryz.func103,Tryz.ntmps103;go_wp2_with fail;refine HC.out.mono ?_;rintro e w' ⟨i,rfl,rfl,hi⟩;have HI:=hX hi;clear hi;go_wp2_with fail;go_ret;refine ⟨zfw ?_,rfl⟩;rw[←HB.out,Bool.eq_iff_iff,List.contains_iff_mem,←HI.out];simp
def zzt (b:Bool) (w:World) (e:Ending) (w':World):Prop:=
 (b=false∧e = .returned .nilFunc∧w=w')∨(b=true∧∃F cap,e = .returned (.func (.func F) #[] cap)∧Below w.heap.size w w')
theorem find_any (n:Int) (w:World):Calls Tryz.prog 102 #[.int .i64 n] w (zzt (zdb n) w):=by
 cases hf:zdb n with
 | false=>exact (zwt n w hf).mono fun e w' ⟨h1,h2⟩=>.inl ⟨rfl,h1,h2⟩
 | true=>
  rw[zqm] at hf;rcases (show n=10∨n=11∨n=12∨n=13∨n=14∨n=15 by omega) with rfl | rfl | rfl | rfl | rfl | rfl
  ·exact (zwu w).mono fun e w' ⟨h1,h2⟩=>.inr ⟨rfl,_,_,h1,by subst h2;exact Below.refl _ _⟩
  ·exact (zwv w).mono fun e w' ⟨h1,h2⟩=>.inr ⟨rfl,_,_,h1,by subst h2;exact Below.refl _ _⟩
  ·exact (zww w).mono fun e w' ⟨h1,h2⟩=>.inr ⟨rfl,_,_,h1,by subst h2;exact (Below.refl _ _).alloc (Nat.le_refl _) _⟩
  ·exact (zwx w).mono fun e w' ⟨h1,h2⟩=>.inr ⟨rfl,_,_,h1,by subst h2;exact (Below.refl _ _).alloc (Nat.le_refl _) _⟩
  ·exact (zwy w).mono fun e w' ⟨h1,h2⟩=>.inr ⟨rfl,_,_,h1,by subst h2;exact Below.refl _ _⟩
  ·exact (zwz w).mono fun e w' ⟨h1,h2⟩=>.inr ⟨rfl,_,_,h1,by subst h2;exact Below.refl _ _⟩
def IntB (k:Int) (w:World) (e:Ending) (w':World):Prop:=e = .returned (.int .i64 k)∧Below w.heap.size w w'
def zw1 (b:Bool):Int:=if b then 0 else 60
theorem zoz {t:List Int} {k:Nat} (h:k<t.length):zca (t.take k) (t.drop k)=(zdb t[k] && !(t.take k).contains t[k] && zca (t.take (k+1)) (t.drop (k+1))):=by
 rw[List.drop_eq_getElem_cons h,zca,List.take_succ_eq_append_getElem h]
theorem zw2 (l:List Int) (h:¬(1≤l.length∧l.length≤8∧1≤l.getD 0 0∧l.getD 0 0≤4)):zd5 l=false:=by
 cases l with
 | nil=>rfl
 | cons a t=>
  simp only[List.length_cons,List.getD_cons_zero] at h;simp only[zd5,Bool.and_eq_false_iff,decide_eq_false_iff_not];omega
theorem ztq (l:List Int) (h1:1≤l.length) (h2:l.length≤8) (h3:1≤l.getD 0 0) (h4:l.getD 0 0≤4):zd5 l=zca [] (l.drop 1):=by
 cases l with
 | nil=>simp at h1
 | cons a t=>
  simp only[List.length_cons,List.getD_cons_zero] at *;simp only[zd5,List.drop_succ_cons,List.drop_zero];rw[decide_eq_true (by omega),decide_eq_true h3,decide_eq_true h4];rfl
theorem zw3 (ao:Option Addr) (c:Nat) (w:World):Calls Tryz.prog 60 #[.slice ao 0 c] w (IntB 60 w):=by
 go_enter Tryz.func60,Tryz.ntmps60;go_wp2_with fail;go_ret;exact ⟨rfl,Below.refl _ _⟩
theorem ztr (ao:Option Addr) (n c:Nat) (w:World) (h1:8<n) (hm:n≤9223372036854775807):Calls Tryz.prog 60 #[.slice ao n c] w (IntB 60 w):=by
 have a1:decide ((n:Int)<1)=false:=by rw[decide_eq_false_iff_not];omega
 have a2:decide ((8:Int)<n)=true:=by rw[decide_eq_true_iff];omega
 go_enter Tryz.func60,Tryz.ntmps60;go_wp2_with fail;go_ret;exact ⟨rfl,Below.refl _ _⟩
theorem zqw (ad:Addr) (n c:Nat) (a:Int) (w:World) (h0:1≤n) (h1:n≤8) (ha:a<1∨4<a) (hc:w.cell? ad=some (.int .i64 a)):Calls Tryz.prog 60 #[.slice (some ad) n c] w (IntB 60 w):=by
 have a1:decide ((n:Int)<1)=false:=by rw[decide_eq_false_iff_not];omega
 have a2:decide ((8:Int)<n)=false:=by rw[decide_eq_false_iff_not];omega
 rcases ha with ha | ha
 ·have a3:decide (a<1)=true:=by rw[decide_eq_true_iff];omega
  go_enter Tryz.func60,Tryz.ntmps60;go_wp2_with fail;go_ret;exact ⟨rfl,Below.refl _ _⟩
 ·have a3:decide (a<1)=false:=by rw[decide_eq_false_iff_not];omega
  have a4:decide (4<a)=true:=by rw[decide_eq_true_iff];omega
  go_enter Tryz.func60,Tryz.ntmps60;go_wp2_with fail;go_ret;exact ⟨rfl,Below.refl _ _⟩
theorem zw4 (ad:Addr) (c:Nat) (a:Int) (w:World) (hc0:1≤c) (ha:1≤a) (ha4:a≤4) (hm:c≤9223372036854775807) (hc:w.cell? ad=some (.int .i64 a)):Calls Tryz.prog 60 #[.slice (some ad) 1 c] w (IntB 0 w):=by
 have a3:decide (a<1)=false:=by rw[decide_eq_false_iff_not];omega
 have a4:decide (4<a)=false:=by rw[decide_eq_false_iff_not];omega
 rcases (show c=1∨2≤c by omega) with rfl | h2
 ·go_enter Tryz.func60,Tryz.ntmps60;go_wp2_with fail;go_loop [28] (fun i=>i = .int .i64 0) (fun _=>0)
  case atStart=>rfl
  case round=>
   subst hrel;go_wp2_with fail;go_ret;exact ⟨rfl,Below.refl _ _⟩
 ·go_enter Tryz.func60,Tryz.ntmps60;go_wp2_with fail;go_loop [28] (fun i=>i = .int .i64 0) (fun _=>0)
  case atStart=>rfl
  case round=>
   subst hrel;go_wp2_with fail;go_ret;exact ⟨rfl,Below.refl _ _⟩
theorem zqx (ad:Addr) {j:Nat} (h:j≠0):ad.add j=⟨ad.block,ad.off+j,none⟩:=by unfold Addr.add;rw[if_neg h]
theorem ycu (F:Nat) (cap:Array Value) (w:World):(binOp .eql 151 (.func (.func F) #[] cap) .nilFunc).run Tryz.prog w = .ok (.bool false) w:=by rfl
theorem zts (ad:Addr) (c:Nat) (a:Int) (t:List Int) (w:World) (h1:1≤t.length) (h7:t.length≤7) (hc0:t.length+1≤c) (hm:c≤9223372036854775807) (ha:1≤a) (ha4:a≤4) (hb:ad.block<w.heap.size) (hc:w.cell? ad=some (.int .i64 a)) (hr:∀(j:Nat) (v:Int),t[j]?=some v→w.cell? (ad.add (1+j))=some (.int .i64 v)) :
 Calls Tryz.prog 60 #[.slice (some ad) (t.length+1) c] w (IntB (zw1 (zca [] t)) w):=by
 obtain ⟨r,hR⟩:∃r,zca [] t=r:=⟨_,rfl⟩
 have HR:Hid (zca (t.take 0) (t.drop 0)=r):=hX hR;have HC:=hX hr;rw[hR]
 have HRD:Hid (∀(k:Nat) (W:World),k≤t.length→Below w.heap.size w W→Reads W W.heap.size 1 (some ⟨ad.block,ad.off+1,none⟩) k (zbi (t.take k))):=hX (fun k W hk hW=>by
  rw[←zqx ad (j:=1) (by omega)]
  exact ⟨by simp[zbi,hk],fun _=>⟨ad.add 1,rfl,by rw[zab];have:=hW.size;omega,fun j u hu=>by
  simp only[zbi,List.map_take,List.getElem?_take,List.getElem?_map] at hu;split at hu
  ·cases htj:t[j]? with
   | none=>rw[htj] at hu;cases hu
   | some v=>
    rw[htj] at hu;cases hu;rw[zdj];exact (hW.cell (by rw[zab];exact hb)).trans (HC.out j v htj)
  ·cases hu⟩⟩)
 clear hr hR
 obtain ⟨n,hn⟩:∃n,n=t.length+1:=⟨_,rfl⟩
 have a1:decide ((n:Int)<1)=false:=by rw[decide_eq_false_iff_not];omega
 have a2:decide ((8:Int)<n)=false:=by rw[decide_eq_false_iff_not];omega
 have a3:decide (a<1)=false:=by rw[decide_eq_false_iff_not];omega
 have a4:decide (4<a)=false:=by rw[decide_eq_false_iff_not];omega
 have a5:(c == 1)=false:=by rw[beq_eq_false_iff_ne];omega
 have a6:¬c=1:=by omega
 have hq1:=zzs;have hq2:=ycu;rw[←hn];have HN:=hX hn;clear hn;have hn1:2≤n:=by have:=HN.out;omega
 have hnc:n≤c:=by have:=HN.out;omega
 go_enter Tryz.func60,Tryz.ntmps60;go_wp2_with fail;go_loopw [3,4,28] (fun _ _ i wr=>∃k:Nat,k≤t.length∧i = .int .i64 k∧Hid (zca (t.take k) (t.drop k)=r)∧Hid (Below w.heap.size w wr)) (fun _ _ i _=>t.length - (RowKit.intOf i).toNat);case atStart=>exact ⟨0,by omega,rfl,HR,hX (Below.refl _ _)⟩
 case round=>
  obtain ⟨k,hk,rfl,HE,HW⟩:=hrel;have hN1:n≤t.length+1:=by have:=HN.out;omega
  have hN2:t.length+1≤n:=by have:=HN.out;omega
  by_cases hlt:k<t.length
  ·have hck:=HC.out k t[k] (List.getElem?_eq_getElem hlt);have hcw:wr.cell? (ad.add (1+k))=some (.int .i64 t[k]):=(HW.out.cell (by rw[zab];exact hb)).trans hck;have HS:=hX (zoz hlt);have hcw2:wr.cell? ⟨ad.block,ad.off+1+k,none⟩=some (.int .i64 t[k]):=by rw[zqx _ (by omega),←Nat.add_assoc] at hcw;exact hcw
   clear hck hcw;generalize t[k]=x at *;go_wp2_with fail;refine (find_any x _).mono ?_;rintro e w2 (⟨h0,rfl,rfl⟩ | ⟨h0,F,cap,rfl,b2⟩)
   ·have HF:Hid (r=false):=hX (by rw[←HE.out,HS.out,h0];rfl);clear h0;go_wp2_with fail;go_ret;rw[HF.out];exact ⟨rfl,HW.out⟩
   ·have HW2:=hX (HW.out.trans (b2.mono HW.out.size));have HF:Hid (r=(!(t.take k).contains x && zca (t.take (k+1)) (t.drop (k+1)))):=hX (by rw[←HE.out,HS.out,h0];rfl);clear h0 b2 hcw2
    cases hct:(t.take k).contains x with
    | true=>
     have HCT:Hid (∀W,Below w.heap.size w W→Calls Tryz.prog 103 #[.slice (some ⟨ad.block,ad.off+1,none⟩) k (c - 1),.int .i64 x] W (zdc true W)):=
      hX (fun W hW=>zfs _ k (c - 1) (t.take k) x W (by simp;omega) (HRD.out k W hk hW) (by unfold maxLen;omega) _ hct)
     have HF2:Hid (r=false):=hX (by rw[HF.out,hct];rfl);clear hct;go_wp2_with fail;refine (HCT.out _ HW2.out).mono ?_;rintro e w3 ⟨rfl,rfl⟩;go_wp2_with fail;go_ret;rw[HF2.out];exact ⟨rfl,HW2.out⟩
    | false=>
     have HCT:Hid (∀W,Below w.heap.size w W→Calls Tryz.prog 103 #[.slice (some ⟨ad.block,ad.off+1,none⟩) k (c - 1),.int .i64 x] W (zdc false W)):=
      hX (fun W hW=>zfs _ k (c - 1) (t.take k) x W (by simp;omega) (HRD.out k W hk hW) (by unfold maxLen;omega) _ hct)
     have HF2:Hid (zca (t.take (k+1)) (t.drop (k+1))=r):=hX (by rw[HF.out,hct];rfl);clear hct;go_wp2_with fail;refine (HCT.out _ HW2.out).mono ?_;rintro e w3 ⟨rfl,rfl⟩;go_wp2_with fail;go_roundw;case rel=>exact ⟨k+1,by omega,by go_num,HF2,HW2⟩
     case measure=>simp[RowKit.intOf];omega
  ·obtain rfl:k=t.length:=by omega
   have HF:Hid (r=true):=hX (by rw[←HE.out,List.drop_length];rfl);have hlt2:¬(t.length<n - 1):=by omega
   go_wp2_with fail;go_ret;rw[HF.out];exact ⟨rfl,HW.out⟩
theorem zhs (ao:Option Addr) (n c:Nat) (l:List Int) (w:World) (hn:n=l.length) (hk:Reads w w.heap.size 1 ao n (zbi l)) (hc:n≤c) (hm:c≤maxLen) :
 Calls Tryz.prog 60 #[.slice ao n c] w (IntB (zw1 (zd5 l)) w):=by
 subst hn;unfold maxLen at hm;by_cases h:1≤l.length∧l.length≤8∧1≤l.getD 0 0∧l.getD 0 0≤4
 ·obtain ⟨h1,h2,h3,h4⟩:=h;rw[ztq l h1 h2 h3 h4];obtain ⟨ad,rfl,hb,hcell⟩:=hk.2 (by omega)
  match l,h1 with
  | a::t,_=>
   simp only[List.length_cons,List.getD_cons_zero,List.drop_succ_cons,List.drop_zero] at *;have h0:=hcell 0 _ rfl;rw[show ad.add 0=ad from rfl] at h0;rcases Nat.eq_zero_or_pos t.length with hz | hz
   ·obtain rfl:=List.eq_nil_of_length_eq_zero hz;exact zw4 ad c a w (by simpa using hc) h3 h4 hm h0
   ·exact zts ad c a t w hz (by omega) hc hm h3 h4 hb h0 (fun j v hj=>hcell (1+j) _ (by rw[Nat.add_comm];simp[zbi,hj]))
 ·rw[zw2 l h]
  rcases (show l.length=0∨8<l.length∨(1≤l.length∧l.length≤8) by omega) with h1 | h1 | ⟨h1,h2⟩
  ·rw[h1];exact zw3 ao c w
  ·exact ztr ao _ c w h1 (by omega)
  ·obtain ⟨ad,rfl,hb,hcell⟩:=hk.2 (by omega)
   match l,h1 with
   | a::t,_=>
    simp only[List.length_cons,List.getD_cons_zero] at *;have h0:=hcell 0 _ rfl;rw[show ad.add 0=ad from rfl] at h0;exact zqw ad _ c a w (by omega) h2 (by omega) h0
end Go.Proofs.YtplkbdncgkgppaaGreatDoor.Ana
end
section
namespace Go.Proofs.YtplkbdncgkgppaaGreatDoor.Qry
open Go.RowKit Words Tree QryP Kit Owned Sch RewP Ana
structure Bst (w:World) (B gb:Nat) (s:Bool) (q:QT) (us:List Value) (bs:List Nat):Prop where
 blk:Blk w gb 127 (us++[Value.bool s]).toArray
 oq:OQ w B q us bs
 nd:(gb::bs).Nodup
 ge:B≤gb
section
variable {w w' w1:World} {B gb:Nat} {s:Bool} {q:QT} {us:List Value} {bs:List Nat}
theorem Bst.below (h:Bst w B gb s q us bs) (hb:Below w.heap.size w w'):Bst w' B gb s q us bs:=⟨h.blk.below hb h.blk.lt,h.oq.below hb (Nat.le_refl _),h.nd,h.ge⟩
variable {k o b op:Int} {f t u:ByteArray} {lo hi:List Int} {ks:List QT}
theorem Bst.parts (h:Bst w B gb s (.mk k o f t u lo hi b op ks) us bs):∃(A1 A2 A3:Option Addr) (c1 c2 c3:Nat) (bk:List Nat),us=[.int .i64 k,.int .i64 o,.string f,.string t,.string u,.slice A1 lo.length c1,.slice A2 hi.length c2,.int .i64 b,.int .i64 op,.slice A3 ks.length c3]∧
 Blk w gb 127 #[.int .i64 k,.int .i64 o,.string f,.string t,.string u,.slice A1 lo.length c1,.slice A2 hi.length c2,.int .i64 b,.int .i64 op,.slice A3 ks.length c3,.bool s]∧
 zeb w B (.slice A3 ks.length c3) ks bk∧bk.Nodup∧(∀x∈bk,x∈bs)∧gb∉bk∧B≤gb∧
 ∀(w1:World) (A:Option Addr) (c:Nat) (ks':List QT) (bk':List Nat),zeb w1 B (.slice A ks'.length c) ks' bk'→OutR w bk w1 bk'→
  ∃bs',Bst (w1.setCell ⟨gb,9,none⟩ (.slice A ks'.length c)) B gb s (.mk k o f t u lo hi b op ks') [.int .i64 k,.int .i64 o,.string f,.string t,.string u,.slice A1 lo.length c1,.slice A2 hi.length c2,.int .i64 b,.int .i64 op,.slice A ks'.length c] bs'∧OutR w (gb::bs) (w1.setCell ⟨gb,9,none⟩ (.slice A ks'.length c)) (gb::bs'):=by
 have hoq:=h.oq;obtain ⟨vl,vh,vk,bk,rfl,h1,h2,h3,rfl⟩:=hoq.parts;obtain ⟨A1,c1,rfl⟩:=zav h1;obtain ⟨A2,c2,rfl⟩:=zav h2;obtain ⟨A3,c3,rfl⟩:=h3.form;have hnd:=h.nd;rw[List.nodup_cons] at hnd;obtain ⟨hgb,hnd⟩:=hnd;have d1:=List.nodup_append.1 hnd;have d2:=List.nodup_append.1 d1.2.1;refine ⟨A1,A2,A3,c1,c2,c3,bk,rfl,h.blk,h3,d2.2.1,fun x hx=>by simp[hx],fun hx=>hgb (by simp[hx]),h.ge,?_⟩;intro w1 A c ks' bk' hr hO;have hgk:gb∉bk:=fun hx=>hgb (by simp[hx]);have hgl:=h.blk.lt;have old:∀x,x<w.heap.size→x∉bk→w1.heap[x]?=w.heap[x]?:=fun x hx hn=>hO.but.block x hx hn;have hb1:=h.blk;replace hb1:Blk w1 gb 127 #[.int .i64 k,.int .i64 o,.string f,.string t,.string u,.slice A1 lo.length c1,.slice A2 hi.length c2,.int .i64 b,.int .i64 op,.slice A3 ks.length c3,.bool s]:=(old gb hgl hgk).trans hb1;have hgk':gb∉bk':=fun hx=>(hO.sub gb hx).elim hgk (fun h=>by omega);have k1:∀x,x<w.heap.size→x∉bk→x≠gb→(w1.setCell ⟨gb,9,none⟩ (.slice A ks'.length c)).heap[x]?=w.heap[x]?:=fun x hx hn hg=>(Below.heap_setCell _ _ _ _ hg).trans (old x hx hn)
 have n1:∀x,(Value.slice A1 lo.length c1).ownBlock=some x→x<w.heap.size∧x∉bk∧x≠gb:=fun x hx=>⟨(World.ownsRow.lt h1 x hx).2,fun hm=>d1.2.2 x (zat.2 hx) x (by simp[hm]) rfl,fun e=>hgb (by rw[←e];simp[zat,hx])⟩
 have n2:∀x,(Value.slice A2 hi.length c2).ownBlock=some x→x<w.heap.size∧x∉bk∧x≠gb:=fun x hx=>⟨(World.ownsRow.lt h2 x hx).2,fun hm=>d2.2.2 x (zat.2 hx) x hm rfl,fun e=>hgb (by rw[←e];simp[zat,hx])⟩
 refine ⟨(Value.slice A1 lo.length c1).ownBlock.toList++((Value.slice A2 hi.length c2).ownBlock.toList++bk'),⟨hb1.set_ 9 _,OQ.of_parts (za8 h1 fun x hx=>k1 x (n1 x hx).1 (n1 x hx).2.1 (n1 x hx).2.2) (za8 h2 fun x hx=>k1 x (n2 x hx).1 (n2 x hx).2.1 (n2 x hx).2.2) (hr.keep fun x hx=>Below.heap_setCell _ _ _ _ (fun e=>hgk' ((show x=gb from e) ▸ hx))),?_,h.ge⟩,⟨?_,?_,?_⟩⟩
 case refine_1 | refine_2=>
  rw[List.nodup_cons];refine ⟨fun hm=>?_,List.nodup_append.2 ⟨d1.1,List.nodup_append.2 ⟨d2.1,hO.nd,fun x hx y hy e=>?_⟩,fun x hx y hy e=>?_⟩⟩
  ·rcases List.mem_append.1 hm with hm | hm
   ·exact (n1 gb (zat.1 hm)).2.2 rfl
   rcases List.mem_append.1 hm with hm | hm
   ·exact (n2 gb (zat.1 hm)).2.2 rfl
   ·exact hgk' hm
  ·subst e;have:=n2 x (zat.1 hx);exact (hO.sub x hy).elim this.2.1 (fun h=>by omega)
  ·subst e;have hn:=n1 x (zat.1 hx);rcases List.mem_append.1 hy with hy | hy
   ·exact d1.2.2 x hx x (by simp[hy]) rfl
   ·exact (hO.sub x hy).elim hn.2.1 (fun h=>by omega)
 ·intro x hx;simp only[List.mem_cons,List.mem_append] at hx ⊢;rcases hx with hx | hx | hx | hx
  ·exact .inl (.inl hx)
  ·exact .inl (.inr (.inl hx))
  ·exact .inl (.inr (.inr (.inl hx)))
  ·exact (hO.sub x hx).imp (fun h=>.inr (.inr (.inr h))) id
 ·exact (hO.but.mono fun x hx=>by simp[hx]).set (p:=⟨gb,9,none⟩) (.inl (by simp)) _
end
def yen (B gb:Nat) (s:Bool) (q:QT) (bs:List Nat) (r:Value) (w:World) (e:Ending) (w':World):Prop:=∃us' bs',e = .returned r∧Bst w' B gb s q us' bs'∧OutR w (gb::bs) w' (gb::bs')
section
variable {w:World} {q:QT} {us:List Value}
theorem zcb (h:T.AtL bare w (fun g=>g<w.heap.size) (cells q) us):∃(k o b op:Int) (f t u:ByteArray) (lo hi:List Int) (ks:List QT) (A1 A2 A3:Option Addr) (c1 c2 c3:Nat),q = .mk k o f t u lo hi b op ks∧us=[.int .i64 k,.int .i64 o,.string f,.string t,.string u,.slice A1 lo.length c1,.slice A2 hi.length c2,.int .i64 b,.int .i64 op,.slice A3 ks.length c3]:=by
 obtain ⟨k,o,f,t,u,lo,hi,b,op,ks⟩:=q;obtain ⟨vl,vh,vk,rfl,hl,hh,hk⟩:=zal h;obtain ⟨B1,d1,rfl⟩:=zar hl;obtain ⟨B2,d2,rfl⟩:=zar hh;obtain ⟨B3,d3,rfl⟩:=zar hk;exact ⟨k,o,b,op,f,t,u,lo,hi,ks,B1,B2,B3,d1,d2,d3,rfl,rfl⟩
theorem ztt (h:T.AtL bare w (fun g=>g<w.heap.size) (cells q) us):Calls Tryz.prog 110 #[.agg us.toArray] w (ze2 (decide (kd q=2)) w):=by
 obtain ⟨k,o,b,op,f,t,u,lo,hi,ks,A1,A2,A3,c1,c2,c3,rfl,rfl⟩:=zcb h;clear h;go_enter Tryz.func110,Tryz.ntmps110;go_wp2_with fail;go_ret;exact ⟨rfl,(Below.refl _ w).alloc (Nat.le_refl _) _⟩
theorem zo0 (h:T.AtL bare w (fun g=>g<w.heap.size) (cells q) us):Calls Tryz.prog 138 #[.agg us.toArray] w (ze2 (decide (oc q=2)) w):=by
 obtain ⟨k,o,b,op,f,t,u,lo,hi,ks,A1,A2,A3,c1,c2,c3,rfl,rfl⟩:=zcb h;clear h;go_enter Tryz.func138,Tryz.ntmps138;go_wp2_with fail;go_ret;exact ⟨rfl,(Below.refl _ w).alloc (Nat.le_refl _) _⟩
theorem zm3 (h:T.AtL bare w (fun g=>g<w.heap.size) (cells q) us):Calls Tryz.prog 139 #[.agg us.toArray] w (ze2 (decide (oc q=2)) w):=by
 obtain ⟨k,o,b,op,f,t,u,lo,hi,ks,A1,A2,A3,c1,c2,c3,rfl,rfl⟩:=zcb h;clear h;go_enter Tryz.func139,Tryz.ntmps139;go_wp2_with fail;go_ret;exact ⟨rfl,(Below.refl _ w).alloc (Nat.le_refl _) _⟩
theorem zw5 (h:T.AtL bare w (fun g=>g<w.heap.size) (cells q) us):Calls Tryz.prog 143 #[.agg us.toArray] w (ze2 (zhp q) w):=by
 obtain ⟨k,o,b,op,f,t,u,lo,hi,ks,A1,A2,A3,c1,c2,c3,rfl,rfl⟩:=zcb h;clear h
 obtain ⟨r,hr⟩:∃r,zhp (.mk k o f t u lo hi b op ks)=r:=⟨_,rfl⟩
 rw[hr];have HR:=hX hr;clear hr;by_cases h4:o=4
 ·subst h4;go_enter Tryz.func143,Tryz.ntmps143;go_wp2_with fail;go_ret;exact ⟨by rw[←HR.out];rfl,(Below.refl _ w).alloc (Nat.le_refl _) _⟩
 ·have h4':(o == 4)=false:=by rw[beq_eq_false_iff_ne];exact h4
  have hrf:Hid (r=false):=hX (by rw[←HR.out];show (decide (o=4) && _)=false;rw[decide_eq_false h4];rfl);go_enter Tryz.func143,Tryz.ntmps143;go_wp2_with fail;go_ret;exact ⟨by rw[hrf.out];rfl,(Below.refl _ w).alloc (Nat.le_refl _) _⟩
theorem ztu (gc:Nat) (A:Option Addr) (c:Nat) (os:List Int) (h:T.AtL bare w (fun g=>g<w.heap.size) (cells q) us) (hb:Blk w gc 59 #[.slice A os.length c]) (hr:Reads w w.heap.size 1 A os.length (zbi os)) (hm:os.length≤maxLen) :
 Calls Tryz.prog 145 #[.agg us.toArray,.pointer (some ⟨gc,0,none⟩)] w (ze2 (os.contains (oc q)) w):=by
 obtain ⟨k,o,b,op,f,t,u,lo,hi,ks,A1,A2,A3,c1,c2,c3,rfl,rfl⟩:=zcb h;clear h;show Calls _ _ _ _ (ze2 (os.contains o) w)
 obtain ⟨r,hc⟩:∃r,os.contains o=r:=⟨_,rfl⟩
 rw[hc];have HB:=hX ((Below.refl _ w).alloc (Nat.le_refl _) (.cells #[.int .i64 k,.int .i64 o,.string f,.string t,.string u,.slice A1 lo.length c1,.slice A2 hi.length c2,.int .i64 b,.int .i64 op,.slice A3 ks.length c3] 28));have HC:=hX (zfs A os.length c os o (w.alloc (.cells #[.int .i64 k,.int .i64 o,.string f,.string t,.string u,.slice A1 lo.length c1,.slice A2 hi.length c2,.int .i64 b,.int .i64 op,.slice A3 ks.length c3] 28)) rfl ((hr.below HB.out).more HB.out.size) hm r hc);have c0:(w.alloc (.cells #[.int .i64 k,.int .i64 o,.string f,.string t,.string u,.slice A1 lo.length c1,.slice A2 hi.length c2,.int .i64 b,.int .i64 op,.slice A3 ks.length c3] 28)).cell? ⟨gc,0,none⟩=some (.slice A os.length c):=(hb.alloc _).cell 0;clear hc hb hr;go_enter Tryz.func145,Tryz.ntmps145;go_wp2_with fail;refine HC.out.mono ?_;rintro e w1 ⟨rfl,rfl⟩;go_wp2_with fail;go_ret;exact ⟨rfl,HB.out⟩
end
def zzu:List Value:=[.int .i64 2,.int .i64 0,.string ⟨#[]⟩,.string ⟨#[]⟩,.string ⟨#[]⟩,.slice none 0 0,.slice none 0 0,.int .i64 0,.int .i64 0,.slice none 0 0]
theorem zkv (w:World) (B:Nat):OQ w B zdz zzu []:=by
 unfold zdz zzu;rw[OQ];exact ⟨_,_,_,[],[],rfl,World.ownsRow_nil _ _ _ _,World.ownsRow_nil _ _ _ _,World.ownsRow_nil _ _ _ _,OQL.nil_,rfl⟩
theorem zht (w:World):Calls Tryz.prog 67 #[] w fun e w'=>e = .returned (.agg #[.int .i64 2,.int .i64 0,.string ⟨#[]⟩,.string ⟨#[]⟩,.string ⟨#[]⟩,.slice none 0 0,.slice none 0 0,.int .i64 0,.int .i64 0,.slice none 0 0])∧Below w.heap.size w w':=by
 go_enter Tryz.func67,Tryz.ntmps67;go_wp2_with fail;exact ⟨rfl,_,results_cell_row rfl _ _ w.heap.size 28 _ (0,0) _ rfl (Blk.new w _ _) Tryz.underlying28 rfl (by kernel_rfl),rfl,(Below.refl _ w).alloc (Nat.le_refl _) _⟩
end Go.Proofs.YtplkbdncgkgppaaGreatDoor.Qry
end
section
namespace Go.Proofs.YtplkbdncgkgppaaGreatDoor.Qry
open Go.RowKit Words Tree QryP Kit Owned Sch RewP Ana
section
variable {B gb:Nat} {s:Bool} {k o b op:Int} {f t u:ByteArray} {lo hi:List Int} {ks:List QT} {us:List Value} {bs:List Nat}
theorem zsg (p:QT→Bool) (F:FuncId) (caps:Array Value) (w:World) (h:Bst w B gb s (.mk k o f t u lo hi b op ks) us bs) (hE:∀args w,(callFunc F args).run Tryz.prog w = .ok (.enter F args) w)
 (HK:∀k∈ks,∀us W,T.AtL bare W (fun g=>g<W.heap.size) (cells k) us→Calls Tryz.prog F (#[.agg us.toArray]++caps) W (ze2 (p k) W)) :
 Calls Tryz.prog 109 #[.pointer (some ⟨gb,0,none⟩),.func (.func F) #[] caps] w (yen B gb s (.mk k o f t u lo hi b op (ks.filter fun k=>!p k)) bs (.tuple #[]) w):=by
 obtain ⟨A1,A2,A3,c1,c2,c3,bk,rfl,hblk,hr,hn,hsub,hgk,hge,hcont⟩:=h.parts;have HD:=hX (zld p F caps B ks _ bk w hr hn hE HK);have HC:=hX hcont;have HB:=hX hblk;have q9:w.cell? ⟨gb,9,none⟩=some (.slice A3 ks.length c3):=hblk.cell 9;clear h HK hr hn hsub hcont hblk hE;go_enter Tryz.func109,Tryz.ntmps109;go_wp2_with fail;refine HD.out.mono ?_;rintro e w1 ⟨A,c,bk',rfl,hro,hout⟩;obtain ⟨bs',hbst,hout2⟩:=HC.out w1 A c _ bk' hro hout;have HB1:Hid (Blk w1 gb 127 #[.int .i64 k,.int .i64 o,.string f,.string t,.string u,.slice A1 lo.length c1,.slice A2 hi.length c2,.int .i64 b,.int .i64 op,.slice A3 ks.length c3,.bool s]):=hX (hout.but.blk HB.out hgk);have HS:=hX hbst;have HO:=hX hout2;have q9':w1.cell? ⟨gb,9,none⟩=some (.slice A3 ks.length c3):=HB1.out.cell 9;have z9:w1.frozen? ⟨gb,9,none⟩=false:=HB1.out.frozen 9;clear hro hout hbst hout2 q9;go_wp2_with fail;go_end0;exact ⟨_,bs',rfl,HS.out,HO.out⟩
theorem zw6 (os:List Int) (A:Option Addr) (c:Nat) (w:World) (h:Bst w B gb s (.mk k o f t u lo hi b op ks) us bs) (hr:Reads w w.heap.size 1 A os.length (zbi os)) (hm:os.length≤maxLen) :
 Calls Tryz.prog 115 #[.pointer (some ⟨gb,0,none⟩),.slice A os.length c] w (ze2 (zzk ks os) w):=by
 obtain ⟨A1,A2,A3,c1,c2,c3,bk,rfl,hblk,hrq,hn,hsub,hgk,hge,hcont⟩:=h.parts;have hmf:∀(fn:Fn) (first cap:Array Value) (w:World),(Instr.makeFunc fn first cap).run Tryz.prog w = .ok (.func fn first cap) w:=fun _ _ _ _=>rfl;have hA:Below w.heap.size w (w.alloc (.cells #[.slice A os.length c] 59)):=(Below.refl _ w).alloc (Nat.le_refl _) _;have HA:=hX hA;have hbc:=Blk.new w 59 #[.slice A os.length c]
 have HCQ:=hX (zex (fun k=>os.contains (oc k)) 145 #[.pointer (some ⟨w.heap.size,0,none⟩)] ks A3 c3 (w.alloc (.cells #[.slice A os.length c] 59)) (At.below hrq.atw hA (fun g hg=>Nat.lt_of_lt_of_le hg hA.size)) (fun _ _=>rfl)
  (fun k _ us W hW hu=>ztu w.heap.size A c os hu (hbc.below hW hbc.lt) ((hr.below (hA.trans (hW.mono hA.size))).more (Nat.le_trans hA.size hW.size)) hm))
 have q9:(w.alloc (.cells #[.slice A os.length c] 59)).cell? ⟨gb,9,none⟩=some (.slice A3 ks.length c3):=(hblk.alloc _).cell 9;show Calls _ _ _ _ (ze2 (ks.any fun k=>os.contains (oc k)) w);generalize (ks.any fun k=>os.contains (oc k))=r at *;clear h hr hrq hn hsub hcont hblk hbc hA;go_enter Tryz.func115,Tryz.ntmps115;go_wp2_with fail;refine HCQ.out.mono ?_;rintro e w1 ⟨rfl,hb⟩;have HB:=hX (HA.out.trans (hb.mono HA.out.size));clear hb;go_wp2_with fail;go_ret;exact ⟨rfl,HB.out⟩
end
theorem OQ.withO {w:World} {B:Nat} {q:QT} {us:List Value} {bs:List Nat} (o:Int) (h:OQ w B q us bs):OQ w B (RewP.withO o q) (us.set 1 (.int .i64 o)) bs:=by
 obtain ⟨k,o',f,t,u,lo,hi,b,op,ks⟩:=q;rw[OQ] at h;obtain ⟨vl,vh,vk,xs,bk,rfl,h1,h2,h3,h4,rfl⟩:=h;rw[RewP.withO,OQ];exact ⟨vl,vh,vk,xs,bk,rfl,h1,h2,h3,h4,rfl⟩
theorem zeb.occ {w:World} {B:Nat} {v:Value} {l1 l2:List QT} {q:QT} {bs:List Nat} (h:zeb w B v (l1++q::l2) bs) (hnd:bs.Nodup) (i n:Nat) (hi:l1.length=i) (hn:(l1++q::l2).length=n) :
 ∃(g cap:Nat),v = .slice (some ⟨g,0,none⟩) n cap∧g∈bs∧w.cell? ⟨g,i*10+1,none⟩=some (.int .i64 (oc q))∧w.frozen? ⟨g,i*10+1,none⟩=false∧
  ∀o:Int,zeb (w.setCell ⟨g,i*10+1,none⟩ (.int .i64 o)) B v (l1++RewP.withO o q::l2) bs:=by
 obtain ⟨xs,bk,ho,hl,rfl⟩:=h;rw[hn] at ho;obtain ⟨g,cap,rfl,hgB,hgl⟩:=ho.form (by rw[←hn,List.length_append,List.length_cons];omega);obtain ⟨y,z',b1,b',rfl,rfl,hy,hz'⟩:=OQL.cut hl;rw[OQL] at hz';obtain ⟨uq,z,bq,b2,rfl,rfl,hq,hz⟩:=hz';have hyl:y.length=i*10:=by rw[hy.len,hi]
 have hul:=hq.len;replace hnd:(g::(b1++(bq++b2))).Nodup:=hnd;have hgn:=(List.nodup_cons.1 hnd).1
 obtain ⟨cl,ch,ck,al,ah,ak,k',o',f',t',u',lo',hi',b'',op',ks',hqe,huq⟩:∃(cl ch ck:Nat) (al ah ak:Option Addr) (k o:Int) (f t u:ByteArray) (lo hi:List Int) (b op:Int) (ks:List QT),q = .mk k o f t u lo hi b op ks∧uq=[.int .i64 k,.int .i64 o,.string f,.string t,.string u,.slice al lo.length cl,.slice ah hi.length ch,.int .i64 b,.int .i64 op,.slice ak ks.length ck]:=(by obtain ⟨k,o,f,t,u,lo,hi,b,op,ks⟩:=q;obtain ⟨cl,ch,ck,al,ah,ak,he⟩:=hq.forms;exact ⟨cl,ch,ck,al,ah,ak,k,o,f,t,u,lo,hi,b,op,ks,rfl,he⟩)
 refine ⟨g,cap,rfl,by simp[Value.ownBlock],?_,ho.frozenAt _,fun o=>?_⟩
 ·rw[ho.cellAt (i*10+1) (by rw[←hn,List.length_append,List.length_cons];omega),List.getElem?_append_right (by omega),hyl,Nat.add_sub_cancel_left,List.getElem?_append_left (by omega),huq,hqe];rfl
 ·obtain ⟨hs,hg⟩:=ho.stored (i*10+1) (.int .i64 o);have hne:∀x∈b1++(bq++b2),some g≠some x:=fun x hx e=>hgn (by injection e with e;rw[e];exact hx);refine ⟨y++(uq.set 1 (.int .i64 o)++z),b1++(bq++b2),?_,?_,rfl⟩
  ·have e:(l1++RewP.withO o q::l2).length=n:=by rw[←hn];simp
   rw[e];rw[List.set_append_right _ _ (by omega),hyl,Nat.add_sub_cancel_left,List.set_append_left _ _ (by omega)] at hs;exact hs
  ·refine (hy.grown hg (fun x hx=>hne x (by simp[hx]))).join ?_;rw[OQL];exact ⟨_,z,bq,b2,rfl,rfl,(hq.grown hg (fun x hx=>hne x (by simp[hx]))).withO o,hz.grown hg (fun x hx=>hne x (by simp[hx]))⟩
section
variable {B gb:Nat} {s:Bool} {k o b op:Int} {f t u:ByteArray} {lo hi:List Int} {us:List Value} {bs:List Nat}
theorem Bst.occ {w:World} {l1 l2:List QT} {q:QT} (h:Bst w B gb s (.mk k o f t u lo hi b op (l1++q::l2)) us bs) (i n:Nat) (hi':l1.length=i) (hn:(l1++q::l2).length=n) :
 ∃(g cap:Nat),w.cell? ⟨gb,9,none⟩=some (.slice (some ⟨g,0,none⟩) n cap)∧w.cell? ⟨g,i*10+1,none⟩=some (.int .i64 (oc q))∧w.frozen? ⟨g,i*10+1,none⟩=false∧
  ∀o':Int,Bst (w.setCell ⟨g,i*10+1,none⟩ (.int .i64 o')) B gb s (.mk k o f t u lo hi b op (l1++RewP.withO o' q::l2)) us bs∧OutR w (gb::bs) (w.setCell ⟨g,i*10+1,none⟩ (.int .i64 o')) (gb::bs):=by
 obtain ⟨vl,vh,vk,bk,rfl,h1,h2,h3,rfl⟩:=h.oq.parts;have hnd:=h.nd;rw[List.nodup_cons] at hnd;obtain ⟨hgb,hnd⟩:=hnd;have d1:=List.nodup_append.1 hnd;have d2:=List.nodup_append.1 d1.2.1;obtain ⟨g,cap,rfl,hg,hc,hf,hs⟩:=h3.occ d2.2.1 i n hi' hn;have hne:gb≠g:=fun e=>hgb (by rw[e];simp[hg]);refine ⟨g,cap,h.blk.cell 9,hc,hf,fun o'=>⟨⟨h.blk.far (p:=⟨g,i*10+1,none⟩) hne _,OQ.of_parts (za8 h1 fun x hx=>Below.heap_setCell _ _ _ _ (fun e=>d1.2.2 x (zat.2 hx) g (by simp[hg]) e)) (za8 h2 fun x hx=>Below.heap_setCell _ _ _ _ (fun e=>d2.2.2 x (zat.2 hx) g hg e)) (hs o'),h.nd,h.ge⟩,⟨h.nd,fun x hx=>.inl hx,(But.refl _ w).set (p:=⟨g,i*10+1,none⟩) (.inl (by simp[hg])) _⟩⟩⟩
theorem zzv (ks:List QT) (w:World) (h:Bst w B gb s (.mk k o f t u lo hi b op ks) us bs) :
 Calls Tryz.prog 111 #[.pointer (some ⟨gb,0,none⟩)] w (yen B gb s (.mk k o f t u lo hi b op (zdw ks)) bs (.tuple #[]) w):=by
 obtain ⟨A1,A2,A3,c1,c2,c3,bk,hus,hblk,hrq,-⟩:=h.parts;have hcap:=hrq.cap;have hkm:ks.length≤9223372036854775807:=by unfold maxLen at hcap;omega
 have q9:w.cell? ⟨gb,9,none⟩=some (.slice A3 ks.length c3):=hblk.cell 9;have HS:=hX h;have HO:=hX (OutR.refl h.nd w);clear h hus hblk hrq hcap;go_enter Tryz.func111,Tryz.ntmps111;go_wp2_with fail;go_loopg [9] ks.length (fun m vi wr=>∃i:Nat,vi = .int .i64 i∧m=ks.length - i∧i≤ks.length∧Hid (Bst wr B gb s (.mk k o f t u lo hi b op ((ks.take i).map zd0++ks.drop i)) us bs)∧Hid (OutR w (gb::bs) wr (gb::bs)))
 case atStart=>exact ⟨0,rfl,by omega,by omega,by simpa using HS,HO⟩
 case round=>
  clear HS HO q9;obtain ⟨i,rfl,rfl,hin,HS,HO⟩:=hrel;by_cases hlt:i<ks.length
  ·have hdrop:ks.drop i=ks[i]::ks.drop (i+1):=List.drop_eq_getElem_cons hlt;have HNX:Hid (∀q',q'=zd0 ks[i]→(ks.take i).map zd0++q'::ks.drop (i+1)=(ks.take (i+1)).map zd0++ks.drop (i+1)):=hX (fun q' e=>by rw[zbc hlt,List.map_append,e];simp);have HS1:=HS.out;rw[hdrop] at HS1;obtain ⟨g,cap,q9,qo,zo,hset⟩:=HS1.occ i ks.length (by simp;omega) (by simp;omega);have HSET:=hX hset;have HSB:=hX HS1;clear hdrop hset HS1 HS;have h1:(0:Int)≤(i:Int):=by omega
   have h2:(i:Int)<(ks.length:Int):=by omega
   by_cases ho:oc ks[i]=1
   ·have HE:Hid (RewP.withO 4 ks[i]=zd0 ks[i]):=hX (by unfold zd0;rw[if_pos ho]);rw[ho] at qo;clear ho;go_upto_region 5 with fail;have HS2:=hX (HSET.out 4).1;have HO2:=hX (HO.out.trans (HSET.out 4).2);rw[HNX.out _ HE.out] at HS2;clear HSET HSB HO HNX HE qo zo q9;generalize wr.setCell ⟨g,i*10+1,none⟩ (.int .i64 4)=W2 at *;go_wp2_with fail;go_roundg (ks.length - (i+1))
    case measure=>omega
    case rel=>exact ⟨i+1,by go_num,rfl,by omega,HS2,HO2⟩
   ·have HE:Hid (ks[i]=zd0 ks[i]):=hX (by unfold zd0;rw[if_neg ho]);have ho':(oc ks[i] == 1)=false:=by rw[beq_eq_false_iff_ne];exact ho
    have HS2:=hX HSB.out;rw[HNX.out _ HE.out] at HS2;clear HSET HSB HNX HE ho;generalize oc ks[i]=oo at *;go_wp2_with fail;go_roundg (ks.length - (i+1))
    case measure=>omega
    case rel=>exact ⟨i+1,by go_num,rfl,by omega,HS2,HO⟩
  ·obtain rfl:i=ks.length:=by omega
   have HS2:Hid (Bst wr B gb s (.mk k o f t u lo hi b op (ks.map zd0)) us bs):=hX (by have:=HS.out;rw[List.take_length,List.drop_length,List.append_nil] at this;exact this);clear HS;have HR:Hid (zdw ks=if zzk (ks.map zd0) [4] then (ks.map zd0).filter fun k=>decide (oc k≠2) else ks.map zd0):=hX rfl;generalize zdw ks=r at *;generalize ks.map zd0=l at *;have hA:Below wr.heap.size wr (wr.alloc (.cells #[.int .i64 4] 3)):=(Below.refl _ wr).alloc (Nat.le_refl _) _;have HSA:=hX (HS2.out.below hA);have HOA:=hX (HO.out.below hA);have HH:Hid (Calls Tryz.prog 115 #[.pointer (some ⟨gb,0,none⟩),.slice (some ⟨wr.heap.size,0,none⟩) 1 1] (wr.alloc (.cells #[.int .i64 4] 3)) (ze2 (zzk l [4]) (wr.alloc (.cells #[.int .i64 4] 3)))):=hX (zw6 [4] (some ⟨wr.heap.size,0,none⟩) 1 (wr.alloc (.cells #[.int .i64 4] 3)) HSA.out ⟨rfl,fun _=>⟨_,rfl,by simp,fun j v hj=>cells_new wr [.int .i64 4] _ j v hj⟩⟩ (by unfold maxLen;decide));clear hA
   obtain ⟨hb,hhb⟩:∃hb,zzk l [4]=hb:=⟨_,rfl⟩
   rw[hhb] at HH HR;clear hhb HO HS2;go_wp2_with fail;refine HH.out.mono ?_;rintro e w2 ⟨rfl,hbl⟩;have HS2:=hX (HSA.out.below hbl);have HO2:=hX (HOA.out.below hbl);clear hbl HH HSA HOA
   cases hb with
   | false=>
    have HR2:Hid (r=l):=hX HR.out;go_wp2_with fail;go_end0;rw[HR2.out];exact ⟨us,bs,rfl,HS2.out,HO2.out⟩
   | true=>
    have hf:(l.filter fun k=>decide (oc k≠2))=l.filter fun k=>!decide (oc k=2):=by congr 1;funext x;simp
    have HR2:Hid (r=l.filter fun k=>!decide (oc k=2)):=hX (by rw[←hf];exact HR.out);have HD:=hX (zsg (fun k=>decide (oc k=2)) 138 #[] w2 HS2.out (fun _ _=>rfl) (fun k _ us W hu=>zo0 hu));clear HR hf;go_wp2_with fail;refine HD.out.mono ?_;rintro e w3 ⟨us3,bs3,rfl,hs3,ho3⟩;have HS3:=hX hs3;have HO3:=hX (HO2.out.trans ho3);clear hs3 ho3 HD;go_wp2_with fail;go_end0;rw[HR2.out];exact ⟨us3,bs3,rfl,HS3.out,HO3.out⟩
end
end Go.Proofs.YtplkbdncgkgppaaGreatDoor.Qry
end
