/- Lemmas that the last text leans on. -/
import Derived.Test.YtigfcihakghddaaGreatDoorTake
import Derived.Test.YtigfcihakghddaaGreatDoorPack4
import Derived.Test.YtigfcihakghddaaGreatDoorProg
import Derived.BigQuiet
import Derived.Deep.QuietTactic
import Derived.Test.YtigfcihakghddaaGreatDoorPack3
import Derived.Test.YtigfcihakghddaaGreatDoorWords
import Derived.Test.YtigfcihakghddaaGreatDoorPack8
import Derived.Lib.Hide
import Derived.Lib.ConvBytes
import Derived.WalkKit
import Derived.ProofKit
import Derived.LoopTactic
import Derived.Test.YtigfcihakghddaaGreatDoorPack9
import Derived.StillTailTactics
set_option linter.all false
set_option maxRecDepth 100000
section
namespace Go.Proofs.YtigfcihakghddaaGreatDoor.BufT
open Go Go.RowKit Words
theorem clip_i64 (a:Option Addr) (n c:Nat) (w:World) (hn:n≤c) :
 Calls Tryz.prog 70 #[.slice a n c] w fun e w'=>e = .returned (.slice a n n)∧w'=w:=by
 have h1:(0:Int)≤(n:Int):=by omega
 have h2:(n:Int)≤(c:Int):=by omega
 go_enter Tryz.func70,Tryz.ntmps70;go_wp2_with fail;go_ret;exact ⟨rfl,rfl⟩
theorem clip_int (a:Option Addr) (n c:Nat) (w:World) (hn:n≤c) :
 Calls Tryz.prog 81 #[.slice a n c] w fun e w'=>e = .returned (.slice a n n)∧w'=w:=by
 have h1:(0:Int)≤(n:Int):=by omega
 have h2:(n:Int)≤(c:Int):=by omega
 go_enter Tryz.func81,Tryz.ntmps81;go_wp2_with fail;go_ret;exact ⟨rfl,rfl⟩
theorem clip_str (a:Option Addr) (n c:Nat) (w:World) (hn:n≤c) :
 Calls Tryz.prog 83 #[.slice a n c] w fun e w'=>e = .returned (.slice a n n)∧w'=w:=by
 have h1:(0:Int)≤(n:Int):=by omega
 have h2:(n:Int)≤(c:Int):=by omega
 go_enter Tryz.func83,Tryz.ntmps83;go_wp2_with fail;go_ret;exact ⟨rfl,rfl⟩
theorem clip_strs (a:Option Addr) (n c:Nat) (w:World) (hn:n≤c) :
 Calls Tryz.prog 85 #[.slice a n c] w fun e w'=>e = .returned (.slice a n n)∧w'=w:=by
 have h1:(0:Int)≤(n:Int):=by omega
 have h2:(n:Int)≤(c:Int):=by omega
 go_enter Tryz.func85,Tryz.ntmps85;go_wp2_with fail;go_ret;exact ⟨rfl,rfl⟩
theorem clip_rows (a:Option Addr) (n c:Nat) (w:World) (hn:n≤c) :
 Calls Tryz.prog 86 #[.slice a n c] w fun e w'=>e = .returned (.slice a n n)∧w'=w:=by
 have h1:(0:Int)≤(n:Int):=by omega
 have h2:(n:Int)≤(c:Int):=by omega
 go_enter Tryz.func86,Tryz.ntmps86;go_wp2_with fail;go_ret;exact ⟨rfl,rfl⟩
theorem clip_pts (a:Option Addr) (n c:Nat) (w:World) (hn:n≤c) :
 Calls Tryz.prog 87 #[.slice a n c] w fun e w'=>e = .returned (.slice a n n)∧w'=w:=by
 have h1:(0:Int)≤(n:Int):=by omega
 have h2:(n:Int)≤(c:Int):=by omega
 go_enter Tryz.func87,Tryz.ntmps87;go_wp2_with fail;go_ret;exact ⟨rfl,rfl⟩
theorem clip_post (a:Option Addr) (n c:Nat) (w:World) (hn:n≤c) :
 Calls Tryz.prog 82 #[.slice a n c] w fun e w'=>e = .returned (.slice a n n)∧w'=w:=by
 have h1:(0:Int)≤(n:Int):=by omega
 have h2:(n:Int)≤(c:Int):=by omega
 go_enter Tryz.func82,Tryz.ntmps82;go_wp2_with fail;go_ret;exact ⟨rfl,rfl⟩
theorem clip_posts (a:Option Addr) (n c:Nat) (w:World) (hn:n≤c) :
 Calls Tryz.prog 84 #[.slice a n c] w fun e w'=>e = .returned (.slice a n n)∧w'=w:=by
 have h1:(0:Int)≤(n:Int):=by omega
 have h2:(n:Int)≤(c:Int):=by omega
 go_enter Tryz.func84,Tryz.ntmps84;go_wp2_with fail;go_ret;exact ⟨rfl,rfl⟩
theorem clip_u64 (a:Option Addr) (n c:Nat) (w:World) (hn:n≤c) :
 Calls Tryz.prog 44 #[.slice a n c] w fun e w'=>e = .returned (.slice a n n)∧w'=w:=by
 have h1:(0:Int)≤(n:Int):=by omega
 have h2:(n:Int)≤(c:Int):=by omega
 go_enter Tryz.func44,Tryz.ntmps44;go_wp2_with fail;go_ret;exact ⟨rfl,rfl⟩
theorem clip_docs (a:Option Addr) (n c:Nat) (w:World) (hn:n≤c) :
 Calls Tryz.prog 45 #[.slice a n c] w fun e w'=>e = .returned (.slice a n n)∧w'=w:=by
 have h1:(0:Int)≤(n:Int):=by omega
 have h2:(n:Int)≤(c:Int):=by omega
 go_enter Tryz.func45,Tryz.ntmps45;go_wp2_with fail;go_ret;exact ⟨rfl,rfl⟩
theorem clip_inv (a:Option Addr) (n c:Nat) (w:World) (hn:n≤c) :
 Calls Tryz.prog 46 #[.slice a n c] w fun e w'=>e = .returned (.slice a n n)∧w'=w:=by
 have h1:(0:Int)≤(n:Int):=by omega
 have h2:(n:Int)≤(c:Int):=by omega
 go_enter Tryz.func46,Tryz.ntmps46;go_wp2_with fail;go_ret;exact ⟨rfl,rfl⟩
end Go.Proofs.YtigfcihakghddaaGreatDoor.BufT
end
section
namespace Go.Proofs.YtigfcihakghddaaGreatDoor.Sch
open Go.RowKit Go.Lib Words Kit SchP
def AnsB (b:Bool) (w:World) (e:Ending) (w':World):Prop:=e = .returned (.bool b)∧Below w.heap.size w w'
theorem below_bytesWorld (w:World) (e:TypeId) (s:ByteArray):Below w.heap.size w (bytesWorld w e s):=by
 refine ⟨rfl,rfl,rfl,by rw[bytesWorld_size];omega,fun k hk=>bytesWorld_at_old w e s k hk⟩
theorem byteB_cases (i:Nat) (c:UInt8):byteB i c=true∧((97≤(c.toNat:Int)∧(c.toNat:Int)≤122)∨(c.toNat:Int)=95∨((0:Int)<i∧48≤(c.toNat:Int)∧(c.toNat:Int)≤57))
 ∨byteB i c=false∧¬((97≤(c.toNat:Int)∧(c.toNat:Int)≤122)∨(c.toNat:Int)=95∨((0:Int)<i∧48≤(c.toNat:Int)∧(c.toNat:Int)≤57)):=by
 cases h:byteB i c with
 | true=>
  left;simp only[byteB,Bool.or_eq_true,Bool.and_eq_true,decide_eq_true_eq] at h;exact ⟨rfl,by omega⟩
 | false=>
  right;simp only[byteB,Bool.or_eq_false_iff,Bool.and_eq_false_iff,decide_eq_false_iff_not] at h;exact ⟨rfl,by omega⟩
set_option maxHeartbeats 1000000 in
theorem name_any (s:ByteArray) (w:World) (hs:s.size≤140737488351232):Calls Tryz.prog 100 #[.string s] w (AnsB (nameB s) w):=by
 have hcv:=Go.Lib.run_convert_string_bytes (P:=Tryz.prog) w 9 170 5 s (u:=.string) Tryz.underlying9 Tryz.underlying170 Tryz.underlying5;have HB:=hX (below_bytesWorld w 5 s);have HC:=hX (bytesWorld_cell w 5 s);have hz:=bytesWorld_size w 5 s;have hln:s.data.toList.length=s.size:=by simp
 obtain ⟨r,hr⟩:∃r,bytesB 0 s.data.toList=r:=⟨_,rfl⟩
 have HR:Hid (bytesB 0 (s.data.toList.drop 0)=r):=hX hr;have HN:Hid (nameB s=(r && decide (1≤s.size) && decide (s.size≤24))):=hX (by rw[nameB,hr]);clear hr;generalize bytesWorld w 5 s=W at *;go_enter Tryz.func100,Tryz.ntmps100;go_wp2_with fail;go_loop [3,4,8] (fun _ _ i=>∃k:Nat,k≤s.size∧i = .int .i64 k∧Hid (bytesB k (s.data.toList.drop k)=r)) (fun _ _ i=>s.size - (RowKit.intOf i).toNat)
 case atStart=>exact ⟨0,by omega,rfl,HR⟩
 case round=>
  obtain ⟨k,hk,rfl,HE⟩:=hrel;by_cases hlt:k<s.size
  ·have hc:=HC.out k hlt;have HS:Hid (bytesB k (s.data.toList.drop k)=(byteB k (s.data.toList.getD k 0) && bytesB (k+1) (s.data.toList.drop (k+1)))):=hX (by rw[bytesB_step (by omega),List.getD_eq_getElem?_getD,List.getElem?_eq_getElem (by omega)];rfl);have hcs:=byteB_cases k (s.data.toList.getD k 0);have hlc:=(s.data.toList.getD k 0).toNat_lt;have hc2:W.cell? ⟨w.heap.size,0+k,none⟩=some (.int .u8 (s.data.toList.getD k 0).toNat):=by rw[Nat.zero_add];exact hc
   generalize s.data.toList.getD k 0=c at *;generalize hcn:c.toNat=n at *
   rcases hcs with ⟨hb,hcs⟩ | ⟨hb,hcs⟩
   ·have HE2:Hid (bytesB (k+1) (s.data.toList.drop (k+1))=r):=hX (by rw[←HE.out,HS.out,hb];rfl);clear hb HS
    rcases (show (97≤(n:Int)∧(n:Int)≤122)∨(n:Int)=95∨((n:Int)<95∧(0:Int)<k∧48≤(n:Int)∧(n:Int)≤57) by omega) with ⟨h1,h2⟩ | h1 | ⟨h0',h1,h2,h3⟩
    ·have d1:decide (97≤(n:Int))=true:=by simpa using h1
     have d2:decide ((n:Int)≤122)=true:=by simpa using h2
     go_wp2_with fail;go_round
     case rel=>exact ⟨k+1,by omega,by go_num,HE2⟩
     case measure=>simp[RowKit.intOf];omega
    ·have d1:decide (97≤(n:Int))=false:=by rw[decide_eq_false_iff_not];omega
     have d2:((n:Int) == 95)=true:=by rw[h1];rfl
     go_wp2_with fail;go_round
     case rel=>exact ⟨k+1,by omega,by go_num,HE2⟩
     case measure=>simp[RowKit.intOf];omega
    ·have d1:decide (97≤(n:Int))=false:=by rw[decide_eq_false_iff_not];omega
     have d2:((n:Int) == 95)=false:=by rw[beq_eq_false_iff_ne];omega
     have d3:decide ((0:Int)<k)=true:=by simpa using h1
     have d4:decide (48≤(n:Int))=true:=by simpa using h2
     have d5:decide ((n:Int)≤57)=true:=by simpa using h3
     go_wp2_with fail;go_round
     case rel=>exact ⟨k+1,by omega,by go_num,HE2⟩
     case measure=>simp[RowKit.intOf];omega
   ·have HA:Hid (nameB s=false):=hX (by rw[HN.out,←HE.out,HS.out,hb];rfl);clear hb HS
    rcases (show ((n:Int)<97∧(n:Int)≠95∧(k:Int)≤0)∨((n:Int)<97∧(n:Int)≠95∧0<k∧(n:Int)<48)∨((n:Int)<97∧(n:Int)≠95∧0<k∧57<(n:Int))∨(122<(n:Int)∧(k:Int)≤0)∨(122<(n:Int)∧0<k) by omega) with ⟨q1,q2,q3⟩ | ⟨q1,q2,q3,q4⟩ | ⟨q1,q2,q3,q4⟩ | ⟨q1,q2⟩ | ⟨q1,q2⟩
    ·have d1:decide (97≤(n:Int))=false:=by rw[decide_eq_false_iff_not];omega
     have d3:((n:Int) == 95)=false:=by rw[beq_eq_false_iff_ne];omega
     have d4:decide ((0:Int)<k)=false:=by rw[decide_eq_false_iff_not];omega
     go_wp2_with fail;go_ret;rw[HA.out];exact ⟨rfl,HB.out⟩
    ·have d1:decide (97≤(n:Int))=false:=by rw[decide_eq_false_iff_not];omega
     have d3:((n:Int) == 95)=false:=by rw[beq_eq_false_iff_ne];omega
     have d4:decide ((0:Int)<k)=true:=by rw[decide_eq_true_iff];omega
     have d5:decide (48≤(n:Int))=false:=by rw[decide_eq_false_iff_not];omega
     go_wp2_with fail;go_ret;rw[HA.out];exact ⟨rfl,HB.out⟩
    ·have d1:decide (97≤(n:Int))=false:=by rw[decide_eq_false_iff_not];omega
     have d3:((n:Int) == 95)=false:=by rw[beq_eq_false_iff_ne];omega
     have d4:decide ((0:Int)<k)=true:=by rw[decide_eq_true_iff];omega
     have d5:decide (48≤(n:Int))=true:=by rw[decide_eq_true_iff];omega
     have d6:decide ((n:Int)≤57)=false:=by rw[decide_eq_false_iff_not];omega
     go_wp2_with fail;go_ret;rw[HA.out];exact ⟨rfl,HB.out⟩
    ·have d1:decide (97≤(n:Int))=true:=by rw[decide_eq_true_iff];omega
     have d2:decide ((n:Int)≤122)=false:=by rw[decide_eq_false_iff_not];omega
     have d3:((n:Int) == 95)=false:=by rw[beq_eq_false_iff_ne];omega
     have d4:decide ((0:Int)<k)=false:=by rw[decide_eq_false_iff_not];omega
     go_wp2_with fail;go_ret;rw[HA.out];exact ⟨rfl,HB.out⟩
    ·have d1:decide (97≤(n:Int))=true:=by rw[decide_eq_true_iff];omega
     have d2:decide ((n:Int)≤122)=false:=by rw[decide_eq_false_iff_not];omega
     have d3:((n:Int) == 95)=false:=by rw[beq_eq_false_iff_ne];omega
     have d4:decide ((0:Int)<k)=true:=by rw[decide_eq_true_iff];omega
     have d5:decide (48≤(n:Int))=true:=by rw[decide_eq_true_iff];omega
     have d6:decide ((n:Int)≤57)=false:=by rw[decide_eq_false_iff_not];omega
     go_wp2_with fail;go_ret;rw[HA.out];exact ⟨rfl,HB.out⟩
  ·obtain rfl:k=s.size:=by omega
   have HF:Hid (r=true):=hX (by rw[←HE.out,←hln,List.drop_length];rfl);have hlt2:¬s.size<s.size:=by omega
   by_cases h1:1≤s.size
   ·by_cases h2:s.size≤24
    ·have HA:Hid (nameB s=true):=hX (by rw[HN.out,HF.out,decide_eq_true h1,decide_eq_true h2];rfl);have d1:decide (1≤(s.size:Int))=true:=by rw[decide_eq_true_iff];omega
     have d2:decide ((s.size:Int)≤24)=true:=by rw[decide_eq_true_iff];omega
     go_wp2_with fail;go_ret;rw[HA.out];exact ⟨rfl,HB.out⟩
    ·have HA:Hid (nameB s=false):=hX (by rw[HN.out,HF.out,decide_eq_true h1,decide_eq_false h2];rfl);have d1:decide (1≤(s.size:Int))=true:=by rw[decide_eq_true_iff];omega
     have d2:decide ((s.size:Int)≤24)=false:=by rw[decide_eq_false_iff_not];omega
     go_wp2_with fail;go_ret;rw[HA.out];exact ⟨rfl,HB.out⟩
   ·have HA:Hid (nameB s=false):=hX (by rw[HN.out,HF.out,decide_eq_false h1];rfl);have d1:decide (1≤(s.size:Int))=false:=by rw[decide_eq_false_iff_not];omega
    go_wp2_with fail;go_ret;rw[HA.out];exact ⟨rfl,HB.out⟩
end Go.Proofs.YtigfcihakghddaaGreatDoor.Sch
end
section
namespace Go.Proofs.YtigfcihakghddaaGreatDoor.Sch
open Go.RowKit Words Tree SchP Kit Owned
def markF:List Value:=[.string ⟨#[109,97,114,107]⟩,.int .i64 0,.slice none 0 0,.int .i64 0,.int .i64 0,.bool false,.bool false]
def markE:List Value:=[.string ⟨#[109,97,114,107]⟩,.string ⟨#[]⟩,.slice none 0 0]
def lent:Nat→List (List Value):=fun s=>if s=1 then [[.int .i64 (-7171)]] else if s=7 then [markF] else if s=3 then [markE] else []
theorem infoI64:(Tryz.prog.info? 2).map (fun i=>(i.zero,i.size,i.bytes))=some (some (.int .i64 0),1,8):=by kernel_rfl
theorem infoInt:(Tryz.prog.info? 3).map (fun i=>(i.zero,i.size,i.bytes))=some (some (.int .i64 0),1,8):=by kernel_rfl
theorem cells_new (w:World) (l:List Value) (t:TypeId) (j:Nat) (u:Value) (h:l[j]?=some u):(w.alloc (.cells l.toArray t)).cell? ((⟨w.heap.size,0,none⟩:Addr).add j)=some u:=by
 have e:(⟨w.heap.size,0,none⟩:Addr).add j=⟨w.heap.size,j,none⟩:=by unfold Addr.add;split <;> simp_all
 rw[e,World.cell?_alloc_new];simpa using h
end Go.Proofs.YtigfcihakghddaaGreatDoor.Sch
end
section
namespace Go.Proofs.YtigfcihakghddaaGreatDoor.Sch
open Go.RowKit Words Tree SchP Kit Owned
theorem reads_int {w:World} {B:Nat} {A:Option Addr} {l:List Int} {i:IntKind} (h:Reads w B 1 A l.length (l.map (Value.int i))) {k:Nat} (hk:k<l.length) :
 ∃ad,A=some ad∧ad.block<B∧w.cell? (ad.add k)=some (.int i l[k]):=by
 obtain ⟨ad,e,hb,hc⟩:=h.2 (by omega);exact ⟨ad,e,hb,hc k _ (by simp[hk])⟩
theorem below_drewN' {w:World} (n:Nat):Below w.heap.size w (w.drewN n):=⟨rfl,rfl,rfl,Nat.le_refl _,fun _ _=>rfl⟩
theorem take_snoc {α:Type} {l:List α} {k:Nat} (h:k<l.length):l.take (k+1)=l.take k++[l[k]]:=List.take_succ_eq_append_getElem h
theorem int64s_any (ao bo:Option Addr) (c d:Nat) (xs ys:List Int) (w:World) (ha:Reads w w.heap.size 1 ao xs.length (xs.map (Value.int .i64))) (hb:Reads w w.heap.size 1 bo ys.length (ys.map (Value.int .i64))) (hla:xs.length*8≤140737488351232) (hlb:ys.length*8≤140737488351232) (r:Bool) (hr:r=true↔xs=ys) :
 Calls Tryz.prog 31 #[.slice ao xs.length c,.slice bo ys.length d] w (AnsB r w):=by
 have HA:=hX ha;have HB:=hX hb;have HR:=hX hr;clear ha hb hr;by_cases hl:xs.length=ys.length
 ·have HL:=hX hl;have hbne:((xs.length:Int) != (ys.length:Int))=false:=by rw[hl];simp
  clear hl;go_enter Tryz.func31,Tryz.ntmps31;go_wp2_with fail;go_loopw [5] (fun i wr=>∃(k m:Nat),k≤xs.length∧i = .int .i64 k∧Hid (xs.take k=ys.take k)∧wr=w.drewN m) (fun i _=>xs.length - (intOf i).toNat);case atStart=>exact ⟨0,0,by omega,rfl,hX (by simp),rfl⟩
  case round=>
   obtain ⟨k,m,hk,rfl,HE,rfl⟩:=hrel;by_cases hlt:k<xs.length
   ·have hlt2:k<ys.length:=by have:=HL.out;omega
    obtain ⟨ad,rfl,hba,a0⟩:=reads_int HA.out hlt;obtain ⟨bd,rfl,hbb,b0⟩:=reads_int HB.out hlt2;have HST:Hid (xs.take (k+1)=xs.take k++[xs[k]]∧ys.take (k+1)=ys.take k++[ys[k]]):=hX ⟨take_snoc hlt,take_snoc hlt2⟩
    have HNE:Hid (¬xs[k]=ys[k]→r=false):=hX (fun h=>by
     cases hr0:r with
     | false=>rfl
     | true=>
      have e:=HR.out.1 hr0;subst e
      exact absurd rfl h)
    by_cases he:xs[k]=ys[k]
    ·have HQ:=hX he;rw[←he] at b0;clear he HNE;generalize hx:xs[k]=x at *;clear hx;go_wp2_with fail;go_quiet (fail);go_wp2_with fail;go_roundw;case rel=>exact ⟨k+1,_,by omega,by go_num,hX (by rw[HST.out.1,HST.out.2,HE.out,←HQ.out]),by first | rfl | (rw[World.drewN_drewN])⟩
     case measure=>simp[intOf];omega
    ·have HRF:=hX (HNE.out he);have hne:(xs[k] != ys[k])=true:=by rw[bne_iff_ne];exact he
     clear he HNE HST;generalize xs[k]=x at *;generalize ys[k]=y at *;go_wp2_with fail;go_quiet (fail);go_wp2_with fail;go_ret;rw[HRF.out];exact ⟨rfl,⟨rfl,rfl,rfl,Nat.le_refl _,fun _ _=>rfl⟩⟩
   ·obtain rfl:k=xs.length:=by omega
    have hT:r=true:=(by rw[HR.out];have:=HE.out;rw[List.take_of_length_le (Nat.le_refl _),HL.out,List.take_of_length_le (Nat.le_refl _)] at this;exact this)
    have HRT:=hX hT;clear hT;go_wp2_with fail;go_ret;rw[HRT.out];exact ⟨rfl,below_drewN' _⟩
 ·have hbne:((xs.length:Int) != (ys.length:Int))=true:=by rw[bne_iff_ne];omega
  have HRF:Hid (r=false):=hX (by
   cases hr0:r with
   | false=>rfl
   | true=>exact absurd (by rw[HR.out.1 hr0]) hl)
  clear hl;go_enter Tryz.func31,Tryz.ntmps31;go_wp2_with fail;go_ret;rw[HRF.out];exact ⟨rfl,Below.refl _ _⟩
theorem ints_any (ao bo:Option Addr) (c d:Nat) (xs ys:List Int) (w:World) (ha:Reads w w.heap.size 1 ao xs.length (xs.map (Value.int .i64))) (hb:Reads w w.heap.size 1 bo ys.length (ys.map (Value.int .i64))) (hla:xs.length*8≤140737488351232) (hlb:ys.length*8≤140737488351232) (r:Bool) (hr:r=true↔xs=ys) :
 Calls Tryz.prog 28 #[.slice ao xs.length c,.slice bo ys.length d] w (AnsB r w):=by
 have HA:=hX ha;have HB:=hX hb;have HR:=hX hr;clear ha hb hr;by_cases hl:xs.length=ys.length
 ·have HL:=hX hl;have hbne:((xs.length:Int) != (ys.length:Int))=false:=by rw[hl];simp
  clear hl;go_enter Tryz.func28,Tryz.ntmps28;go_wp2_with fail;go_loopw [5] (fun i wr=>∃(k m:Nat),k≤xs.length∧i = .int .i64 k∧Hid (xs.take k=ys.take k)∧wr=w.drewN m) (fun i _=>xs.length - (intOf i).toNat);case atStart=>exact ⟨0,0,by omega,rfl,hX (by simp),rfl⟩
  case round=>
   obtain ⟨k,m,hk,rfl,HE,rfl⟩:=hrel;by_cases hlt:k<xs.length
   ·have hlt2:k<ys.length:=by have:=HL.out;omega
    obtain ⟨ad,rfl,hba,a0⟩:=reads_int HA.out hlt;obtain ⟨bd,rfl,hbb,b0⟩:=reads_int HB.out hlt2;have HST:Hid (xs.take (k+1)=xs.take k++[xs[k]]∧ys.take (k+1)=ys.take k++[ys[k]]):=hX ⟨take_snoc hlt,take_snoc hlt2⟩
    have HNE:Hid (¬xs[k]=ys[k]→r=false):=hX (fun h=>by
     cases hr0:r with
     | false=>rfl
     | true=>
      have e:=HR.out.1 hr0;subst e
      exact absurd rfl h)
    by_cases he:xs[k]=ys[k]
    ·have HQ:=hX he;rw[←he] at b0;clear he HNE;generalize hx:xs[k]=x at *;clear hx;go_wp2_with fail;go_quiet (fail);go_wp2_with fail;go_roundw;case rel=>exact ⟨k+1,_,by omega,by go_num,hX (by rw[HST.out.1,HST.out.2,HE.out,←HQ.out]),by first | rfl | (rw[World.drewN_drewN])⟩
     case measure=>simp[intOf];omega
    ·have HRF:=hX (HNE.out he);have hne:(xs[k] != ys[k])=true:=by rw[bne_iff_ne];exact he
     clear he HNE HST;generalize xs[k]=x at *;generalize ys[k]=y at *;go_wp2_with fail;go_quiet (fail);go_wp2_with fail;go_ret;rw[HRF.out];exact ⟨rfl,⟨rfl,rfl,rfl,Nat.le_refl _,fun _ _=>rfl⟩⟩
   ·obtain rfl:k=xs.length:=by omega
    have hT:r=true:=(by rw[HR.out];have:=HE.out;rw[List.take_of_length_le (Nat.le_refl _),HL.out,List.take_of_length_le (Nat.le_refl _)] at this;exact this)
    have HRT:=hX hT;clear hT;go_wp2_with fail;go_ret;rw[HRT.out];exact ⟨rfl,below_drewN' _⟩
 ·have hbne:((xs.length:Int) != (ys.length:Int))=true:=by rw[bne_iff_ne];omega
  have HRF:Hid (r=false):=hX (by
   cases hr0:r with
   | false=>rfl
   | true=>exact absurd (by rw[HR.out.1 hr0]) hl)
  clear hl;go_enter Tryz.func28,Tryz.ntmps28;go_wp2_with fail;go_ret;rw[HRF.out];exact ⟨rfl,Below.refl _ _⟩
end Go.Proofs.YtigfcihakghddaaGreatDoor.Sch
end
section
namespace Go.Proofs.YtigfcihakghddaaGreatDoor.Sch
open Go.RowKit Words Tree SchP Kit Owned
theorem below2 {w:World} (o1 o2:Obj):Below w.heap.size w ((w.alloc o1).alloc o2):=((Below.refl _ _).alloc (Nat.le_refl _) _).alloc (by simp) _
theorem blk_a (w:World) (cs ds:Array Value) (t t':TypeId):Blk ((w.alloc (.cells cs t)).alloc (.cells ds t')) w.heap.size t cs:=(Blk.new w t cs).alloc _
theorem blk_b (w:World) (cs ds:Array Value) (t t':TypeId):Blk ((w.alloc (.cells cs t)).alloc (.cells ds t')) (w.heap.size+1) t' ds:=by
 have:=Blk.new (w.alloc (.cells cs t)) t' ds;rwa [World.size_alloc] at this
theorem seven {w:World} {ad:Addr} {v0 v1 v2 v3 v4 v5 v6:Value} (h:Cells w ad [v0,v1,v2,v3,v4,v5,v6]) :
 w.cell? ad=some v0∧w.cell? ⟨ad.block,ad.off+1,none⟩=some v1∧w.cell? ⟨ad.block,ad.off+2,none⟩=some v2∧w.cell? ⟨ad.block,ad.off+3,none⟩=some v3∧w.cell? ⟨ad.block,ad.off+4,none⟩=some v4∧
 w.cell? ⟨ad.block,ad.off+5,none⟩=some v5∧w.cell? ⟨ad.block,ad.off+6,none⟩=some v6:=
 ⟨h.zero,h.at_ 1 _ rfl (by omega),h.at_ 2 _ rfl (by omega),h.at_ 3 _ rfl (by omega),h.at_ 4 _ rfl (by omega),h.at_ 5 _ rfl (by omega),h.at_ 6 _ rfl (by omega)⟩
end Go.Proofs.YtigfcihakghddaaGreatDoor.Sch
end
section
namespace Go.Proofs.YtigfcihakghddaaGreatDoor.Sch
open Go.RowKit Words Tree SchP Kit Owned
end Go.Proofs.YtigfcihakghddaaGreatDoor.Sch
end
section
namespace Go.Proofs.YtigfcihakghddaaGreatDoor.Sch
open Go.RowKit Words Tree SchP Kit Owned
theorem str_cases (a b:ByteArray):(a=b∧(a.toList == b.toList)=true)∨(a≠b∧(a.toList == b.toList)=false):=by
 by_cases h:a=b
 ·exact .inl ⟨h,by subst h;simp⟩
 ·refine .inr ⟨h,?_⟩;have:¬a.toList=b.toList:=fun e=>by rw[ByteArray.toList_eq,ByteArray.toList_eq] at e;exact h (ByteArray.ext (Array.toList_inj.1 e))
  rw[beq_eq_false_iff_ne];exact this
theorem findF_drop {l:List FT} {s:ByteArray} {k:Nat} (h:k<l.length):findF (l.drop k) s=if l[k].name=s then some 0 else (findF (l.drop (k+1)) s).map (· + 1):=by
 rw[List.drop_eq_getElem_cons h,findF]
def zOf:Option Nat→Int
 | some i=>i
 | none=>-1
theorem findZ_eq (l:List FT) (s:ByteArray):findZ l s=zOf (findF l s):=by
 unfold findZ zOf;cases findF l s <;> rfl
def IntB (n:Int) (w:World) (e:Ending) (w':World):Prop:=e = .returned (.int .i64 n)∧Below w.heap.size w w'
end Go.Proofs.YtigfcihakghddaaGreatDoor.Sch
end
section
namespace Go.Proofs.YtigfcihakghddaaGreatDoor.Sch
open Go.RowKit Words Tree SchP Kit Owned
theorem three {w:World} {ad:Addr} {v0 v1 v2:Value} (h:Cells w ad [v0,v1,v2]) :
 w.cell? ad=some v0∧w.cell? ⟨ad.block,ad.off+1,none⟩=some v1∧w.cell? ⟨ad.block,ad.off+2,none⟩=some v2:=
 ⟨h.zero,h.at_ 1 _ rfl (by omega),h.at_ 2 _ rfl (by omega)⟩
theorem blk7 {w:World} {g:Nat} {t:TypeId} {v0 v1 v2 v3 v4 v5 v6:Value} (h:Blk w g t #[v0,v1,v2,v3,v4,v5,v6]) :
 w.cell? ⟨g,0,none⟩=some v0∧w.cell? ⟨g,1,none⟩=some v1∧w.cell? ⟨g,2,none⟩=some v2∧w.cell? ⟨g,3,none⟩=some v3∧w.cell? ⟨g,4,none⟩=some v4∧w.cell? ⟨g,5,none⟩=some v5∧w.cell? ⟨g,6,none⟩=some v6:=
 ⟨h.cell 0,h.cell 1,h.cell 2,h.cell 3,h.cell 4,h.cell 5,h.cell 6⟩
end Go.Proofs.YtigfcihakghddaaGreatDoor.Sch
end
