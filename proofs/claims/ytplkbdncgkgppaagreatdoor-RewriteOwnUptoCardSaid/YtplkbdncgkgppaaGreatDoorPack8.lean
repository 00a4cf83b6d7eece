/- Lemmas that the last text leans on. -/
import Derived.Test.YtplkbdncgkgppaaGreatDoorTake
import Derived.Test.YtplkbdncgkgppaaGreatDoorPack2
import Derived.Test.YtplkbdncgkgppaaGreatDoorProg
import Derived.Lib.Hide
import Derived.Lib.ConvBytes
import Derived.WalkKit
import Derived.ProofKit
import Derived.LoopTactic
import Derived.Test.YtplkbdncgkgppaaGreatDoorPack7
import Derived.Test.YtplkbdncgkgppaaGreatDoorPack4
import Derived.Deep.LoopGhost
import Derived.Deep.RegionHeld3
import Derived.Deep.QuietTactic
import Derived.BigQuiet
set_option linter.all false
set_option maxRecDepth 100000
set_option maxHeartbeats 8000000
section
namespace Go.Proofs.YtplkbdncgkgppaaGreatDoor.Sch
open Go.RowKit Go.Lib Words Kit SchP
def ze2 (b:Bool) (w:World) (e:Ending) (w':World):Prop:=e = .returned (.bool b)∧Below w.heap.size w w'
theorem zjb (w:World) (e:TypeId) (s:ByteArray):Below w.heap.size w (bytesWorld w e s):=by
 refine ⟨rfl,rfl,rfl,by rw[bytesWorld_size];omega,fun k hk=>bytesWorld_at_old w e s k hk⟩
theorem zp4 (i:Nat) (c:UInt8):zno i c=true∧((97≤(c.toNat:Int)∧(c.toNat:Int)≤122)∨(c.toNat:Int)=95∨((0:Int)<i∧48≤(c.toNat:Int)∧(c.toNat:Int)≤57))
 ∨zno i c=false∧¬((97≤(c.toNat:Int)∧(c.toNat:Int)≤122)∨(c.toNat:Int)=95∨((0:Int)<i∧48≤(c.toNat:Int)∧(c.toNat:Int)≤57)):=by
 cases h:zno i c with
 | true=>
  left;simp only[zno,Bool.or_eq_true,Bool.and_eq_true,decide_eq_true_eq] at h;exact ⟨rfl,by omega⟩
 | false=>
  right;simp only[zno,Bool.or_eq_false_iff,Bool.and_eq_false_iff,decide_eq_false_iff_not] at h;exact ⟨rfl,by omega⟩
theorem zgc (s:ByteArray) (w:World) (hs:s.size≤140737488351232):Calls Tryz.prog 59 #[.string s] w (ze2 (zbx s) w):=by
 have hcv:=Go.Lib.run_convert_string_bytes (P:=Tryz.prog) w 9 93 5 s (u:=.string) Tryz.underlying9 Tryz.underlying93 Tryz.underlying5;have HB:=hX (zjb w 5 s);have HC:=hX (bytesWorld_cell w 5 s);have hz:=bytesWorld_size w 5 s;have hln:s.data.toList.length=s.size:=by simp
 obtain ⟨r,hr⟩:∃r,ze9 0 s.data.toList=r:=⟨_,rfl⟩
 have HR:Hid (ze9 0 (s.data.toList.drop 0)=r):=hX hr;have HN:Hid (zbx s=(r && decide (1≤s.size) && decide (s.size≤24))):=hX (by rw[zbx,hr]);clear hr;generalize bytesWorld w 5 s=W at *;go_enter Tryz.func59,Tryz.ntmps59;go_wp2_with fail;go_loop [3,4,8] (fun _ _ i=>∃k:Nat,k≤s.size∧i = .int .i64 k∧Hid (ze9 k (s.data.toList.drop k)=r)) (fun _ _ i=>s.size - (RowKit.intOf i).toNat)
 case atStart=>exact ⟨0,by omega,rfl,HR⟩
 case round=>
  obtain ⟨k,hk,rfl,HE⟩:=hrel;by_cases hlt:k<s.size
  ·have hc:=HC.out k hlt;have HS:Hid (ze9 k (s.data.toList.drop k)=(zno k (s.data.toList.getD k 0) && ze9 (k+1) (s.data.toList.drop (k+1)))):=hX (by rw[zpw (by omega),List.getD_eq_getElem?_getD,List.getElem?_eq_getElem (by omega)];rfl);have hcs:=zp4 k (s.data.toList.getD k 0);have hlc:=(s.data.toList.getD k 0).toNat_lt;have hc2:W.cell? ⟨w.heap.size,0+k,none⟩=some (.int .u8 (s.data.toList.getD k 0).toNat):=by rw[Nat.zero_add];exact hc
   generalize s.data.toList.getD k 0=c at *;generalize hcn:c.toNat=n at *
   rcases hcs with ⟨hb,hcs⟩ | ⟨hb,hcs⟩
   ·have HE2:Hid (ze9 (k+1) (s.data.toList.drop (k+1))=r):=hX (by rw[←HE.out,HS.out,hb];rfl);clear hb HS
    rcases (show (97≤(n:Int)∧(n:Int)≤122)∨(n:Int)=95∨((n:Int)<95∧(0:Int)<k∧48≤(n:Int)∧(n:Int)≤57) by omega) with ⟨h1,h2⟩ | h1 | ⟨h0',h1,h2,h3⟩
    ·have d1:decide (97≤(n:Int))=true:=by simpa using h1
     have d2:decide ((n:Int)≤122)=true:=by simpa using h2
     go_wp2_with fail;go_round
     case rel=>exact ⟨k+1,by omega,by go_num,HE2⟩
     case measure=>simp[RowKit.intOf];omega
    ·have d1:decide (97≤(n:Int))=false:=by rw[decide_eq_false_iff_not];omega
     have d2:((n:Int) == 95)=true:=by rw[h1];rfl
     go_wp2_with fail;go_round
     case rel=>exact ⟨k+1,by omega,by go_num,HE2⟩
     case measure=>simp[RowKit.intOf];omega
    ·have d1:decide (97≤(n:Int))=false:=by rw[decide_eq_false_iff_not];omega
     have d2:((n:Int) == 95)=false:=by rw[beq_eq_false_iff_ne];omega
     have d3:decide ((0:Int)<k)=true:=by simpa using h1
     have d4:decide (48≤(n:Int))=true:=by simpa using h2
     have d5:decide ((n:Int)≤57)=true:=by simpa using h3
     go_wp2_with fail;go_round
     case rel=>exact ⟨k+1,by omega,by go_num,HE2⟩
     case measure=>simp[RowKit.intOf];omega
   ·have HA:Hid (zbx s=false):=hX (by rw[HN.out,←HE.out,HS.out,hb];rfl);clear hb HS
    rcases (show ((n:Int)<97∧(n:Int)≠95∧(k:Int)≤0)∨((n:Int)<97∧(n:Int)≠95∧0<k∧(n:Int)<48)∨((n:Int)<97∧(n:Int)≠95∧0<k∧57<(n:Int))∨(122<(n:Int)∧(k:Int)≤0)∨(122<(n:Int)∧0<k) by omega) with ⟨q1,q2,q3⟩ | ⟨q1,q2,q3,q4⟩ | ⟨q1,q2,q3,q4⟩ | ⟨q1,q2⟩ | ⟨q1,q2⟩
    ·have d1:decide (97≤(n:Int))=false:=by rw[decide_eq_false_iff_not];omega
     have d3:((n:Int) == 95)=false:=by rw[beq_eq_false_iff_ne];omega
     have d4:decide ((0:Int)<k)=false:=by rw[decide_eq_false_iff_not];omega
     go_wp2_with fail;go_ret;rw[HA.out];exact ⟨rfl,HB.out⟩
    ·have d1:decide (97≤(n:Int))=false:=by rw[decide_eq_false_iff_not];omega
     have d3:((n:Int) == 95)=false:=by rw[beq_eq_false_iff_ne];omega
     have d4:decide ((0:Int)<k)=true:=by rw[decide_eq_true_iff];omega
     have d5:decide (48≤(n:Int))=false:=by rw[decide_eq_false_iff_not];omega
     go_wp2_with fail;go_ret;rw[HA.out];exact ⟨rfl,HB.out⟩
    ·have d1:decide (97≤(n:Int))=false:=by rw[decide_eq_false_iff_not];omega
     have d3:((n:Int) == 95)=false:=by rw[beq_eq_false_iff_ne];omega
     have d4:decide ((0:Int)<k)=true:=by rw[decide_eq_true_iff];omega
     have d5:decide (48≤(n:Int))=true:=by rw[decide_eq_true_iff];omega
     have d6:decide ((n:Int)≤57)=false:=by rw[decide_eq_false_iff_not];omega
     go_wp2_with fail;go_ret;rw[HA.out];exact ⟨rfl,HB.out⟩
    ·have d1:decide (97≤(n:Int))=true:=by rw[decide_eq_true_iff];omega
     have d2:decide ((n:Int)≤122)=false:=by rw[decide_eq_false_iff_not];omega
     have d3:((n:Int) == 95)=false:=by rw[beq_eq_false_iff_ne];omega
     have d4:decide ((0:Int)<k)=false:=by rw[decide_eq_false_iff_not];omega
     go_wp2_with fail;go_ret;rw[HA.out];exact ⟨rfl,HB.out⟩
    ·have d1:decide (97≤(n:Int))=true:=by rw[decide_eq_true_iff];omega
     have d2:decide ((n:Int)≤122)=false:=by rw[decide_eq_false_iff_not];omega
     have d3:((n:Int) == 95)=false:=by rw[beq_eq_false_iff_ne];omega
     have d4:decide ((0:Int)<k)=true:=by rw[decide_eq_true_iff];omega
     have d5:decide (48≤(n:Int))=true:=by rw[decide_eq_true_iff];omega
     have d6:decide ((n:Int)≤57)=false:=by rw[decide_eq_false_iff_not];omega
     go_wp2_with fail;go_ret;rw[HA.out];exact ⟨rfl,HB.out⟩
  ·obtain rfl:k=s.size:=by omega
   have HF:Hid (r=true):=hX (by rw[←HE.out,←hln,List.drop_length];rfl);have hlt2:¬s.size<s.size:=by omega
   by_cases h1:1≤s.size
   ·by_cases h2:s.size≤24
    ·have HA:Hid (zbx s=true):=hX (by rw[HN.out,HF.out,decide_eq_true h1,decide_eq_true h2];rfl);have d1:decide (1≤(s.size:Int))=true:=by rw[decide_eq_true_iff];omega
     have d2:decide ((s.size:Int)≤24)=true:=by rw[decide_eq_true_iff];omega
     go_wp2_with fail;go_ret;rw[HA.out];exact ⟨rfl,HB.out⟩
    ·have HA:Hid (zbx s=false):=hX (by rw[HN.out,HF.out,decide_eq_true h1,decide_eq_false h2];rfl);have d1:decide (1≤(s.size:Int))=true:=by rw[decide_eq_true_iff];omega
     have d2:decide ((s.size:Int)≤24)=false:=by rw[decide_eq_false_iff_not];omega
     go_wp2_with fail;go_ret;rw[HA.out];exact ⟨rfl,HB.out⟩
   ·have HA:Hid (zbx s=false):=hX (by rw[HN.out,HF.out,decide_eq_false h1];rfl);have d1:decide (1≤(s.size:Int))=false:=by rw[decide_eq_false_iff_not];omega
    go_wp2_with fail;go_ret;rw[HA.out];exact ⟨rfl,HB.out⟩
end Go.Proofs.YtplkbdncgkgppaaGreatDoor.Sch
end
section
namespace Go.Proofs.YtplkbdncgkgppaaGreatDoor.Qry
open Go.RowKit Words Tree QryP Kit Sch Owned
abbrev rem (s:ByteArray) (k:Nat):R:=s.data.toList.drop k
structure Pa (s:ByteArray) (gp k:Nat) (w:World):Prop where
 blk:Blk w gp 104 #[.string s,.int .i64 k]
 le:k≤s.size
theorem Pa.keep {s:ByteArray} {gp k:Nat} {w w':World} (h:Pa s gp k w) (hb:Below w.heap.size w w'):Pa s gp k w':=⟨h.blk.below hb h.blk.lt,h.le⟩
theorem Pa.grown {s:ByteArray} {gp k:Nat} {w w':World} {row:Option Nat} (h:Pa s gp k w) (hg:w.grownBy w' row) (hr:row≠some gp):Pa s gp k w':=⟨h.blk.grown hg (Ne.symm hr),h.le⟩
theorem zaa {a b c:World} {row:Option Nat} (h:a.grownBy b row) (k:b.grownBy c row):a.grownBy c row:=
 ⟨k.os.trans h.os,k.tape.trans h.tape,k.output.trans h.output,Nat.le_trans h.size k.size,fun i hi hne=>(k.block i (Nat.lt_of_lt_of_le hi h.size) hne).trans (h.block i hi hne)⟩
theorem Pa.drewN {s:ByteArray} {gp k:Nat} {w:World} (h:Pa s gp k w) (n:Nat):Pa s gp k (w.drewN n):=⟨h.blk.drewN n,h.le⟩
theorem Pa.next {s:ByteArray} {gp k:Nat} {w:World} (h:Pa s gp k w) (m:Nat) (hk:k+m≤s.size) (v:Int) (hv:v=(k+m:Nat)):Pa s gp (k+m) (w.setCell ⟨gp,1,none⟩ (.int .i64 v)):=by
 subst hv;exact ⟨h.blk.set_ 1 _,hk⟩
theorem zcr {w0 w:World} {gp:Nat} (h:w0.grownBy w (some gp)) (i:Nat) (u:Value):w0.grownBy (w.setCell ⟨gp,i,none⟩ u) (some gp):=zac h (.inl rfl) u
def znz (k:Int) (c:Int):Value:=.iface 100 (.agg #[.int .i64 k,.int .i64 c])
def ze3 (k:Int) (c:Int):Ending:=.panicked [{ v:=znz k c,recovered:=false }]
theorem za1 (k:Int) (w:World):Calls Tryz.prog 53 #[.int .i64 k] w fun e w'=>e=ze3 k 180∧w'=w:=by
 go_enter Tryz.func53,Tryz.ntmps53;go_wp2_with fail;exact ⟨rfl,rfl,rfl⟩
theorem zbd {s:ByteArray} {k:Nat} (h:k<s.size):rem s k=s[k]::rem s (k+1):=by
 have h2:k<s.data.toList.length:=by simpa using h
 unfold rem;rw[List.drop_eq_getElem_cons h2];congr 1
theorem zda (s:ByteArray):rem s s.size=[]:=by unfold rem;rw[List.drop_eq_nil_iff];simp
theorem zds (s:ByteArray) (k:Nat):(rem s k).length=s.size - k:=by unfold rem;rw[List.length_drop];simp
theorem zu4 (c:UInt8):((c.toNat:Int)).toNat.toUInt8=c:=by simp
theorem zmj {p:UInt8→Prop} (h:∀n:Fin 256,p (UInt8.ofNat n.val)) (c:UInt8):p c:=by
 have:=h ⟨c.toNat,c.toNat_lt⟩;simpa using this
theorem zyn (c:UInt8):(if zrj c then 0≤Lib.indexByte [9,10,13,32] c else Lib.indexByte [9,10,13,32] c<0):=by
 revert c;exact zmj (by decide +kernel)
theorem zyo {s:ByteArray} {k:Nat} (h:k<s.size):zaf (rem s k)=if zrj s[k] then zaf (rem s (k+1)) else rem s k:=by
 rw[zbd h];unfold zaf;rw[List.dropWhile_cons]
def At (s:ByteArray) (gp k:Nat) (w:World) (r:R) (w':World):Prop:=w.grownBy w' (some gp)∧∃k',k≤k'∧Pa s gp k' w'∧rem s k'=r
def ydk (s:ByteArray) (gp k:Nat) (w:World) (r:R) (e:Ending) (w':World):Prop:=e = .returned (.tuple #[])∧At s gp k w r w'
theorem zdd (s:ByteArray) (gp k:Nat) (w:World) (h:Pa s gp k w) (hs:s.size≤4096):Calls Tryz.prog 52 #[.pointer (some ⟨gp,0,none⟩)] w (ydk s gp k w (zaf (rem s k))):=by
 have HP:=hX h
 obtain ⟨r,hr⟩:∃r,zaf (rem s k)=r:=⟨_,rfl⟩
 rw[hr];have H0:Hid (w.grownBy w (some gp)∧zaf (rem s k)=r):=hX ⟨World.grownBy.refl w _,hr⟩;clear h hr;go_enter Tryz.func52,Tryz.ntmps52;go_wp2_with fail;go_loopg [] (s.size - k) (fun n wr=>∃j:Nat,k≤j∧j≤s.size∧n=s.size - j∧Hid (Pa s gp j wr)∧Hid (w.grownBy wr (some gp)∧zaf (rem s j)=r))
 case atStart=>exact ⟨k,Nat.le_refl _,HP.out.le,rfl,HP,H0⟩
 case round=>
  obtain ⟨j,hkj,hj,rfl,HJ,HE⟩:=hrel;by_cases hlt:j<s.size
  ·have c0:wr.cell? ⟨gp,0,none⟩=some (.string s):=HJ.out.blk.cell 0;have c1:wr.cell? ⟨gp,1,none⟩=some (.int .i64 j):=HJ.out.blk.cell 1;have z1:wr.frozen? ⟨gp,1,none⟩=false:=HJ.out.blk.frozen 1;have h1:(0:Int)≤(j:Int):=by omega
   have h2:(j:Int)<(s.size:Int):=by omega
   have HS:=hX (zyo hlt);have hix:=zyn s[j]
   cases hb:zrj s[j] with
   | true=>
    rw[hb] at hix HS;have d1:decide (0≤Lib.indexByte [9,10,13,32] s[j])=true:=decide_eq_true hix;clear hix hb;go_upto_region 0 with fail;go_quiet ((go_at_call 76;exact Calls.quiet_of_same (Tryz.strings_IndexByte _ _ _)));go_wp2_with fail;have HN:Hid (Pa s gp (j+1) ((wr.drewN nq).setCell ⟨gp,1,none⟩ (.int .i64 (j+1)))):=hX ((HJ.out.drewN nq).next 1 hlt _ (by omega));have HG:Hid (w.grownBy ((wr.drewN nq).setCell ⟨gp,1,none⟩ (.int .i64 (j+1))) (some gp)∧zaf (rem s (j+1))=r):=hX ⟨zcr (zaq HE.out.1 nq) 1 _,by rw[←HE.out.2,HS.out];rfl⟩;go_roundg (s.size - (j+1))
    case measure=>omega
    case rel=>exact ⟨j+1,by omega,by omega,rfl,HN,HG⟩
   | false=>
    rw[hb] at hix HS;have d1:decide (0≤Lib.indexByte [9,10,13,32] s[j])=false:=decide_eq_false (by simpa using hix);clear hix hb;go_upto_region 0 with fail;go_quiet ((go_at_call 76;exact Calls.quiet_of_same (Tryz.strings_IndexByte _ _ _)));go_wp2_with fail;go_end0;exact ⟨rfl,zaq HE.out.1 nq,j,hkj,HJ.out.drewN nq,by rw[←HE.out.2,HS.out];rfl⟩
  ·obtain rfl:j=s.size:=by omega
   have c0:wr.cell? ⟨gp,0,none⟩=some (.string s):=HJ.out.blk.cell 0;have c1:wr.cell? ⟨gp,1,none⟩=some (.int .i64 s.size):=HJ.out.blk.cell 1;go_upto_region 0 with fail;go_quiet (fail);go_wp2_with fail;go_end0;exact ⟨rfl,zaq HE.out.1 nq,s.size,hkj,HJ.out.drewN nq,by rw[←HE.out.2,zda];rfl⟩
end Go.Proofs.YtplkbdncgkgppaaGreatDoor.Qry
end
section
namespace Go.Proofs.YtplkbdncgkgppaaGreatDoor.Qry
open Go.RowKit Words Tree QryP Kit Sch Owned
def isS (c:UInt8) (r:R):Bool × R:=match zaf r with
 | []=>(false,[])
 | x::t=>if x=c then (true,t) else (false,x::t)
theorem zp5 {c:UInt8} {r:R} (h:zaf r=[]):isS c r=(false,[]):=by unfold isS;rw[h]
theorem zhg {c x:UInt8} {r t:R} (h:zaf r=x::t):isS c r=if x=c then (true,t) else (false,x::t):=by unfold isS;rw[h]
theorem zu5 (c:UInt8) (s:ByteArray) (gp k:Nat) (w:World) (h:Pa s gp k w) (hs:s.size≤4096):Calls Tryz.prog 75 #[.pointer (some ⟨gp,0,none⟩),.int .u8 c.toNat] w fun e w'=>e = .returned (.bool (isS c (rem s k)).1)∧At s gp k w (isS c (rem s k)).2 w':=by
 have HSK:=hX (zdd s gp k w h hs);clear h
 obtain ⟨r,hr⟩:∃r,rem s k=r:=⟨_,rfl⟩
 rw[hr] at HSK ⊢;clear hr
 obtain ⟨y,hy⟩:∃y,isS c r=y:=⟨_,rfl⟩
 rw[hy];have HY:=hX hy;clear hy;go_enter Tryz.func75,Tryz.ntmps75;go_wp2_with fail;refine HSK.out.mono ?_;rintro e wr ⟨rfl,hg,j,hkj,hp,hrem⟩;have HG:=hX hg;have HJ:=hX hp;clear hg hp HSK;have hj:=HJ.out.le;by_cases hlt:j<s.size
 ·have c0:wr.cell? ⟨gp,0,none⟩=some (.string s):=HJ.out.blk.cell 0;have c1:wr.cell? ⟨gp,1,none⟩=some (.int .i64 j):=HJ.out.blk.cell 1;have z1:wr.frozen? ⟨gp,1,none⟩=false:=HJ.out.blk.frozen 1;have h1:(0:Int)≤(j:Int):=by omega
  have h2:(j:Int)<(s.size:Int):=by omega
  have HIS:=hX (zhg (c:=c) (hrem.symm.trans (zbd hlt)));rw[HY.out] at HIS;clear hrem;by_cases hx:s[j]=c
  ·rw[if_pos hx] at HIS;have d1:((s[j].toNat:Int) == (c.toNat:Int))=true:=by rw[hx];simp
   clear hx;go_upto_region 2 with fail;go_quiet (fail);go_wp2_with fail;go_ret;exact ⟨by rw[HIS.out];rfl,zcr (zaq HG.out nq) 1 _,j+1,by omega,(HJ.out.drewN nq).next 1 hlt _ (by omega),by rw[HIS.out]⟩
  ·rw[if_neg hx] at HIS
   have d1:((s[j].toNat:Int) == (c.toNat:Int))=false:=(by rw[beq_eq_false_iff_ne];intro e;exact hx (UInt8.toNat_inj.1 (by omega)))
   clear hx;go_upto_region 2 with fail;go_quiet (fail);go_wp2_with fail;go_ret;exact ⟨by rw[HIS.out];rfl,zaq HG.out nq,j,hkj,HJ.out.drewN nq,by rw[HIS.out];exact zbd hlt⟩
 ·obtain rfl:j=s.size:=by omega
  have HIS:=hX (HY.out.symm.trans (zp5 (by rw[←hrem,zda])));have c0:wr.cell? ⟨gp,0,none⟩=some (.string s):=HJ.out.blk.cell 0;have c1:wr.cell? ⟨gp,1,none⟩=some (.int .i64 s.size):=HJ.out.blk.cell 1;clear hrem;go_upto_region 2 with fail;go_quiet (fail);go_wp2_with fail;go_ret;exact ⟨by rw[HIS.out];rfl,zaq HG.out nq,s.size,hkj,HJ.out.drewN nq,by rw[HIS.out];exact zda s⟩
def Out {α:Type} (s:ByteArray) (gp k:Nat) (w:World) (x:E (α × R)) (V:α→Value→World→Prop) (e:Ending) (w':World):Prop:=match x with
 | .ok (v,r)=>∃val,e = .returned val∧V v val w'∧At s gp k w r w'
 | .error (p,c)=>e=ze3 ((s.size - p:Nat):Int) c∧w.grownBy w' (some gp)
def ygf (s:ByteArray) (gp k:Nat) (w:World) (x:E R) (e:Ending) (w':World):Prop:=match x with
 | .ok r=>e = .returned (.tuple #[])∧At s gp k w r w'
 | .error (p,c)=>e=ze3 ((s.size - p:Nat):Int) c∧w.grownBy w' (some gp)
theorem zde {s:ByteArray} {j:Nat} (hj:j≤s.size) (c:Int):ze3 (j:Int) c=ze3 ((s.size - (rem s j).length:Nat):Int) c:=by
 rw[zds,show s.size - (s.size - j)=j by omega]
theorem ybk (c:UInt8) (r:R):zaj c r=if (isS c r).1 then .ok (isS c r).2 else .error ((isS c r).2.length,180):=by
 unfold zaj isS
 cases zaf r with
 | nil=>rfl
 | cons x t=>
  dsimp only;split
  ·rfl
  ·rfl
theorem zb9 (c:UInt8) (s:ByteArray) (gp k:Nat) (w:World) (h:Pa s gp k w) (hs:s.size≤4096):Calls Tryz.prog 72 #[.pointer (some ⟨gp,0,none⟩),.int .u8 c.toNat] w (ygf s gp k w (zaj c (rem s k))):=by
 have HIS:=hX (zu5 c s gp k w h hs)
 obtain ⟨y,hy⟩:∃y,isS c (rem s k)=y:=⟨_,rfl⟩
 obtain ⟨x,hx⟩:∃x,zaj c (rem s k)=x:=⟨_,rfl⟩
 rw[hx];have HX:Hid (x=if y.1 then .ok y.2 else .error (y.2.length,180)):=hX (by rw[←hx,ybk,hy]);rw[hy] at HIS;clear h hy hx;obtain ⟨b,r⟩:=y;go_enter Tryz.func72,Tryz.ntmps72;go_wp2_with fail;refine HIS.out.mono ?_;rintro e wr ⟨rfl,hg,j,hkj,hp,hrem⟩;have HG:=hX hg;have HJ:=hX hp;have HR:=hX hrem;clear hg hp hrem HIS;have hj:=HJ.out.le
 cases b with
 | true=>
  obtain rfl:x = .ok r:=HX.out;go_wp2_with fail;go_end0;exact ⟨rfl,HG.out,j,hkj,HJ.out,HR.out⟩
 | false=>
  have c1:wr.cell? ⟨gp,1,none⟩=some (.int .i64 j):=HJ.out.blk.cell 1;have HWR:=hX (za1 j wr);have HX2:Hid (x = .error (r.length,180)):=hX HX.out;go_wp2_with fail;refine HWR.out.mono ?_;rintro e w2 ⟨rfl,rfl⟩;refine ⟨rfl,?_⟩;rw[HX2.out,←HR.out];exact ⟨zde hj 180,HG.out⟩
def ygn (b:Bool) (w:World) (e:Ending) (w':World):Prop:=e = .returned (.bool b)∧w'=w
theorem letter_any (c:UInt8) (w:World):Calls Tryz.prog 79 #[.int .u8 c.toNat] w (ygn (zco c) w):=by
 have key:zco c=true∧((97≤(c.toNat:Int)∧(c.toNat:Int)≤122)∨(48≤(c.toNat:Int)∧(c.toNat:Int)≤57)∨(c.toNat:Int)=95)∨zco c=false∧¬((97≤(c.toNat:Int)∧(c.toNat:Int)≤122)∨(48≤(c.toNat:Int)∧(c.toNat:Int)≤57)∨(c.toNat:Int)=95):=by
  have h95:c=95↔c.toNat=95:=⟨fun h=>by rw[h];rfl,fun h=>UInt8.toNat_inj.1 h⟩
  cases h:zco c with
  | true=>
   left;simp only[zco,digB,Bool.or_eq_true,decide_eq_true_eq,h95] at h;exact ⟨rfl,by omega⟩
  | false=>
   right;simp only[zco,digB,Bool.or_eq_false_iff,decide_eq_false_iff_not,h95] at h;exact ⟨rfl,by omega⟩
 generalize zco c=b at *;have hlt:=c.toNat_lt;generalize (c.toNat:Int)=n at *;go_enter Tryz.func79,Tryz.ntmps79;go_wp2_with fail
 all_goals
  go_ret;refine ⟨?_,rfl⟩;show Ending.returned (.bool _)=Ending.returned (.bool b);refine zfw ?_
  rcases key with ⟨rfl,hk⟩ | ⟨rfl,hk⟩ <;> first | rfl | omega | (simp;omega) | (rw[Bool.eq_iff_iff];simp;omega)
def ygo (s:ByteArray) (gp k:Nat) (w:World) (t:R) (p:Nat) (r:R) (e:Ending) (w':World):Prop:=e = .returned (.tuple #[.string (QryP.bytes t),.int .i64 p])∧At s gp k w r w'
theorem zj4 {s:ByteArray} {a b:Nat} (h:a≤b) (hb:b≤s.size):s.extract a b=QryP.bytes ((rem s a).take (b - a)):=by
 apply ByteArray.ext;apply Array.ext';simp[QryP.bytes,rem,ByteArray.data_extract];try (rw[List.extract_eq_drop_take])
theorem ybl {s:ByteArray} {k:Nat} (h:k<s.size):(rem s k).takeWhile zco=(if zco s[k] then s[k]::(rem s (k+1)).takeWhile zco else [])∧(rem s k).dropWhile zco=(if zco s[k] then (rem s (k+1)).dropWhile zco else rem s k):=by
 rw[zbd h,List.takeWhile_cons,List.dropWhile_cons];exact ⟨rfl,rfl⟩
theorem run_any (s:ByteArray) (gp k:Nat) (w:World) (h:Pa s gp k w) (hs:s.size≤4096):Calls Tryz.prog 78 #[.pointer (some ⟨gp,0,none⟩),.func (.func 79) #[] #[]] w (ygo s gp k w ((zaf (rem s k)).takeWhile zco) (s.size - (zaf (rem s k)).length) ((zaf (rem s k)).dropWhile zco)):=by
 have HSK:=hX (zdd s gp k w h hs);clear h;generalize zaf (rem s k)=r at *
 obtain ⟨tk,htk⟩:∃x,r.takeWhile zco=x:=⟨_,rfl⟩
 obtain ⟨dk,hdk⟩:∃x,r.dropWhile zco=x:=⟨_,rfl⟩
 rw[htk,hdk];have HTK:=hX htk;have HDK:=hX hdk;clear htk hdk;go_enter Tryz.func78,Tryz.ntmps78;go_wp2_with fail;refine HSK.out.mono ?_;rintro e w1 ⟨rfl,hg,j0,hkj,hp,hrem⟩;have HG1:=hX hg;have HJ1:=hX hp;have HR1:=hX hrem;have hj0:=HJ1.out.le;have HP0:Hid (s.size - r.length=j0):=hX (by rw[←HR1.out,zds];omega);have c1:w1.cell? ⟨gp,1,none⟩=some (.int .i64 j0):=HJ1.out.blk.cell 1;clear hg hp hrem HSK;go_wp2_with fail;have H0:Hid (w.grownBy w1 (some gp)∧(r.take (j0 - j0)++(rem s j0).takeWhile zco=tk∧(rem s j0).dropWhile zco=dk)):=hX ⟨HG1.out,by rw[HR1.out,Nat.sub_self,List.take_zero];exact HTK.out,by rw[HR1.out];exact HDK.out⟩;go_loopg [] (s.size - j0) (fun n wr=>∃j:Nat,j0≤j∧j≤s.size∧n=s.size - j∧Hid (Pa s gp j wr)∧Hid (w.grownBy wr (some gp)∧(r.take (j - j0)++(rem s j).takeWhile zco=tk∧(rem s j).dropWhile zco=dk)))
 case atStart=>exact ⟨j0,Nat.le_refl _,hj0,rfl,HJ1,H0⟩
 case round=>
  clear c1;obtain ⟨j,hkj2,hj,rfl,HJ,HE⟩:=hrel;by_cases hlt:j<s.size
  ·have c0:wr.cell? ⟨gp,0,none⟩=some (.string s):=HJ.out.blk.cell 0;have c1:wr.cell? ⟨gp,1,none⟩=some (.int .i64 j):=HJ.out.blk.cell 1;have z1:wr.frozen? ⟨gp,1,none⟩=false:=HJ.out.blk.frozen 1;have h1:(0:Int)≤(j:Int):=by omega
   have h2:(j:Int)<(s.size:Int):=by omega
   have HS:=hX (ybl hlt)
   have HTA:Hid (r.take (j+1 - j0)=r.take (j - j0)++[s[j]]):=hX (by
    have hl:j - j0<r.length:=by rw[←HR1.out,zds];omega
    rw[show j+1 - j0=j - j0+1 by omega,List.take_succ_eq_append_getElem hl];congr 2
    have:r[j - j0]=(rem s j0)[j - j0]'(by rw[HR1.out];exact hl):=by simp[HR1.out]
    rw[this];simp only[rem,List.getElem_drop];simp[show j0+(j - j0)=j by omega]
    rfl)
   have HL:=hX (fun W=>letter_any s[j] W);generalize hlb:zco s[j]=b at *;clear hlb
   cases b with
   | true=>
    go_upto_region 3 with fail;go_quiet ((go_at_call 79;exact Calls.quiet_of_same (HL.out _)));go_wp2_with fail;have HN:Hid (Pa s gp (j+1) ((wr.drewN nq).setCell ⟨gp,1,none⟩ (.int .i64 (j+1)))):=hX ((HJ.out.drewN nq).next 1 hlt _ (by omega))
    have HG:Hid (w.grownBy ((wr.drewN nq).setCell ⟨gp,1,none⟩ (.int .i64 (j+1))) (some gp)∧(r.take (j+1 - j0)++(rem s (j+1)).takeWhile zco=tk∧(rem s (j+1)).dropWhile zco=dk)):=hX ⟨zcr (zaq HE.out.1 nq) 1 _,by
     have:=HE.out.2.1;rw[HS.out.1] at this
     rw[HTA.out,←this];simp,by
     have:=HE.out.2.2;rw[HS.out.2] at this
     exact this⟩
    go_roundg (s.size - (j+1))
    case measure=>omega
    case rel=>exact ⟨j+1,by omega,by omega,rfl,HN,HG⟩
   | false=>
    have HT:Hid (r.take (j - j0)=tk∧rem s j=dk):=hX ⟨by
     have:=HE.out.2.1;rw[HS.out.1] at this
     simpa using this,by
     have:=HE.out.2.2;rw[HS.out.2] at this
     exact this⟩
    go_upto_region 3 with fail;go_quiet ((go_at_call 79;exact Calls.quiet_of_same (HL.out _)));go_upto_region 5 with fail;have h3:(0:Int)≤(j0:Int):=by omega
    have h4:(j0:Int)≤(j:Int):=by omega
    have h5:(j:Int)≤(s.size:Int):=by omega
    go_quiet (fail);go_wp2_with fail;go_ret2;exact ⟨by rw[HP0.out,zj4 hkj2 hj,HR1.out,HT.out.1];rfl,zaq (zaq HE.out.1 _) _,j,by omega,(HJ.out.drewN _).drewN _,HT.out.2⟩
  ·obtain rfl:j=s.size:=by omega
   have c0:wr.cell? ⟨gp,0,none⟩=some (.string s):=HJ.out.blk.cell 0;have c1:wr.cell? ⟨gp,1,none⟩=some (.int .i64 s.size):=HJ.out.blk.cell 1;have h3:(0:Int)≤(j0:Int):=by omega
   have h4:(j0:Int)≤(s.size:Int):=by omega
   have HT:Hid (r.take (s.size - j0)=tk∧rem s s.size=dk):=hX ⟨by
    have:=HE.out.2.1;rw[zda] at this
    simpa using this,by
    have:=HE.out.2.2;rw[zda] at this ⊢
    exact this⟩
   go_upto_region 3 with fail;go_quiet (fail);go_upto_region 5 with fail;go_quiet (fail);go_wp2_with fail;go_ret2;exact ⟨by rw[HP0.out,zj4 hkj2 (Nat.le_refl _),HR1.out,HT.out.1];rfl,zaq (zaq HE.out.1 _) _,s.size,by omega,(HJ.out.drewN _).drewN _,HT.out.2⟩
end Go.Proofs.YtplkbdncgkgppaaGreatDoor.Qry
end
