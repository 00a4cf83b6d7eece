/- Lemmas that the last text leans on. -/
import Derived.Test.YtplkbdncgkgppaaGreatDoorTake
import Derived.Test.YtplkbdncgkgppaaGreatDoorPack40
import Derived.Test.YtplkbdncgkgppaaGreatDoorPack9
import Derived.Test.YtplkbdncgkgppaaGreatDoorPack13
import Derived.Test.YtplkbdncgkgppaaGreatDoorPack8
import Derived.StillTailTactics
import Derived.Test.YtplkbdncgkgppaaGreatDoorPack7
set_option linter.all false
set_option maxRecDepth 100000
set_option maxHeartbeats 8000000
section
namespace Go.Proofs.YtplkbdncgkgppaaGreatDoor.Qry
open Go.RowKit Words Tree QryP Kit Sch Owned
def isS (c:UInt8) (r:R):Bool × R:=match zah r with
 | []=>(false,[])
 | x::t=>if x=c then (true,t) else (false,x::t)
theorem zsm {c:UInt8} {r:R} (h:zah r=[]):isS c r=(false,[]):=by unfold isS;rw[h]
theorem zio {c x:UInt8} {r t:R} (h:zah r=x::t):isS c r=if x=c then (true,t) else (false,x::t):=by unfold isS;rw[h]
theorem zzv (c:UInt8) (s:ByteArray) (gp k:Nat) (w:World) (h:Pa s gp k w) (hs:s.size≤4096):Calls Tryz.prog 75 #[.pointer (some ⟨gp,0,none⟩),.int .u8 c.toNat] w fun e w'=>e = .returned (.bool (isS c (rem s k)).1)∧At s gp k w (isS c (rem s k)).2 w':=by
 have HSK:=hX (zd7 s gp k w h hs);clear h
 obtain ⟨r,hr⟩:∃r,rem s k=r:=⟨_,rfl⟩
 rw[hr] at HSK ⊢;clear hr
 obtain ⟨y,hy⟩:∃y,isS c r=y:=⟨_,rfl⟩
 rw[hy];have HY:=hX hy;clear hy;go_enter Tryz.func75,Tryz.ntmps75;go_wp2_with fail;refine HSK.out.mono ?_;rintro e wr ⟨rfl,hg,j,hkj,hp,hrem⟩;have HG:=hX hg;have HJ:=hX hp;clear hg hp HSK;have hj:=HJ.out.le;by_cases hlt:j<s.size
 ·have c0:wr.cell? ⟨gp,0,none⟩=some (.string s):=HJ.out.blk.cell 0;have c1:wr.cell? ⟨gp,1,none⟩=some (.int .i64 j):=HJ.out.blk.cell 1;have z1:wr.frozen? ⟨gp,1,none⟩=false:=HJ.out.blk.frozen 1;have h1:(0:Int)≤(j:Int):=by omega
  have h2:(j:Int)<(s.size:Int):=by omega
  have HIS:=hX (zio (c:=c) (hrem.symm.trans (zbf hlt)));rw[HY.out] at HIS;clear hrem;by_cases hx:s[j]=c
  ·rw[if_pos hx] at HIS;have d1:((s[j].toNat:Int) == (c.toNat:Int))=true:=by rw[hx];simp
   clear hx;go_upto_region 2 with fail;go_quiet (fail);go_wp2_with fail;go_ret;exact ⟨by rw[HIS.out];rfl,zdj (zaq HG.out nq) 1 _,j+1,by omega,(HJ.out.drewN nq).next 1 hlt _ (by omega),by rw[HIS.out]⟩
  ·rw[if_neg hx] at HIS
   have d1:((s[j].toNat:Int) == (c.toNat:Int))=false:=(by rw[beq_eq_false_iff_ne];intro e;exact hx (UInt8.toNat_inj.1 (by omega)))
   clear hx;go_upto_region 2 with fail;go_quiet (fail);go_wp2_with fail;go_ret;exact ⟨by rw[HIS.out];rfl,zaq HG.out nq,j,hkj,HJ.out.drewN nq,by rw[HIS.out];exact zbf hlt⟩
 ·obtain rfl:j=s.size:=by omega
  have HIS:=hX (HY.out.symm.trans (zsm (by rw[←hrem,zd2])));have c0:wr.cell? ⟨gp,0,none⟩=some (.string s):=HJ.out.blk.cell 0;have c1:wr.cell? ⟨gp,1,none⟩=some (.int .i64 s.size):=HJ.out.blk.cell 1;clear hrem;go_upto_region 2 with fail;go_quiet (fail);go_wp2_with fail;go_ret;exact ⟨by rw[HIS.out];rfl,zaq HG.out nq,s.size,hkj,HJ.out.drewN nq,by rw[HIS.out];exact zd2 s⟩
def Out {α:Type} (s:ByteArray) (gp k:Nat) (w:World) (x:E (α × R)) (V:α→Value→World→Prop) (e:Ending) (w':World):Prop:=match x with
 | .ok (v,r)=>∃val,e = .returned val∧V v val w'∧At s gp k w r w'
 | .error (p,c)=>e=zf1 ((s.size - p:Nat):Int) c∧w.grownBy w' (some gp)
def yjk (s:ByteArray) (gp k:Nat) (w:World) (x:E R) (e:Ending) (w':World):Prop:=match x with
 | .ok r=>e = .returned (.tuple #[])∧At s gp k w r w'
 | .error (p,c)=>e=zf1 ((s.size - p:Nat):Int) c∧w.grownBy w' (some gp)
theorem zd8 {s:ByteArray} {j:Nat} (hj:j≤s.size) (c:Int):zf1 (j:Int) c=zf1 ((s.size - (rem s j).length:Nat):Int) c:=by
 rw[zem,show s.size - (s.size - j)=j by omega]
theorem yfe (c:UInt8) (r:R):zam c r=if (isS c r).1 then .ok (isS c r).2 else .error ((isS c r).2.length,180):=by
 unfold zam isS
 cases zah r with
 | nil=>rfl
 | cons x t=>
  dsimp only;split
  ·rfl
  ·rfl
theorem zcj (c:UInt8) (s:ByteArray) (gp k:Nat) (w:World) (h:Pa s gp k w) (hs:s.size≤4096):Calls Tryz.prog 72 #[.pointer (some ⟨gp,0,none⟩),.int .u8 c.toNat] w (yjk s gp k w (zam c (rem s k))):=by
 have HIS:=hX (zzv c s gp k w h hs)
 obtain ⟨y,hy⟩:∃y,isS c (rem s k)=y:=⟨_,rfl⟩
 obtain ⟨x,hx⟩:∃x,zam c (rem s k)=x:=⟨_,rfl⟩
 rw[hx];have HX:Hid (x=if y.1 then .ok y.2 else .error (y.2.length,180)):=hX (by rw[←hx,yfe,hy]);rw[hy] at HIS;clear h hy hx;obtain ⟨b,r⟩:=y;go_enter Tryz.func72,Tryz.ntmps72;go_wp2_with fail;refine HIS.out.mono ?_;rintro e wr ⟨rfl,hg,j,hkj,hp,hrem⟩;have HG:=hX hg;have HJ:=hX hp;have HR:=hX hrem;clear hg hp hrem HIS;have hj:=HJ.out.le
 cases b with
 | true=>
  obtain rfl:x = .ok r:=HX.out;go_wp2_with fail;go_end0;exact ⟨rfl,HG.out,j,hkj,HJ.out,HR.out⟩
 | false=>
  have c1:wr.cell? ⟨gp,1,none⟩=some (.int .i64 j):=HJ.out.blk.cell 1;have HWR:=hX (za4 j wr);have HX2:Hid (x = .error (r.length,180)):=hX HX.out;go_wp2_with fail;refine HWR.out.mono ?_;rintro e w2 ⟨rfl,rfl⟩;refine ⟨rfl,?_⟩;rw[HX2.out,←HR.out];exact ⟨zd8 hj 180,HG.out⟩
def yjv (b:Bool) (w:World) (e:Ending) (w':World):Prop:=e = .returned (.bool b)∧w'=w
theorem letter_any (c:UInt8) (w:World):Calls Tryz.prog 79 #[.int .u8 c.toNat] w (yjv (zc7 c) w):=by
 have key:zc7 c=true∧((97≤(c.toNat:Int)∧(c.toNat:Int)≤122)∨(48≤(c.toNat:Int)∧(c.toNat:Int)≤57)∨(c.toNat:Int)=95)∨zc7 c=false∧¬((97≤(c.toNat:Int)∧(c.toNat:Int)≤122)∨(48≤(c.toNat:Int)∧(c.toNat:Int)≤57)∨(c.toNat:Int)=95):=by
  have h95:c=95↔c.toNat=95:=⟨fun h=>by rw[h];rfl,fun h=>UInt8.toNat_inj.1 h⟩
  cases h:zc7 c with
  | true=>
   left;simp only[zc7,digB,Bool.or_eq_true,decide_eq_true_eq,h95] at h;exact ⟨rfl,by omega⟩
  | false=>
   right;simp only[zc7,digB,Bool.or_eq_false_iff,decide_eq_false_iff_not,h95] at h;exact ⟨rfl,by omega⟩
 generalize zc7 c=b at *;have hlt:=c.toNat_lt;generalize (c.toNat:Int)=n at *;go_enter Tryz.func79,Tryz.ntmps79;go_wp2_with fail
 all_goals
  go_ret;refine ⟨?_,rfl⟩;show Ending.returned (.bool _)=Ending.returned (.bool b);refine zgt ?_
  rcases key with ⟨rfl,hk⟩ | ⟨rfl,hk⟩ <;> first | rfl | omega | (simp;omega) | (rw[Bool.eq_iff_iff];simp;omega)
def yjw (s:ByteArray) (gp k:Nat) (w:World) (t:R) (p:Nat) (r:R) (e:Ending) (w':World):Prop:=e = .returned (.tuple #[.string (QryP.bytes t),.int .i64 p])∧At s gp k w r w'
theorem zly {s:ByteArray} {a b:Nat} (h:a≤b) (hb:b≤s.size):s.extract a b=QryP.bytes ((rem s a).take (b - a)):=by
 apply ByteArray.ext;apply Array.ext';simp[QryP.bytes,rem,ByteArray.data_extract];try (rw[List.extract_eq_drop_take])
theorem yff {s:ByteArray} {k:Nat} (h:k<s.size):(rem s k).takeWhile zc7=(if zc7 s[k] then s[k]::(rem s (k+1)).takeWhile zc7 else [])∧(rem s k).dropWhile zc7=(if zc7 s[k] then (rem s (k+1)).dropWhile zc7 else rem s k):=by
 rw[zbf h,List.takeWhile_cons,List.dropWhile_cons];exact ⟨rfl,rfl⟩
theorem run_any (s:ByteArray) (gp k:Nat) (w:World) (h:Pa s gp k w) (hs:s.size≤4096):Calls Tryz.prog 78 #[.pointer (some ⟨gp,0,none⟩),.func (.func 79) #[] #[]] w (yjw s gp k w ((zah (rem s k)).takeWhile zc7) (s.size - (zah (rem s k)).length) ((zah (rem s k)).dropWhile zc7)):=by
 have HSK:=hX (zd7 s gp k w h hs);clear h;generalize zah (rem s k)=r at *
 obtain ⟨tk,htk⟩:∃x,r.takeWhile zc7=x:=⟨_,rfl⟩
 obtain ⟨dk,hdk⟩:∃x,r.dropWhile zc7=x:=⟨_,rfl⟩
 rw[htk,hdk];have HTK:=hX htk;have HDK:=hX hdk;clear htk hdk;go_enter Tryz.func78,Tryz.ntmps78;go_wp2_with fail;refine HSK.out.mono ?_;rintro e w1 ⟨rfl,hg,j0,hkj,hp,hrem⟩;have HG1:=hX hg;have HJ1:=hX hp;have HR1:=hX hrem;have hj0:=HJ1.out.le;have HP0:Hid (s.size - r.length=j0):=hX (by rw[←HR1.out,zem];omega);have c1:w1.cell? ⟨gp,1,none⟩=some (.int .i64 j0):=HJ1.out.blk.cell 1;clear hg hp hrem HSK;go_wp2_with fail;have H0:Hid (w.grownBy w1 (some gp)∧(r.take (j0 - j0)++(rem s j0).takeWhile zc7=tk∧(rem s j0).dropWhile zc7=dk)):=hX ⟨HG1.out,by rw[HR1.out,Nat.sub_self,List.take_zero];exact HTK.out,by rw[HR1.out];exact HDK.out⟩;go_loopg [] (s.size - j0) (fun n wr=>∃j:Nat,j0≤j∧j≤s.size∧n=s.size - j∧Hid (Pa s gp j wr)∧Hid (w.grownBy wr (some gp)∧(r.take (j - j0)++(rem s j).takeWhile zc7=tk∧(rem s j).dropWhile zc7=dk)))
 case atStart=>exact ⟨j0,Nat.le_refl _,hj0,rfl,HJ1,H0⟩
 case round=>
  clear c1;obtain ⟨j,hkj2,hj,rfl,HJ,HE⟩:=hrel;by_cases hlt:j<s.size
  ·have c0:wr.cell? ⟨gp,0,none⟩=some (.string s):=HJ.out.blk.cell 0;have c1:wr.cell? ⟨gp,1,none⟩=some (.int .i64 j):=HJ.out.blk.cell 1;have z1:wr.frozen? ⟨gp,1,none⟩=false:=HJ.out.blk.frozen 1;have h1:(0:Int)≤(j:Int):=by omega
   have h2:(j:Int)<(s.size:Int):=by omega
   have HS:=hX (yff hlt)
   have HTA:Hid (r.take (j+1 - j0)=r.take (j - j0)++[s[j]]):=hX (by
    have hl:j - j0<r.length:=by rw[←HR1.out,zem];omega
    rw[show j+1 - j0=j - j0+1 by omega,List.take_succ_eq_append_getElem hl];congr 2
    have:r[j - j0]=(rem s j0)[j - j0]'(by rw[HR1.out];exact hl):=by simp[HR1.out]
    rw[this];simp only[rem,List.getElem_drop];simp[show j0+(j - j0)=j by omega]
    rfl)
   have HL:=hX (fun W=>letter_any s[j] W);generalize hlb:zc7 s[j]=b at *;clear hlb
   cases b with
   | true=>
    go_upto_region 3 with fail;go_quiet ((go_at_call 79;exact Calls.quiet_of_same (HL.out _)));go_wp2_with fail;have HN:Hid (Pa s gp (j+1) ((wr.drewN nq).setCell ⟨gp,1,none⟩ (.int .i64 (j+1)))):=hX ((HJ.out.drewN nq).next 1 hlt _ (by omega))
    have HG:Hid (w.grownBy ((wr.drewN nq).setCell ⟨gp,1,none⟩ (.int .i64 (j+1))) (some gp)∧(r.take (j+1 - j0)++(rem s (j+1)).takeWhile zc7=tk∧(rem s (j+1)).dropWhile zc7=dk)):=hX ⟨zdj (zaq HE.out.1 nq) 1 _,by
     have:=HE.out.2.1;rw[HS.out.1] at this
     rw[HTA.out,←this];simp,by
     have:=HE.out.2.2;rw[HS.out.2] at this
     exact this⟩
    go_roundg (s.size - (j+1))
    case measure=>omega
    case rel=>exact ⟨j+1,by omega,by omega,rfl,HN,HG⟩
   | false=>
    have HT:Hid (r.take (j - j0)=tk∧rem s j=dk):=hX ⟨by
     have:=HE.out.2.1;rw[HS.out.1] at this
     simpa using this,by
     have:=HE.out.2.2;rw[HS.out.2] at this
     exact this⟩
    go_upto_region 3 with fail;go_quiet ((go_at_call 79;exact Calls.quiet_of_same (HL.out _)));go_upto_region 5 with fail;have h3:(0:Int)≤(j0:Int):=by omega
    have h4:(j0:Int)≤(j:Int):=by omega
    have h5:(j:Int)≤(s.size:Int):=by omega
    go_quiet (fail);go_wp2_with fail;go_ret2;exact ⟨by rw[HP0.out,zly hkj2 hj,HR1.out,HT.out.1];rfl,zaq (zaq HE.out.1 _) _,j,by omega,(HJ.out.drewN _).drewN _,HT.out.2⟩
  ·obtain rfl:j=s.size:=by omega
   have c0:wr.cell? ⟨gp,0,none⟩=some (.string s):=HJ.out.blk.cell 0;have c1:wr.cell? ⟨gp,1,none⟩=some (.int .i64 s.size):=HJ.out.blk.cell 1;have h3:(0:Int)≤(j0:Int):=by omega
   have h4:(j0:Int)≤(s.size:Int):=by omega
   have HT:Hid (r.take (s.size - j0)=tk∧rem s s.size=dk):=hX ⟨by
    have:=HE.out.2.1;rw[zd2] at this
    simpa using this,by
    have:=HE.out.2.2;rw[zd2] at this ⊢
    exact this⟩
   go_upto_region 3 with fail;go_quiet (fail);go_upto_region 5 with fail;go_quiet (fail);go_wp2_with fail;go_ret2;exact ⟨by rw[HP0.out,zly hkj2 (Nat.le_refl _),HR1.out,HT.out.1];rfl,zaq (zaq HE.out.1 _) _,s.size,by omega,(HJ.out.drewN _).drewN _,HT.out.2⟩
end Go.Proofs.YtplkbdncgkgppaaGreatDoor.Qry
end
section
namespace Go.Proofs.YtplkbdncgkgppaaGreatDoor.Qry
open Go.RowKit Words Tree QryP Kit Sch SchP Owned
theorem zsn {f:Int→R} {w:R} {i:Int}:∀{m n:Nat},zdg f w m=some i→m≤n→zdg f w n=some i
 | m,0,h,hl=>by
  obtain rfl:m=0:=by omega
  exact h
 | m,n+1,h,hl=>by
  by_cases he:m=n+1
  ·rw[←he];exact h
  ·rw[zdg,zsn h (by omega)]
theorem zt9 {f:Int→R} {w:R} {k:Nat} (h:zdg f w k=none) (hw:f ((k+1:Nat):Int)=w):zdg f w (k+1)=some ((k+1:Nat):Int):=by rw[zdg,h];exact if_pos hw
theorem zqp {f:Int→R} {w:R} {k:Nat} (h:zdg f w k=none) (hw:f ((k+1:Nat):Int)≠w):zdg f w (k+1)=none:=by rw[zdg,h];exact if_neg hw
theorem str_eq (a t:R):((str a).toList == (QryP.bytes t).toList)=decide (a=t):=by
 rw[ByteArray.toList_eq,ByteArray.toList_eq];show ((a.toArray.toList == t.toArray.toList))=_;simp;rw[Bool.eq_iff_iff];simp
theorem zg5 (above:Nat) (ha:above≤6) (s:ByteArray) (gp k:Nat) (w:World) (h:Pa s gp k w) (hs:s.size≤4096):Calls Tryz.prog 71 #[.pointer (some ⟨gp,0,none⟩),.int .i64 above] w (Out s gp k w (zdo (6 - above) (rem s k)) fun n v _=>v = .int .i64 n∧1≤n∧n≤10):=by
 have HRUN:=hX (run_any s gp k w h hs);clear h
 obtain ⟨x,hx⟩:∃x,zdo (6 - above) (rem s k)=x:=⟨_,rfl⟩
 rw[hx]
 have HX:Hid (x=match zdg wordF ((zah (rem s k)).takeWhile zc7) 10 with
  | none=>.error ((zah (rem s k)).length,180)
  | some i=>if 6 - above=0 then .error ((zah (rem s k)).length,182) else .ok (i,(zah (rem s k)).dropWhile zc7)):=hX (by rw[←hx];rfl)
 clear hx;generalize (zah (rem s k)).takeWhile zc7=tk at *;generalize (zah (rem s k)).dropWhile zc7=dk at *;generalize (zah (rem s k)).length=n at *;go_enter Tryz.func71,Tryz.ntmps71;go_wp2_with fail;refine HRUN.out.mono ?_;rintro e w1 ⟨rfl,hat⟩;have HAT:=hX hat;clear hat HRUN;go_wp2_with fail;go_loopw [7] (fun v wr=>∃i:Nat,i≤10∧v = .int .i64 ((i:Int)+1)∧Hid (zdg wordF tk i=none)∧wr=w1) (fun v _=>12 - (intOf v).toNat);case atStart=>exact ⟨0,by omega,rfl,hX rfl,rfl⟩
 case round=>
  obtain ⟨i,hi,rfl,HF,rfl⟩:=hrel;by_cases hlt:i<10
  ·have hlt2:((i:Int)+1)≤10:=by omega
   have HW:=hX (fun W=>word_any ((i:Int)+1) W (by omega));by_cases hw:wordF ((i:Int)+1)=tk
   ·have de:((str (wordF ((i:Int)+1))).toList == (QryP.bytes tk).toList)=true:=by rw[str_eq];exact decide_eq_true hw
    have HX2:Hid (x=if 6 - above=0 then .error (n,182) else .ok ((i:Int)+1,dk)):=hX (by rw[HX.out,zsn (zt9 HF.out hw) (by omega)];rfl);clear hw;generalize str (wordF ((i:Int)+1))=sw at *;by_cases h6:above=6
    ·have d6:decide ((6:Int)≤(above:Int))=true:=decide_eq_true (by omega);replace HX2:Hid (x = .error (n,182)):=hX (by rw[HX2.out,if_pos (by omega)]);clear h6;go_wp2_with fail;refine (HW.out _).mono ?_;rintro e w2 ⟨rfl,rfl⟩;go_wp2_with fail;refine ⟨rfl,?_⟩;rw[HX2.out];exact ⟨rfl,HAT.out.1⟩
    ·have d6:decide ((6:Int)≤(above:Int))=false:=decide_eq_false (by omega);replace HX2:Hid (x = .ok ((i:Int)+1,dk)):=hX (by rw[HX2.out,if_neg (by omega)]);clear h6;go_wp2_with fail;refine (HW.out _).mono ?_;rintro e w2 ⟨rfl,rfl⟩;go_wp2_with fail;go_ret;rw[HX2.out];exact ⟨_,rfl,⟨rfl,by omega,by omega⟩,HAT.out⟩
   ·have de:((str (wordF ((i:Int)+1))).toList == (QryP.bytes tk).toList)=false:=by rw[str_eq];exact decide_eq_false hw
    have HF2:Hid (zdg wordF tk (i+1)=none):=hX (zqp HF.out hw);clear hw;generalize str (wordF ((i:Int)+1))=sw at *;go_wp2_with fail;refine (HW.out _).mono ?_;rintro e w2 ⟨rfl,rfl⟩;go_wp2_with fail;go_roundw;case rel=>exact ⟨i+1,by omega,by go_num,HF2,trivial⟩
    case measure=>simp[intOf];omega
  ·obtain rfl:i=10:=by omega
   have HX2:Hid (x = .error (n,180)):=hX (by rw[HX.out,HF.out]);have HWR:=hX (fun W=>za4 ((s.size - n:Nat):Int) W);go_wp2_with fail;refine (HWR.out _).mono ?_;rintro e w3 ⟨rfl,rfl⟩;refine ⟨rfl,?_⟩;rw[HX2.out];exact ⟨rfl,HAT.out.1⟩
end Go.Proofs.YtplkbdncgkgppaaGreatDoor.Qry
end
section
namespace Go.Proofs.YtplkbdncgkgppaaGreatDoor.Qry
open Go.RowKit Words Tree QryP Kit Sch SchP Owned
def yfg (c:UInt8):Int:=match zpd c with
 | some n=>n
 | none=>-1
theorem yhq (c:UInt8):Lib.indexByte [48,49,50,51,52,53,54,55,56,57,65,66,67,68,69,70] c=yfg c:=by
 revert c;exact zoj (by decide +kernel)
theorem ydp {c:UInt8} {n:Nat} (h:zpd c=some n):n<16:=by
 revert h;unfold zpd;split
 ·rename_i h1
  have:=of_decide_eq_true h1;intro h;injection h with h;omega
 ·split
  ·intro h;injection h with h;omega
  ·intro h;cases h
theorem zqq {c:UInt8} {n:Nat} (h:zpd c=some n):yfg c=n:=by unfold yfg;rw[h]
theorem zqr {c:UInt8} (h:zpd c=none):yfg c = -1:=by unfold yfg;rw[h]
def yjx (i:Int) (w:World) (e:Ending) (w':World):Prop:=e = .returned (.int .i64 i)∧w'=w
theorem znd (c:UInt8) (w:World):Calls Tryz.prog 158 #[.int .u8 c.toNat] w (yjx (yfg c) w):=by
 have HI:=hX (fun W=>Tryz.strings_IndexByte ⟨#[48,49,50,51,52,53,54,55,56,57,65,66,67,68,69,70]⟩ c.toNat W);have HV:Hid (Lib.indexByte (⟨#[48,49,50,51,52,53,54,55,56,57,65,66,67,68,69,70]⟩:ByteArray).data.toList ((c.toNat:Int)).toNat.toUInt8=yfg c):=hX (by rw[zzu];exact yhq c);go_enter Tryz.func158,Tryz.ntmps158;go_wp2_with fail;refine (HI.out _).mono ?_;rintro e w1 ⟨rfl,rfl⟩;rw[HV.out];go_wp2_with fail;go_ret;exact ⟨rfl,rfl⟩
def ziq (l:R):E (R × R)→E (R × R)
 | .error e=>.error e
 | .ok (b,r)=>.ok (l++b,r)
theorem zg6 (l:R) (c:UInt8) (x:E (R × R)):ziq l (zgl c x)=ziq (l++[c]) x:=by
 match x with
 | .ok (b,r)=>simp[ziq,zgl]
 | .error e=>rfl
def zzw:E (R × R)→E (ByteArray × R)
 | .error e=>.error e
 | .ok (b,r)=>.ok (QryP.bytes b,r)
theorem zka (r:R):zah (zah r)=zah r:=by
 induction r with
 | nil=>rfl
 | cons c t ih=>
  unfold zah at *;rw[List.dropWhile_cons];split
  ·exact ih
  ·rename_i h
   rw[List.dropWhile_cons,if_neg h]
theorem zqs (c:UInt8) (r:R):zam c (zah r)=zam c r:=by unfold zam;rw[zka]
theorem yfh (r:R):zfc r=match zam 34 (zah r) with
 | .error e=>.error e
 | .ok t=>zzw (ziq [] (ze4 (zah r).length t)):=by
 rw[zqs];unfold zfc
 match zam 34 r with
 | .error e=>rfl
 | .ok t=>
  dsimp only
  match ze4 (zah r).length t with
  | .error e=>rfl
  | .ok (b,r')=>rfl
def zwh (n0:Nat):R→E (R × R)
 | []=>.error (n0,180)
 | d::t'=>if d=34∨d=92 then zgl d (ze4 n0 t')
  else match t' with
   | a::b::t''=>match zpd a,zpd b with
    | some x,some y=>if d=120 then zgl (UInt8.ofNat (16*x+y)) (ze4 n0 t'') else .error (n0,180)
    | _,_=>.error (n0,180)
   | _=>.error (n0,180)
theorem yct (n0:Nat) (t:R):ze4 n0 (92::t)=zwh n0 t:=by
 rw[ze4.eq_def];show (if (92:UInt8)=34 then _ else _)=_;rw[if_neg (by decide),if_neg (by decide),if_neg (by decide)];rfl
theorem yhr (n0:Nat) (t:R):ze4 n0 (10::t) = .error (n0,180):=by
 rw[ze4.eq_def];show (if (10:UInt8)=34 then _ else _)=_;rw[if_neg (by decide),if_pos rfl]
theorem zzx (n0:Nat) (d:UInt8) (t:R) (h:d=34∨d=92):zwh n0 (d::t)=zgl d (ze4 n0 t):=by
 rw[zwh.eq_def];exact if_pos h
theorem zzy (n0:Nat) (l:R) (h:∀d t,l=d::t→¬(d=34∨d=92)) (hl:l.length<3):zwh n0 l = .error (n0,180):=by
 match l,h,hl with
 | [],_,_=>rfl
 | [d],h,_=>rw[zwh.eq_def];exact if_neg (h d _ rfl)
 | [d,a],h,_=>rw[zwh.eq_def];exact if_neg (h d _ rfl)
theorem zso (n0:Nat) (d a b:UInt8) (t:R) (h:¬(d=34∨d=92)) (hb:d≠120∨zpd a=none∨zpd b=none):zwh n0 (d::a::b::t) = .error (n0,180):=by
 rw[zwh.eq_def];refine (if_neg h).trans ?_;dsimp only;generalize zpd a=x at *;generalize zpd b=y at *
 match x,y,hb with
 | some x,some y,hb=>
  rcases hb with hb | hb | hb
  ·exact if_neg hb
  ·cases hb
  ·cases hb
 | none,_,_=>rfl
 | some _,none,_=>rfl
theorem yfi (n0:Nat) (a b:UInt8) (x y:Nat) (t:R) (ha:zpd a=some x) (hb:zpd b=some y):zwh n0 (120::a::b::t)=zgl (UInt8.ofNat (16*x+y)) (ze4 n0 t):=by
 rw[zwh,if_neg (by decide),ha,hb];exact if_pos rfl
theorem yfj {s:ByteArray} {a:Nat} (h:a≤s.size):(s.extract a s.size).data.toList=rem s a:=by
 simp[rem,ByteArray.data_extract,List.take_of_length_le]
theorem yfk (c:UInt8) (l:R):Lib.hasPrefix l [c]=(match l with | []=>false | d::_=>c == d):=by
 unfold Lib.hasPrefix
 match l with
 | []=>rfl
 | d::t=>simp[List.isPrefixOf]
theorem zok {s u:ByteArray} {j:Nat} (hu:u.data.toList=rem s j) {i:Nat} (hi:i<u.size):∃h:j+i<s.size,u[i]=s[j+i]:=by
 have hl:u.size=s.size - j:=by rw[←zem,←hu];simp
 refine ⟨by omega,?_⟩;have h1:u[i]=u.data.toList[i]'(by simpa using hi):=by simp;rfl
 rw[h1];simp only[hu,rem,List.getElem_drop];simp;rfl
theorem zqt {w w1 w2:World} {gp:Nat} (hg:w.grownBy w1 (some gp)) (hb:Below w.heap.size w1 w2):w.grownBy w2 (some gp):=
 ⟨hb.os.trans hg.os,hb.tape.trans hg.tape,hb.output.trans hg.output,Nat.le_trans hg.size hb.size,fun i hi hne=>(hb.block i hi).trans (hg.block i hi hne)⟩
theorem Pa.low {s:ByteArray} {gp k B:Nat} {w w':World} (h:Pa s gp k w) (hb:Below B w w') (hB:gp<B):Pa s gp k w':=⟨h.blk.below hb hB,h.le⟩
end Go.Proofs.YtplkbdncgkgppaaGreatDoor.Qry
end
section
namespace Go.Proofs.YtplkbdncgkgppaaGreatDoor.Qry
open Go.RowKit Words Tree QryP Kit Sch SchP Owned
structure TxtW (s:ByteArray) (gp gb:Nat) (w0:World) (j:Nat) (L:R) (w:World):Prop where
 pa:Pa s gp j w
 grown:w0.grownBy w (some gp)
 buf:Buf w0.heap.size gb L w
section
variable {s:ByteArray} {gp gb:Nat} {w0:World} {j:Nat} {L:R} {w:World}
theorem TxtW.drewN (h:TxtW s gp gb w0 j L w) (n:Nat):TxtW s gp gb w0 j L (w.drewN n):=⟨h.pa.drewN n,zaq h.grown n,h.buf.keep (below_drewN (Below.refl _ _) n)⟩
theorem TxtW.next (h:TxtW s gp gb w0 j L w) (m:Nat) (hm:j+m≤s.size) (hgb:gp≠gb) (v:Int) (hv:v=(j+m:Nat)):TxtW s gp gb w0 (j+m) L (w.setCell ⟨gp,1,none⟩ (.int .i64 v)):=
 ⟨h.pa.next m hm v hv,zdj h.grown 1 _,h.buf.set (p:=⟨gp,1,none⟩) h.pa.blk (by decide) hgb _⟩
theorem TxtW.put (h:TxtW s gp gb w0 j L w) (hgp:gp<w0.heap.size) {c:UInt8} {e:Ending} {w':World} (hp:Put w0.heap.size gb L [c] w e w'):TxtW s gp gb w0 j (L++[c]) w':=
 ⟨h.pa.low hp.2.below hgp,zqt h.grown hp.2.below,hp.1⟩
end
theorem zzz (u:ByteArray) (c:UInt8):Lib.hasPrefix u.data.toList [c]=decide (∃h:0<u.size,u[0]=c):=by
 rw[yfk];obtain ⟨⟨l⟩⟩:=u
 match l with
 | []=>symm;rw[decide_eq_false_iff_not];rintro ⟨h,_⟩;exact absurd h (by simp[ByteArray.size])
 | d::t=>
  have hd:(⟨⟨d::t⟩⟩:ByteArray)[0]'(by simp[ByteArray.size])=d:=rfl;show (c == d)=_;by_cases h:c=d
  ·rw[decide_eq_true ⟨by simp[ByteArray.size],by rw[hd,h]⟩,h];simp
  ·rw[decide_eq_false (fun ⟨_,e⟩=>h (by rw[hd] at e;exact e.symm))];simpa using h
theorem zz0 {s u:ByteArray} {j:Nat} (hu:u.data.toList=rem s j) (h:0<u.size):rem s j=u[0]::rem s (j+1):=by
 obtain ⟨h1,e⟩:=zok hu h;rw[zbf (by omega),e];rfl
theorem yhs {s u:ByteArray} {j:Nat} (hu:u.data.toList=rem s j) (h:3≤u.size):rem s j=u[0]::u[1]::u[2]::rem s (j+3):=by
 obtain ⟨h1,e1⟩:=zok hu (i:=0) (by omega);obtain ⟨h2,e2⟩:=zok hu (i:=1) (by omega);obtain ⟨h3,e3⟩:=zok hu (i:=2) (by omega);rw[zbf (by omega),zbf (by omega),zbf (by omega),e1,e2,e3];rfl
theorem yht {s u:ByteArray} {j:Nat} (hu:u.data.toList=rem s j):u.size=s.size - j:=by rw[←zem,←hu];simp
theorem zlz (s:ByteArray) (gp k:Nat) (w:World) (h:Pa s gp k w) (hs:s.size≤4096):Calls Tryz.prog 127 #[.pointer (some ⟨gp,0,none⟩)] w (Out s gp k w (zfc (rem s k)) fun t v _=>v = .string t):=by
 have HSK:=hX (zd7 s gp k w h hs);have hgp:gp<w.heap.size:=h.blk.lt
 obtain ⟨x,hx⟩:∃x,zfc (rem s k)=x:=⟨_,rfl⟩
 rw[hx];have HX:=hX (hx.symm.trans (yfh (rem s k)));clear h hx
 obtain ⟨f,hf⟩:∃f,zah (rem s k)=f:=⟨_,rfl⟩
 rw[hf] at HSK HX;clear hf;go_enter Tryz.func127,Tryz.ntmps127;go_wp2_with fail;refine HSK.out.mono ?_;rintro e w1 ⟨rfl,hg,j0,hkj,hp,hrem⟩;have HG1:=hX hg;have HJ1:=hX hp;have hj0:=HJ1.out.le;subst hrem;have c1:w1.cell? ⟨gp,1,none⟩=some (.int .i64 j0):=HJ1.out.blk.cell 1;clear hg hp HSK;have HN0:Hid (zf1 (j0:Int) 180=zf1 ((s.size - (rem s j0).length:Nat):Int) 180):=hX (zd8 hj0 180);have HWT:=hX (zcj 34 s gp j0 w1 HJ1.out hs);go_wp2_with fail;refine HWT.out.mono ?_;clear HWT
 obtain ⟨y,hy⟩:∃y,zam 34 (rem s j0)=y:=⟨_,rfl⟩
 rw[hy] at HX ⊢;clear hy
 match y with
 | .error (p,c)=>
   intro e w2 ho;obtain ⟨rfl,hg⟩:=ho;refine ⟨rfl,?_⟩;rw[HX.out];exact ⟨rfl,zab HG1.out hg⟩
 | .ok t=>
  intro e w2 ho;obtain ⟨rfl,hg,j2,hkj2,hp,hrem⟩:=ho;subst hrem;have hbs:=hg.size;have hbs1:=HG1.out.size;have hj2:=hp.le;have hA:=(Below.refl w2.heap.size w2).alloc (Nat.le_refl _) (.cells #[.pointer none,.slice none 0 0] 110);have H0:Hid (TxtW s gp w2.heap.size w j2 [] (w2.alloc (.cells #[.pointer none,.slice none 0 0] 110))):=hX ⟨hp.keep hA,zab (zab HG1.out hg) (only_of_below hA (some gp)),.inl ⟨by omega,.slice none 0 0,Blk.new w2 _ _,⟨rfl,.inl ⟨rfl,rfl⟩⟩,by simp[Value.ownBlock]⟩⟩;have HX0:Hid (x=zzw (ziq [] (ze4 (rem s j0).length (rem s j2)))):=hX HX.out;generalize (rem s j0).length=n0 at *;have hgb:gp≠w2.heap.size:=by omega
  have hgw:w.heap.size≤w2.heap.size:=by omega
  clear hA hp hg HX HJ1 HG1 c1;go_wp2_with fail;generalize w2.alloc (.cells #[.pointer none,.slice none 0 0] 110)=w3 at *;generalize w2.heap.size=gb at *;clear hbs hbs1;have hj02:k≤j2:=by omega
  have hgw2:w.heap.size≤gb:=hgw;go_loopg [] (s.size - j2) (fun n wr=>∃(j:Nat) (L:R),k≤j∧j≤s.size∧n=s.size - j∧L.length≤j∧Hid (TxtW s gp gb w j L wr)∧Hid (x=zzw (ziq L (ze4 n0 (rem s j)))))
  case atStart=>exact ⟨j2,[],hj02,hj2,rfl,Nat.zero_le _,H0,HX0⟩
  case round=>
   clear H0 HX0;obtain ⟨j,L,hkj3,hj,rfl,hL,HT,HX⟩:=hrel;by_cases hlt:j<s.size
   ·have HC:Hid (rem s j=s[j]::rem s (j+1)):=hX (zbf hlt);have h1:(0:Int)≤(j:Int):=by omega
    have h2:(j:Int)<(s.size:Int):=by omega
    have h3:(0:Int)≤(j:Int)+1:=by omega
    have h4:(j:Int)+1≤(s.size:Int):=by omega
    have h5:IntKind.i64.wrap ((j:Int)+1)=(j:Int)+1:=IntWalk.i64_in _ (by omega);have c0:wr.cell? ⟨gp,0,none⟩=some (.string s):=HT.out.pa.blk.cell 0;have c1:wr.cell? ⟨gp,1,none⟩=some (.int .i64 j):=HT.out.pa.blk.cell 1;go_upto_region 5 with fail;go_quiet (fail);replace HT:Hid (TxtW s gp gb w j L (wr.drewN nq)):=hX (HT.out.drewN nq);generalize wr.drewN nq=wr at *;clear c0 c1;have c0:wr.cell? ⟨gp,0,none⟩=some (.string s):=HT.out.pa.blk.cell 0;have c1:wr.cell? ⟨gp,1,none⟩=some (.int .i64 j):=HT.out.pa.blk.cell 1;go_upto_region 6 with fail;go_quiet (fail);replace HT:Hid (TxtW s gp gb w j L (wr.drewN nq)):=hX (HT.out.drewN nq);generalize wr.drewN nq=wr at *;clear c0 c1;have c0:wr.cell? ⟨gp,0,none⟩=some (.string s):=HT.out.pa.blk.cell 0;have c1:wr.cell? ⟨gp,1,none⟩=some (.int .i64 j):=HT.out.pa.blk.cell 1;go_upto_region 7 with fail;go_quiet (fail);replace HT:Hid (TxtW s gp gb w j L (wr.drewN nq)):=hX (HT.out.drewN nq);generalize wr.drewN nq=wr at *;clear c0 c1;have c1:wr.cell? ⟨gp,1,none⟩=some (.int .i64 j):=HT.out.pa.blk.cell 1;have z1:wr.frozen? ⟨gp,1,none⟩=false:=HT.out.pa.blk.frozen 1;have HU:=hX (yfj (s:=s) (a:=j+1) hlt);have HUL:=hX (yht HU.out);generalize s.extract (j+1) s.size=u at *;generalize s[j]=c at *;replace HX:Hid (x=zzw (ziq L (ze4 n0 (c::rem s (j+1))))):=hX (by rw[HX.out,HC.out]);have HTN:Hid (TxtW s gp gb w (j+1) L (wr.setCell ⟨gp,1,none⟩ (.int .i64 ((j:Int)+1)))):=hX (HT.out.next 1 hlt hgb _ (by omega));clear HC
    have hjn:j+1≤s.size:=hlt;have hL2:L.length+1≤zfx:=by unfold zfx;omega
    have HBP:=hX (fun (d:UInt8) (W:World) (hW:TxtW s gp gb w (j+1) L W)=>zb5 w.heap.size gb L d W hW.buf hL2);by_cases h34:c=34
    ·subst h34;have HX2:Hid (x = .ok (QryP.bytes L,rem s (j+1))):=hX (by rw[HX.out,yem];simp[ziq,zzw]);go_upto_region 11 with fail;generalize wr.setCell ⟨gp,1,none⟩ (.int .i64 ((j:Int)+1))=w4 at *;have HS:=hX (Tryz.Builder_String_any_k w.heap.size gb _ w4 HTN.out.buf HTN.out.grown.size);go_wp2_with fail;refine HS.out.mono ?_;rintro e w5 ⟨rfl,_,hb3,_⟩;have HB3:=hX hb3;clear hb3;go_wp2_with fail;go_ret;rw[HX2.out];exact ⟨_,rfl,rfl,zqt HTN.out.grown HB3.out,j+1,by omega,HTN.out.pa.low HB3.out hgp,rfl⟩
    ·by_cases h10:c=10
     ·subst h10;have HX2:Hid (x = .error (n0,180)):=hX (by rw[HX.out,yhr];rfl);go_upto_region 13 with fail;generalize wr.setCell ⟨gp,1,none⟩ (.int .i64 ((j:Int)+1))=w4 at *;have HWR:=hX (fun W=>za4 j0 W);go_wp2_with fail;refine (HWR.out _).mono ?_;rintro e w5 ⟨rfl,rfl⟩;refine ⟨rfl,?_⟩;rw[HX2.out];exact ⟨HN0.out,HTN.out.grown⟩
     ·have d34:((c.toNat:Int) == 34)=false:=by rw[beq_eq_false_iff_ne];intro e;exact h34 (UInt8.toNat_inj.1 (by show c.toNat=34;omega))
      have d10:((c.toNat:Int) == 10)=false:=by rw[beq_eq_false_iff_ne];intro e;exact h10 (UInt8.toNat_inj.1 (by show c.toNat=10;omega))
      by_cases h92:c=92
      ·subst h92;replace HX:Hid (x=zzw (ziq L (zwh n0 (rem s (j+1))))):=hX (by rw[HX.out,yct]);clear h34 h10 d34 d10
       obtain ⟨b1,hb1⟩:∃b:Bool,decide (∃h:0<u.size,u[0]=34)=b:=⟨_,rfl⟩
       obtain ⟨b2,hb2⟩:∃b:Bool,decide (∃h:0<u.size,u[0]=92)=b:=⟨_,rfl⟩
       have HP1:Hid (∀W,Calls Tryz.prog 157 #[.string u,.string ⟨#[34]⟩] W fun e w'=>e = .returned (.bool b1)∧w'=W):=hX (fun W=>(Tryz.strings_HasPrefix u ⟨#[34]⟩ W).mono fun e w' h=>by rw[show (⟨#[34]⟩:ByteArray).data.toList=[34] from rfl,zzz,hb1] at h;exact h);have HP2:Hid (∀W,Calls Tryz.prog 157 #[.string u,.string ⟨#[92]⟩] W fun e w'=>e = .returned (.bool b2)∧w'=W):=hX (fun W=>(Tryz.strings_HasPrefix u ⟨#[92]⟩ W).mono fun e w' h=>by rw[show (⟨#[92]⟩:ByteArray).data.toList=[92] from rfl,zzz,hb2] at h;exact h);go_upto_region 16 with fail;generalize wr.setCell ⟨gp,1,none⟩ (.int .i64 ((j:Int)+1))=w4 at *;clear c1 z1
       cases b1 with
       | true=>
        obtain ⟨hu0,hu1⟩:=of_decide_eq_true hb1;have HX2:Hid (x=zzw (ziq (L++[u[0]]) (ze4 n0 (rem s (j+1+1))))):=hX (by rw[HX.out,zz0 HU.out hu0,zzx _ _ _ (.inl hu1),zg6]);clear hb1 hb2 hu1;go_wp2_with fail;refine (HP1.out _).mono ?_;rintro e w5 ⟨rfl,rfl⟩;have hj2s:j+1+1≤s.size:=by have:=HUL.out;omega
        have hu0i:(0:Int)<(u.size:Int):=by omega
        go_wp2_with fail;refine (HBP.out u[0] _ HTN.out).mono ?_;rintro e w7 ⟨rfl,hput⟩;have HT7:Hid (TxtW s gp gb w (j+1) (L++[u[0]]) w7):=hX (HTN.out.put hgp hput);clear hput;have c1:w7.cell? ⟨gp,1,none⟩=some (.int .i64 ((j+1:Nat):Int)):=HT7.out.pa.blk.cell 1;have z1:w7.frozen? ⟨gp,1,none⟩=false:=HT7.out.pa.blk.frozen 1;have HT8:Hid (∀v:Int,v=(j+1+1:Nat)→TxtW s gp gb w (j+1+1) (L++[u[0]]) (w7.setCell ⟨gp,1,none⟩ (.int .i64 v))):=hX (fun v hv=>HT7.out.next 1 hj2s hgb v hv);go_wp2_with fail;go_roundg (s.size - (j+1+1))
        case measure=>omega
        case rel=>exact ⟨j+1+1,L++[u[0]],by omega,hj2s,rfl,by simp;omega,hX (HT8.out _ (by omega)),HX2⟩
       | false=>
        cases b2 with
        | true=>
         obtain ⟨hu0,hu1⟩:=of_decide_eq_true hb2;have HX2:Hid (x=zzw (ziq (L++[u[0]]) (ze4 n0 (rem s (j+1+1))))):=hX (by rw[HX.out,zz0 HU.out hu0,zzx _ _ _ (.inr hu1),zg6]);clear hb1 hb2 hu1;go_wp2_with fail;refine (HP1.out _).mono ?_;rintro e w5 ⟨rfl,rfl⟩;go_wp2_with fail;refine (HP2.out _).mono ?_;rintro e w6 ⟨rfl,rfl⟩;have hj2s:j+1+1≤s.size:=by have:=HUL.out;omega
         have hu0i:(0:Int)<(u.size:Int):=by omega
         go_wp2_with fail;refine (HBP.out u[0] _ HTN.out).mono ?_;rintro e w7 ⟨rfl,hput⟩;have HT7:Hid (TxtW s gp gb w (j+1) (L++[u[0]]) w7):=hX (HTN.out.put hgp hput);clear hput;have c1:w7.cell? ⟨gp,1,none⟩=some (.int .i64 ((j+1:Nat):Int)):=HT7.out.pa.blk.cell 1;have z1:w7.frozen? ⟨gp,1,none⟩=false:=HT7.out.pa.blk.frozen 1;have HT8:Hid (∀v:Int,v=(j+1+1:Nat)→TxtW s gp gb w (j+1+1) (L++[u[0]]) (w7.setCell ⟨gp,1,none⟩ (.int .i64 v))):=hX (fun v hv=>HT7.out.next 1 hj2s hgb v hv);go_wp2_with fail;go_roundg (s.size - (j+1+1))
         case measure=>omega
         case rel=>exact ⟨j+1+1,L++[u[0]],by omega,hj2s,rfl,by simp;omega,hX (HT8.out _ (by omega)),HX2⟩
        | false=>
         have hno:∀h:0<u.size,¬(u[0]=34∨u[0]=92):=fun h e=>e.elim (fun e=>of_decide_eq_false hb1 ⟨h,e⟩) (fun e=>of_decide_eq_false hb2 ⟨h,e⟩);clear hb1 hb2;go_wp2_with fail;refine (HP1.out _).mono ?_;rintro e w5 ⟨rfl,rfl⟩;go_wp2_with fail;refine (HP2.out _).mono ?_;rintro e w6 ⟨rfl,rfl⟩;go_upto_region 19 with fail;by_cases h3:3≤u.size
         ·have d3:decide ((3:Int)≤(u.size:Int))=true:=decide_eq_true (by omega);have hu0i:(0:Int)<(u.size:Int):=by omega
          have hu1i:(1:Int)<(u.size:Int):=by omega
          have hu2i:(2:Int)<(u.size:Int):=by omega
          have hu0n:0<u.size:=by omega
          have hu1n:1<u.size:=by omega
          have hu2n:2<u.size:=by omega
          replace HX:Hid (x=zzw (ziq L (zwh n0 (u[0]::u[1]::u[2]::rem s (j+1+3))))):=hX (by rw[HX.out,yhs HU.out h3]);have HNO:=hX (hno hu0n);have HNB1:=hX (fun W=>znd u[1] W);have HNB2:=hX (fun W=>znd u[2] W);clear hno h3;by_cases hx:u[0]=120
          ·have dx:((u[0].toNat:Int) == 120)=true:=by rw[hx];rfl
           obtain ⟨n1,hn1⟩:∃n,zpd u[1]=n:=⟨_,rfl⟩
           obtain ⟨n2,hn2⟩:∃n,zpd u[2]=n:=⟨_,rfl⟩
           cases n1 with
           | none=>
            have HX2:Hid (x = .error (n0,180)):=hX (by rw[HX.out,zso _ _ _ _ _ HNO.out (.inr (.inl hn1))];rfl);rw[zqr hn1] at HNB1;clear hn1 hn2 hx;have HWR:=hX (fun W=>za4 j0 W);go_wp2_with fail;refine (HNB1.out _).mono ?_;rintro e w7_1 ⟨rfl,rfl⟩;go_wp2_with fail;refine (HWR.out _).mono ?_;rintro e w8 ⟨rfl,rfl⟩;refine ⟨rfl,?_⟩;rw[HX2.out];exact ⟨HN0.out,HTN.out.grown⟩
           | some n1=>
            rw[zqq hn1] at HNB1;have hn1i:(0:Int)≤(n1:Int):=by omega
            cases n2 with
            | none=>
             have HX2:Hid (x = .error (n0,180)):=hX (by rw[HX.out,zso _ _ _ _ _ HNO.out (.inr (.inr hn2))];rfl);rw[zqr hn2] at HNB2;clear hn1 hn2 hx;have HWR:=hX (fun W=>za4 j0 W);go_wp2_with fail;refine (HNB1.out _).mono ?_;rintro e w7_1 ⟨rfl,rfl⟩;go_wp2_with fail;refine (HNB2.out _).mono ?_;rintro e w7_2 ⟨rfl,rfl⟩;go_wp2_with fail;refine (HWR.out _).mono ?_;rintro e w8 ⟨rfl,rfl⟩;refine ⟨rfl,?_⟩;rw[HX2.out];exact ⟨HN0.out,HTN.out.grown⟩
            | some n2=>
             rw[zqq hn2] at HNB2;have hn2i:(0:Int)≤(n2:Int):=by omega
             have hl1:=ydp hn1;have hl2:=ydp hn2;have HX2:Hid (x=zzw (ziq (L++[UInt8.ofNat (16*n1+n2)]) (ze4 n0 (rem s (j+1+3))))):=hX (by rw[HX.out,hx,yfi _ _ _ _ _ _ hn1 hn2,zg6]);have hs1:IntKind.i64.wrap (16*(n1:Int))=16*(n1:Int):=IntWalk.i64_in _ (by omega);have hs2:IntKind.i64.wrap (16*(n1:Int)+(n2:Int))=16*(n1:Int)+(n2:Int):=IntWalk.i64_in _ (by omega);have hby:((UInt8.ofNat (16*n1+n2)).toNat:Int)=16*(n1:Int)+(n2:Int):=by have h9:(UInt8.ofNat (16*n1+n2)).toNat=(16*n1+n2) % 2 ^ 8:=UInt8.toNat_ofNat';omega
             have hs3:IntKind.u8.wrap (16*(n1:Int)+(n2:Int))=16*(n1:Int)+(n2:Int):=by unfold IntKind.wrap;simp[IntKind.bits,IntKind.signed];omega
             have HBP2:Hid (∀W,TxtW s gp gb w (j+1) L W→Calls Tryz.prog 89 #[.pointer (some ⟨gb,0,none⟩),.int .u8 (16*(n1:Int)+(n2:Int))] W fun e w'=>e = .returned .nilIface∧Put w.heap.size gb L [UInt8.ofNat (16*n1+n2)] W e w'):=hX (fun W hW=>by have h9:=HBP.out (UInt8.ofNat (16*n1+n2)) W hW;rw[hby] at h9;exact h9);clear hby;clear hn1 hn2;go_wp2_with fail;refine (HNB1.out _).mono ?_;rintro e w7_1 ⟨rfl,rfl⟩;go_wp2_with fail;refine (HNB2.out _).mono ?_;rintro e w7_2 ⟨rfl,rfl⟩;go_wp2_with fail;refine wp_region_still_tail 9 (by kernel_rfl) (by kernel_rfl) ?_;simp only[List.take_succ_cons,List.take_zero,List.drop_succ_cons,List.drop_zero];repeat still_step
             still_call (HNB1.out _);repeat still_step
             still_call (HNB2.out _);repeat still_step
             refine wpStill_nil ?_;change wpList _ _ _ _ _ (World.drewN _ 1);go_wp2_with fail;refine (HBP2.out _ (HTN.out.drewN 1)).mono ?_;rintro e w8 ⟨rfl,hput⟩;have HT8:Hid (TxtW s gp gb w (j+1) (L++[UInt8.ofNat (16*n1+n2)]) w8):=hX ((HTN.out.drewN 1).put hgp hput);clear hput;have c1:w8.cell? ⟨gp,1,none⟩=some (.int .i64 ((j+1:Nat):Int)):=HT8.out.pa.blk.cell 1;have z1:w8.frozen? ⟨gp,1,none⟩=false:=HT8.out.pa.blk.frozen 1;have hj4s:j+1+3≤s.size:=by have:=HUL.out;omega
             have HT9:Hid (∀v:Int,v=(j+1+3:Nat)→TxtW s gp gb w (j+1+3) (L++[UInt8.ofNat (16*n1+n2)]) (w8.setCell ⟨gp,1,none⟩ (.int .i64 v))):=hX (fun v hv=>HT8.out.next 3 hj4s hgb v hv);go_wp2_with fail;go_roundg (s.size - (j+1+3))
             case measure=>omega
             case rel=>exact ⟨j+1+3,L++[UInt8.ofNat (16*n1+n2)],by omega,hj4s,rfl,by simp;omega,hX (HT9.out _ (by omega)),HX2⟩
          ·have dx:((u[0].toNat:Int) == 120)=false:=by rw[beq_eq_false_iff_ne];intro e;exact hx (UInt8.toNat_inj.1 (by show u[0].toNat=120;omega))
           have HX2:Hid (x = .error (n0,180)):=hX (by rw[HX.out,zso _ _ _ _ _ HNO.out (.inl hx)];rfl);clear hx;have HWR:=hX (fun W=>za4 j0 W);go_wp2_with fail;refine (HWR.out _).mono ?_;rintro e w8 ⟨rfl,rfl⟩;refine ⟨rfl,?_⟩;rw[HX2.out];exact ⟨HN0.out,HTN.out.grown⟩
         ·have d3:decide ((3:Int)≤(u.size:Int))=false:=decide_eq_false (by omega)
          have HX2:Hid (x = .error (n0,180)):=hX (by
           rw[HX.out,zzy _ _ ?_ (by rw[zem,←HUL.out];omega)]
           ·rfl
           ·intro d t hd;have hu0:0<u.size:=by have h9:=congrArg List.length hd;rw[zem,←HUL.out,List.length_cons] at h9;omega
            have h9:=zz0 HU.out hu0;rw[hd] at h9;injection h9 with h9 _;rw[h9]
            exact hno hu0)
          clear hno;have HWR:=hX (fun W=>za4 j0 W);go_wp2_with fail;refine (HWR.out _).mono ?_;rintro e w8 ⟨rfl,rfl⟩;refine ⟨rfl,?_⟩;rw[HX2.out];exact ⟨HN0.out,HTN.out.grown⟩
      ·have d92:((c.toNat:Int) == 92)=false:=by rw[beq_eq_false_iff_ne];intro e;exact h92 (UInt8.toNat_inj.1 (by show c.toNat=92;omega))
       have d92n:((c.toNat:Int) != 92)=true:=by rw[bne,d92];rfl
       have HX2:Hid (x=zzw (ziq (L++[c]) (ze4 n0 (rem s (j+1))))):=hX (by rw[HX.out,yel _ _ _ h34 h10 h92,zg6]);go_upto_region 15 with fail;generalize wr.setCell ⟨gp,1,none⟩ (.int .i64 ((j:Int)+1))=w4 at *;go_wp2_with fail;refine (HBP.out c _ HTN.out).mono ?_;rintro e w5 ⟨rfl,hput⟩;have HT5:Hid (TxtW s gp gb w (j+1) (L++[c]) w5):=hX (HTN.out.put hgp hput);clear hput;go_wp2_with fail;go_roundg (s.size - (j+1))
       case measure=>omega
       case rel=>exact ⟨j+1,L++[c],by omega,hjn,rfl,by simp;omega,HT5,HX2⟩
   ·obtain rfl:j=s.size:=by omega
    have HX2:Hid (x = .error (n0,180)):=hX (by rw[HX.out,zd2];rfl);have c0:wr.cell? ⟨gp,0,none⟩=some (.string s):=HT.out.pa.blk.cell 0;have c1:wr.cell? ⟨gp,1,none⟩=some (.int .i64 s.size):=HT.out.pa.blk.cell 1;have HWR:=hX (fun W=>za4 j0 W);go_upto_region 5 with fail;go_quiet (fail);go_wp2_with fail;refine (HWR.out _).mono ?_;rintro e w8 ⟨rfl,rfl⟩;refine ⟨rfl,?_⟩;rw[HX2.out];exact ⟨HN0.out,zaq HT.out.grown _⟩
end Go.Proofs.YtplkbdncgkgppaaGreatDoor.Qry
end
section
namespace Go.Proofs.YtplkbdncgkgppaaGreatDoor.Qry
open Go.RowKit Words Tree QryP Kit
def zbr (l:R):Option Int:=match Lib.parseIntB 64 l with
 | .ok v=>some v
 | _=>none
theorem zz1 {l:R} {v:Int} (h:zbr l=some v):I64 v:=by
 unfold zbr at h;split at h
 ·rename_i v' hv
  cases h;have:=Lib.parseIntB_bounds hv;unfold I64;omega
 ·cases h
end Go.Proofs.YtplkbdncgkgppaaGreatDoor.Qry
end
