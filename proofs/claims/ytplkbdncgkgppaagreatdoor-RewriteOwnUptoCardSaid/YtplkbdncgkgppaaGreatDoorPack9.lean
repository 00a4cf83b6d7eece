/- Lemmas that the last text leans on. -/
import Derived.Test.YtplkbdncgkgppaaGreatDoorTake
import Derived.Test.YtplkbdncgkgppaaGreatDoorPack7
import Derived.Deep.Light
import Derived.WalkLawsBesides
import Derived.WalkSpells
import Derived.Test.YtplkbdncgkgppaaGreatDoorPack8
import Derived.Test.YtplkbdncgkgppaaGreatDoorPack3
import Derived.StillTailTactics
import Derived.Test.YtplkbdncgkgppaaGreatDoorPack6
set_option linter.all false
set_option maxRecDepth 100000
set_option maxHeartbeats 8000000
section
namespace Go.Proofs.YtplkbdncgkgppaaGreatDoor.Qry
open Go.RowKit Words Tree QryP Kit
def ygg (s:ByteArray) (w:World) (e:Ending) (w':World):Prop:=e = .returned (.string s)∧w=w'
theorem word_any (k:Int) (w:World) (hk:1≤k∧k≤10):Calls Tryz.prog 87 #[.int .i64 k] w (ygg (str (wordF k)) w):=by
 have:k=1∨k=2∨k=3∨k=4∨k=5∨k=6∨k=7∨k=8∨k=9∨k=10:=by omega
 rcases this with rfl | rfl | rfl | rfl | rfl | rfl | rfl | rfl | rfl | rfl
 ·clear hk;have hi:∀w,(Instr.index 172 (.agg #[.string ⟨#[]⟩,.string ⟨#[97,108,108]⟩,.string ⟨#[110,111,110,101]⟩,.string ⟨#[116,101,114,109]⟩,.string ⟨#[112,104,114,97,115,101]⟩,.string ⟨#[112,114,101,102,105,120]⟩,.string ⟨#[116,101,114,109,115]⟩,.string ⟨#[114,97,110,103,101]⟩,.string ⟨#[98,111,111,108]⟩,.string ⟨#[98,111,111,115,116]⟩,.string ⟨#[119,101,105,103,104]⟩]) (.int .i64 1)).run Tryz.prog w = .ok (.string ⟨#[97,108,108]⟩) w:=fun _=>by kernel_rfl
  go_enter Tryz.func87,Tryz.ntmps87;go_wp2_with fail;go_ret;exact ⟨rfl,rfl⟩
 ·clear hk;have hi:∀w,(Instr.index 172 (.agg #[.string ⟨#[]⟩,.string ⟨#[97,108,108]⟩,.string ⟨#[110,111,110,101]⟩,.string ⟨#[116,101,114,109]⟩,.string ⟨#[112,104,114,97,115,101]⟩,.string ⟨#[112,114,101,102,105,120]⟩,.string ⟨#[116,101,114,109,115]⟩,.string ⟨#[114,97,110,103,101]⟩,.string ⟨#[98,111,111,108]⟩,.string ⟨#[98,111,111,115,116]⟩,.string ⟨#[119,101,105,103,104]⟩]) (.int .i64 2)).run Tryz.prog w = .ok (.string ⟨#[110,111,110,101]⟩) w:=fun _=>by kernel_rfl
  go_enter Tryz.func87,Tryz.ntmps87;go_wp2_with fail;go_ret;exact ⟨rfl,rfl⟩
 ·clear hk;have hi:∀w,(Instr.index 172 (.agg #[.string ⟨#[]⟩,.string ⟨#[97,108,108]⟩,.string ⟨#[110,111,110,101]⟩,.string ⟨#[116,101,114,109]⟩,.string ⟨#[112,104,114,97,115,101]⟩,.string ⟨#[112,114,101,102,105,120]⟩,.string ⟨#[116,101,114,109,115]⟩,.string ⟨#[114,97,110,103,101]⟩,.string ⟨#[98,111,111,108]⟩,.string ⟨#[98,111,111,115,116]⟩,.string ⟨#[119,101,105,103,104]⟩]) (.int .i64 3)).run Tryz.prog w = .ok (.string ⟨#[116,101,114,109]⟩) w:=fun _=>by kernel_rfl
  go_enter Tryz.func87,Tryz.ntmps87;go_wp2_with fail;go_ret;exact ⟨rfl,rfl⟩
 ·clear hk;have hi:∀w,(Instr.index 172 (.agg #[.string ⟨#[]⟩,.string ⟨#[97,108,108]⟩,.string ⟨#[110,111,110,101]⟩,.string ⟨#[116,101,114,109]⟩,.string ⟨#[112,104,114,97,115,101]⟩,.string ⟨#[112,114,101,102,105,120]⟩,.string ⟨#[116,101,114,109,115]⟩,.string ⟨#[114,97,110,103,101]⟩,.string ⟨#[98,111,111,108]⟩,.string ⟨#[98,111,111,115,116]⟩,.string ⟨#[119,101,105,103,104]⟩]) (.int .i64 4)).run Tryz.prog w = .ok (.string ⟨#[112,104,114,97,115,101]⟩) w:=fun _=>by kernel_rfl
  go_enter Tryz.func87,Tryz.ntmps87;go_wp2_with fail;go_ret;exact ⟨rfl,rfl⟩
 ·clear hk;have hi:∀w,(Instr.index 172 (.agg #[.string ⟨#[]⟩,.string ⟨#[97,108,108]⟩,.string ⟨#[110,111,110,101]⟩,.string ⟨#[116,101,114,109]⟩,.string ⟨#[112,104,114,97,115,101]⟩,.string ⟨#[112,114,101,102,105,120]⟩,.string ⟨#[116,101,114,109,115]⟩,.string ⟨#[114,97,110,103,101]⟩,.string ⟨#[98,111,111,108]⟩,.string ⟨#[98,111,111,115,116]⟩,.string ⟨#[119,101,105,103,104]⟩]) (.int .i64 5)).run Tryz.prog w = .ok (.string ⟨#[112,114,101,102,105,120]⟩) w:=fun _=>by kernel_rfl
  go_enter Tryz.func87,Tryz.ntmps87;go_wp2_with fail;go_ret;exact ⟨rfl,rfl⟩
 ·clear hk;have hi:∀w,(Instr.index 172 (.agg #[.string ⟨#[]⟩,.string ⟨#[97,108,108]⟩,.string ⟨#[110,111,110,101]⟩,.string ⟨#[116,101,114,109]⟩,.string ⟨#[112,104,114,97,115,101]⟩,.string ⟨#[112,114,101,102,105,120]⟩,.string ⟨#[116,101,114,109,115]⟩,.string ⟨#[114,97,110,103,101]⟩,.string ⟨#[98,111,111,108]⟩,.string ⟨#[98,111,111,115,116]⟩,.string ⟨#[119,101,105,103,104]⟩]) (.int .i64 6)).run Tryz.prog w = .ok (.string ⟨#[116,101,114,109,115]⟩) w:=fun _=>by kernel_rfl
  go_enter Tryz.func87,Tryz.ntmps87;go_wp2_with fail;go_ret;exact ⟨rfl,rfl⟩
 ·clear hk;have hi:∀w,(Instr.index 172 (.agg #[.string ⟨#[]⟩,.string ⟨#[97,108,108]⟩,.string ⟨#[110,111,110,101]⟩,.string ⟨#[116,101,114,109]⟩,.string ⟨#[112,104,114,97,115,101]⟩,.string ⟨#[112,114,101,102,105,120]⟩,.string ⟨#[116,101,114,109,115]⟩,.string ⟨#[114,97,110,103,101]⟩,.string ⟨#[98,111,111,108]⟩,.string ⟨#[98,111,111,115,116]⟩,.string ⟨#[119,101,105,103,104]⟩]) (.int .i64 7)).run Tryz.prog w = .ok (.string ⟨#[114,97,110,103,101]⟩) w:=fun _=>by kernel_rfl
  go_enter Tryz.func87,Tryz.ntmps87;go_wp2_with fail;go_ret;exact ⟨rfl,rfl⟩
 ·clear hk;have hi:∀w,(Instr.index 172 (.agg #[.string ⟨#[]⟩,.string ⟨#[97,108,108]⟩,.string ⟨#[110,111,110,101]⟩,.string ⟨#[116,101,114,109]⟩,.string ⟨#[112,104,114,97,115,101]⟩,.string ⟨#[112,114,101,102,105,120]⟩,.string ⟨#[116,101,114,109,115]⟩,.string ⟨#[114,97,110,103,101]⟩,.string ⟨#[98,111,111,108]⟩,.string ⟨#[98,111,111,115,116]⟩,.string ⟨#[119,101,105,103,104]⟩]) (.int .i64 8)).run Tryz.prog w = .ok (.string ⟨#[98,111,111,108]⟩) w:=fun _=>by kernel_rfl
  go_enter Tryz.func87,Tryz.ntmps87;go_wp2_with fail;go_ret;exact ⟨rfl,rfl⟩
 ·clear hk;have hi:∀w,(Instr.index 172 (.agg #[.string ⟨#[]⟩,.string ⟨#[97,108,108]⟩,.string ⟨#[110,111,110,101]⟩,.string ⟨#[116,101,114,109]⟩,.string ⟨#[112,104,114,97,115,101]⟩,.string ⟨#[112,114,101,102,105,120]⟩,.string ⟨#[116,101,114,109,115]⟩,.string ⟨#[114,97,110,103,101]⟩,.string ⟨#[98,111,111,108]⟩,.string ⟨#[98,111,111,115,116]⟩,.string ⟨#[119,101,105,103,104]⟩]) (.int .i64 9)).run Tryz.prog w = .ok (.string ⟨#[98,111,111,115,116]⟩) w:=fun _=>by kernel_rfl
  go_enter Tryz.func87,Tryz.ntmps87;go_wp2_with fail;go_ret;exact ⟨rfl,rfl⟩
 ·clear hk;have hi:∀w,(Instr.index 172 (.agg #[.string ⟨#[]⟩,.string ⟨#[97,108,108]⟩,.string ⟨#[110,111,110,101]⟩,.string ⟨#[116,101,114,109]⟩,.string ⟨#[112,104,114,97,115,101]⟩,.string ⟨#[112,114,101,102,105,120]⟩,.string ⟨#[116,101,114,109,115]⟩,.string ⟨#[114,97,110,103,101]⟩,.string ⟨#[98,111,111,108]⟩,.string ⟨#[98,111,111,115,116]⟩,.string ⟨#[119,101,105,103,104]⟩]) (.int .i64 10)).run Tryz.prog w = .ok (.string ⟨#[119,101,105,103,104]⟩) w:=fun _=>by kernel_rfl
  go_enter Tryz.func87,Tryz.ntmps87;go_wp2_with fail;go_ret;exact ⟨rfl,rfl⟩
theorem ydl (k:Int) (w:World) (hk:1≤k∧k≤3):Calls Tryz.prog 80 #[.int .i64 k] w (ygg (str (opF k)) w):=by
 have:k=1∨k=2∨k=3:=by omega
 rcases this with rfl | rfl | rfl
 ·clear hk;have hi:∀w,(Instr.index 169 (.agg #[.string ⟨#[]⟩,.string ⟨#[97,100,100]⟩,.string ⟨#[109,117,108]⟩,.string ⟨#[109,97,120]⟩]) (.int .i64 1)).run Tryz.prog w = .ok (.string ⟨#[97,100,100]⟩) w:=fun _=>by kernel_rfl
  go_enter Tryz.func80,Tryz.ntmps80;go_wp2_with fail;go_ret;exact ⟨rfl,rfl⟩
 ·clear hk;have hi:∀w,(Instr.index 169 (.agg #[.string ⟨#[]⟩,.string ⟨#[97,100,100]⟩,.string ⟨#[109,117,108]⟩,.string ⟨#[109,97,120]⟩]) (.int .i64 2)).run Tryz.prog w = .ok (.string ⟨#[109,117,108]⟩) w:=fun _=>by kernel_rfl
  go_enter Tryz.func80,Tryz.ntmps80;go_wp2_with fail;go_ret;exact ⟨rfl,rfl⟩
 ·clear hk;have hi:∀w,(Instr.index 169 (.agg #[.string ⟨#[]⟩,.string ⟨#[97,100,100]⟩,.string ⟨#[109,117,108]⟩,.string ⟨#[109,97,120]⟩]) (.int .i64 3)).run Tryz.prog w = .ok (.string ⟨#[109,97,120]⟩) w:=fun _=>by kernel_rfl
  go_enter Tryz.func80,Tryz.ntmps80;go_wp2_with fail;go_ret;exact ⟨rfl,rfl⟩
end Go.Proofs.YtplkbdncgkgppaaGreatDoor.Qry
end
section
namespace Go.Proofs.YtplkbdncgkgppaaGreatDoor.Qry
open Go.RowKit Words Tree QryP Kit Sch SchP Owned
theorem zp6 {f:Int→R} {w:R} {i:Int}:∀{m n:Nat},zcq f w m=some i→m≤n→zcq f w n=some i
 | m,0,h,hl=>by
  obtain rfl:m=0:=by omega
  exact h
 | m,n+1,h,hl=>by
  by_cases he:m=n+1
  ·rw[←he];exact h
  ·rw[zcq,zp6 h (by omega)]
theorem zrz {f:Int→R} {w:R} {k:Nat} (h:zcq f w k=none) (hw:f ((k+1:Nat):Int)=w):zcq f w (k+1)=some ((k+1:Nat):Int):=by rw[zcq,h];exact if_pos hw
theorem zn0 {f:Int→R} {w:R} {k:Nat} (h:zcq f w k=none) (hw:f ((k+1:Nat):Int)≠w):zcq f w (k+1)=none:=by rw[zcq,h];exact if_neg hw
theorem str_eq (a t:R):((str a).toList == (QryP.bytes t).toList)=decide (a=t):=by
 rw[ByteArray.toList_eq,ByteArray.toList_eq];show ((a.toArray.toList == t.toArray.toList))=_;simp;rw[Bool.eq_iff_iff];simp
theorem zgd (above:Nat) (ha:above≤6) (s:ByteArray) (gp k:Nat) (w:World) (h:Pa s gp k w) (hs:s.size≤4096):Calls Tryz.prog 71 #[.pointer (some ⟨gp,0,none⟩),.int .i64 above] w (Out s gp k w (zc0 (6 - above) (rem s k)) fun n v _=>v = .int .i64 n∧1≤n∧n≤10):=by
 have HRUN:=hX (run_any s gp k w h hs);clear h
 obtain ⟨x,hx⟩:∃x,zc0 (6 - above) (rem s k)=x:=⟨_,rfl⟩
 rw[hx]
 have HX:Hid (x=match zcq wordF ((zaf (rem s k)).takeWhile zco) 10 with
  | none=>.error ((zaf (rem s k)).length,180)
  | some i=>if 6 - above=0 then .error ((zaf (rem s k)).length,182) else .ok (i,(zaf (rem s k)).dropWhile zco)):=hX (by rw[←hx];rfl)
 clear hx;generalize (zaf (rem s k)).takeWhile zco=tk at *;generalize (zaf (rem s k)).dropWhile zco=dk at *;generalize (zaf (rem s k)).length=n at *;go_enter Tryz.func71,Tryz.ntmps71;go_wp2_with fail;refine HRUN.out.mono ?_;rintro e w1 ⟨rfl,hat⟩;have HAT:=hX hat;clear hat HRUN;go_wp2_with fail;go_loopw [7] (fun v wr=>∃i:Nat,i≤10∧v = .int .i64 ((i:Int)+1)∧Hid (zcq wordF tk i=none)∧wr=w1) (fun v _=>12 - (intOf v).toNat);case atStart=>exact ⟨0,by omega,rfl,hX rfl,rfl⟩
 case round=>
  obtain ⟨i,hi,rfl,HF,rfl⟩:=hrel;by_cases hlt:i<10
  ·have hlt2:((i:Int)+1)≤10:=by omega
   have HW:=hX (fun W=>word_any ((i:Int)+1) W (by omega));by_cases hw:wordF ((i:Int)+1)=tk
   ·have de:((str (wordF ((i:Int)+1))).toList == (QryP.bytes tk).toList)=true:=by rw[str_eq];exact decide_eq_true hw
    have HX2:Hid (x=if 6 - above=0 then .error (n,182) else .ok ((i:Int)+1,dk)):=hX (by rw[HX.out,zp6 (zrz HF.out hw) (by omega)];rfl);clear hw;generalize str (wordF ((i:Int)+1))=sw at *;by_cases h6:above=6
    ·have d6:decide ((6:Int)≤(above:Int))=true:=decide_eq_true (by omega);replace HX2:Hid (x = .error (n,182)):=hX (by rw[HX2.out,if_pos (by omega)]);clear h6;go_wp2_with fail;refine (HW.out _).mono ?_;rintro e w2 ⟨rfl,rfl⟩;go_wp2_with fail;refine ⟨rfl,?_⟩;rw[HX2.out];exact ⟨rfl,HAT.out.1⟩
    ·have d6:decide ((6:Int)≤(above:Int))=false:=decide_eq_false (by omega);replace HX2:Hid (x = .ok ((i:Int)+1,dk)):=hX (by rw[HX2.out,if_neg (by omega)]);clear h6;go_wp2_with fail;refine (HW.out _).mono ?_;rintro e w2 ⟨rfl,rfl⟩;go_wp2_with fail;go_ret;rw[HX2.out];exact ⟨_,rfl,⟨rfl,by omega,by omega⟩,HAT.out⟩
   ·have de:((str (wordF ((i:Int)+1))).toList == (QryP.bytes tk).toList)=false:=by rw[str_eq];exact decide_eq_false hw
    have HF2:Hid (zcq wordF tk (i+1)=none):=hX (zn0 HF.out hw);clear hw;generalize str (wordF ((i:Int)+1))=sw at *;go_wp2_with fail;refine (HW.out _).mono ?_;rintro e w2 ⟨rfl,rfl⟩;go_wp2_with fail;go_roundw;case rel=>exact ⟨i+1,by omega,by go_num,HF2,trivial⟩
    case measure=>simp[intOf];omega
  ·obtain rfl:i=10:=by omega
   have HX2:Hid (x = .error (n,180)):=hX (by rw[HX.out,HF.out]);have HWR:=hX (fun W=>za1 ((s.size - n:Nat):Int) W);go_wp2_with fail;refine (HWR.out _).mono ?_;rintro e w3 ⟨rfl,rfl⟩;refine ⟨rfl,?_⟩;rw[HX2.out];exact ⟨rfl,HAT.out.1⟩
end Go.Proofs.YtplkbdncgkgppaaGreatDoor.Qry
end
section
namespace Go.Proofs.YtplkbdncgkgppaaGreatDoor.Qry
open Go.RowKit Words Tree QryP Kit Sch SchP Owned
def ybm (c:UInt8):Int:=match znq c with
 | some n=>n
 | none=>-1
theorem ydm (c:UInt8):Lib.indexByte [48,49,50,51,52,53,54,55,56,57,65,66,67,68,69,70] c=ybm c:=by
 revert c;exact zmj (by decide +kernel)
theorem yav {c:UInt8} {n:Nat} (h:znq c=some n):n<16:=by
 revert h;unfold znq;split
 ·rename_i h1
  have:=of_decide_eq_true h1;intro h;injection h with h;omega
 ·split
  ·intro h;injection h with h;omega
  ·intro h;cases h
theorem zn1 {c:UInt8} {n:Nat} (h:znq c=some n):ybm c=n:=by unfold ybm;rw[h]
theorem zn2 {c:UInt8} (h:znq c=none):ybm c = -1:=by unfold ybm;rw[h]
def ygp (i:Int) (w:World) (e:Ending) (w':World):Prop:=e = .returned (.int .i64 i)∧w'=w
theorem zll (c:UInt8) (w:World):Calls Tryz.prog 158 #[.int .u8 c.toNat] w (ygp (ybm c) w):=by
 have HI:=hX (fun W=>Tryz.strings_IndexByte ⟨#[48,49,50,51,52,53,54,55,56,57,65,66,67,68,69,70]⟩ c.toNat W);have HV:Hid (Lib.indexByte (⟨#[48,49,50,51,52,53,54,55,56,57,65,66,67,68,69,70]⟩:ByteArray).data.toList ((c.toNat:Int)).toNat.toUInt8=ybm c):=hX (by rw[zu4];exact ydm c);go_enter Tryz.func158,Tryz.ntmps158;go_wp2_with fail;refine (HI.out _).mono ?_;rintro e w1 ⟨rfl,rfl⟩;rw[HV.out];go_wp2_with fail;go_ret;exact ⟨rfl,rfl⟩
def zhh (l:R):E (R × R)→E (R × R)
 | .error e=>.error e
 | .ok (b,r)=>.ok (l++b,r)
theorem zge (l:R) (c:UInt8) (x:E (R × R)):zhh l (zfa c x)=zhh (l++[c]) x:=by
 match x with
 | .ok (b,r)=>simp[zhh,zfa]
 | .error e=>rfl
def zu6:E (R × R)→E (ByteArray × R)
 | .error e=>.error e
 | .ok (b,r)=>.ok (QryP.bytes b,r)
theorem zji (r:R):zaf (zaf r)=zaf r:=by
 induction r with
 | nil=>rfl
 | cons c t ih=>
  unfold zaf at *;rw[List.dropWhile_cons];split
  ·exact ih
  ·rename_i h
   rw[List.dropWhile_cons,if_neg h]
theorem zn3 (c:UInt8) (r:R):zaj c (zaf r)=zaj c r:=by unfold zaj;rw[zji]
theorem ybn (r:R):zee r=match zaj 34 (zaf r) with
 | .error e=>.error e
 | .ok t=>zu6 (zhh [] (zed (zaf r).length t)):=by
 rw[zn3];unfold zee
 match zaj 34 r with
 | .error e=>rfl
 | .ok t=>
  dsimp only
  match zed (zaf r).length t with
  | .error e=>rfl
  | .ok (b,r')=>rfl
def zun (n0:Nat):R→E (R × R)
 | []=>.error (n0,180)
 | d::t'=>if d=34∨d=92 then zfa d (zed n0 t')
  else match t' with
   | a::b::t''=>match znq a,znq b with
    | some x,some y=>if d=120 then zfa (UInt8.ofNat (16*x+y)) (zed n0 t'') else .error (n0,180)
    | _,_=>.error (n0,180)
   | _=>.error (n0,180)
theorem zyp (n0:Nat) (t:R):zed n0 (92::t)=zun n0 t:=by
 rw[zed.eq_def];show (if (92:UInt8)=34 then _ else _)=_;rw[if_neg (by decide),if_neg (by decide),if_neg (by decide)];rfl
theorem ydn (n0:Nat) (t:R):zed n0 (10::t) = .error (n0,180):=by
 rw[zed.eq_def];show (if (10:UInt8)=34 then _ else _)=_;rw[if_neg (by decide),if_pos rfl]
theorem zu7 (n0:Nat) (d:UInt8) (t:R) (h:d=34∨d=92):zun n0 (d::t)=zfa d (zed n0 t):=by
 rw[zun.eq_def];exact if_pos h
theorem zu8 (n0:Nat) (l:R) (h:∀d t,l=d::t→¬(d=34∨d=92)) (hl:l.length<3):zun n0 l = .error (n0,180):=by
 match l,h,hl with
 | [],_,_=>rfl
 | [d],h,_=>rw[zun.eq_def];exact if_neg (h d _ rfl)
 | [d,a],h,_=>rw[zun.eq_def];exact if_neg (h d _ rfl)
theorem zp7 (n0:Nat) (d a b:UInt8) (t:R) (h:¬(d=34∨d=92)) (hb:d≠120∨znq a=none∨znq b=none):zun n0 (d::a::b::t) = .error (n0,180):=by
 rw[zun.eq_def];refine (if_neg h).trans ?_;dsimp only;generalize znq a=x at *;generalize znq b=y at *
 match x,y,hb with
 | some x,some y,hb=>
  rcases hb with hb | hb | hb
  ·exact if_neg hb
  ·cases hb
  ·cases hb
 | none,_,_=>rfl
 | some _,none,_=>rfl
theorem ybo (n0:Nat) (a b:UInt8) (x y:Nat) (t:R) (ha:znq a=some x) (hb:znq b=some y):zun n0 (120::a::b::t)=zfa (UInt8.ofNat (16*x+y)) (zed n0 t):=by
 rw[zun,if_neg (by decide),ha,hb];exact if_pos rfl
theorem ybp {s:ByteArray} {a:Nat} (h:a≤s.size):(s.extract a s.size).data.toList=rem s a:=by
 simp[rem,ByteArray.data_extract,List.take_of_length_le]
theorem ybq (c:UInt8) (l:R):Lib.hasPrefix l [c]=(match l with | []=>false | d::_=>c == d):=by
 unfold Lib.hasPrefix
 match l with
 | []=>rfl
 | d::t=>simp[List.isPrefixOf]
theorem zmk {s u:ByteArray} {j:Nat} (hu:u.data.toList=rem s j) {i:Nat} (hi:i<u.size):∃h:j+i<s.size,u[i]=s[j+i]:=by
 have hl:u.size=s.size - j:=by rw[←zds,←hu];simp
 refine ⟨by omega,?_⟩;have h1:u[i]=u.data.toList[i]'(by simpa using hi):=by simp;rfl
 rw[h1];simp only[hu,rem,List.getElem_drop];simp;rfl
theorem zn4 {w w1 w2:World} {gp:Nat} (hg:w.grownBy w1 (some gp)) (hb:Below w.heap.size w1 w2):w.grownBy w2 (some gp):=
 ⟨hb.os.trans hg.os,hb.tape.trans hg.tape,hb.output.trans hg.output,Nat.le_trans hg.size hb.size,fun i hi hne=>(hb.block i hi).trans (hg.block i hi hne)⟩
theorem Pa.low {s:ByteArray} {gp k B:Nat} {w w':World} (h:Pa s gp k w) (hb:Below B w w') (hB:gp<B):Pa s gp k w':=⟨h.blk.below hb hB,h.le⟩
end Go.Proofs.YtplkbdncgkgppaaGreatDoor.Qry
end
section
namespace Go.Proofs.YtplkbdncgkgppaaGreatDoor.Qry
open Go.RowKit Words Tree QryP Kit Sch SchP Owned
structure TxtW (s:ByteArray) (gp gb:Nat) (w0:World) (j:Nat) (L:R) (w:World):Prop where
 pa:Pa s gp j w
 grown:w0.grownBy w (some gp)
 buf:Buf w0.heap.size gb L w
section
variable {s:ByteArray} {gp gb:Nat} {w0:World} {j:Nat} {L:R} {w:World}
theorem TxtW.drewN (h:TxtW s gp gb w0 j L w) (n:Nat):TxtW s gp gb w0 j L (w.drewN n):=⟨h.pa.drewN n,zaq h.grown n,h.buf.keep (below_drewN (Below.refl _ _) n)⟩
theorem TxtW.next (h:TxtW s gp gb w0 j L w) (m:Nat) (hm:j+m≤s.size) (hgb:gp≠gb) (v:Int) (hv:v=(j+m:Nat)):TxtW s gp gb w0 (j+m) L (w.setCell ⟨gp,1,none⟩ (.int .i64 v)):=
 ⟨h.pa.next m hm v hv,zcr h.grown 1 _,h.buf.set (p:=⟨gp,1,none⟩) h.pa.blk (by decide) hgb _⟩
theorem TxtW.put (h:TxtW s gp gb w0 j L w) (hgp:gp<w0.heap.size) {c:UInt8} {e:Ending} {w':World} (hp:Put w0.heap.size gb L [c] w e w'):TxtW s gp gb w0 j (L++[c]) w':=
 ⟨h.pa.low hp.2.below hgp,zn4 h.grown hp.2.below,hp.1⟩
end
theorem zu9 (u:ByteArray) (c:UInt8):Lib.hasPrefix u.data.toList [c]=decide (∃h:0<u.size,u[0]=c):=by
 rw[ybq];obtain ⟨⟨l⟩⟩:=u
 match l with
 | []=>symm;rw[decide_eq_false_iff_not];rintro ⟨h,_⟩;exact absurd h (by simp[ByteArray.size])
 | d::t=>
  have hd:(⟨⟨d::t⟩⟩:ByteArray)[0]'(by simp[ByteArray.size])=d:=rfl;show (c == d)=_;by_cases h:c=d
  ·rw[decide_eq_true ⟨by simp[ByteArray.size],by rw[hd,h]⟩,h];simp
  ·rw[decide_eq_false (fun ⟨_,e⟩=>h (by rw[hd] at e;exact e.symm))];simpa using h
theorem zva {s u:ByteArray} {j:Nat} (hu:u.data.toList=rem s j) (h:0<u.size):rem s j=u[0]::rem s (j+1):=by
 obtain ⟨h1,e⟩:=zmk hu h;rw[zbd (by omega),e];rfl
theorem ydo {s u:ByteArray} {j:Nat} (hu:u.data.toList=rem s j) (h:3≤u.size):rem s j=u[0]::u[1]::u[2]::rem s (j+3):=by
 obtain ⟨h1,e1⟩:=zmk hu (i:=0) (by omega);obtain ⟨h2,e2⟩:=zmk hu (i:=1) (by omega);obtain ⟨h3,e3⟩:=zmk hu (i:=2) (by omega);rw[zbd (by omega),zbd (by omega),zbd (by omega),e1,e2,e3];rfl
theorem ydp {s u:ByteArray} {j:Nat} (hu:u.data.toList=rem s j):u.size=s.size - j:=by rw[←zds,←hu];simp
theorem zj5 (s:ByteArray) (gp k:Nat) (w:World) (h:Pa s gp k w) (hs:s.size≤4096):Calls Tryz.prog 127 #[.pointer (some ⟨gp,0,none⟩)] w (Out s gp k w (zee (rem s k)) fun t v _=>v = .string t):=by
 have HSK:=hX (zdd s gp k w h hs);have hgp:gp<w.heap.size:=h.blk.lt
 obtain ⟨x,hx⟩:∃x,zee (rem s k)=x:=⟨_,rfl⟩
 rw[hx];have HX:=hX (hx.symm.trans (ybn (rem s k)));clear h hx
 obtain ⟨f,hf⟩:∃f,zaf (rem s k)=f:=⟨_,rfl⟩
 rw[hf] at HSK HX;clear hf;go_enter Tryz.func127,Tryz.ntmps127;go_wp2_with fail;refine HSK.out.mono ?_;rintro e w1 ⟨rfl,hg,j0,hkj,hp,hrem⟩;have HG1:=hX hg;have HJ1:=hX hp;have hj0:=HJ1.out.le;subst hrem;have c1:w1.cell? ⟨gp,1,none⟩=some (.int .i64 j0):=HJ1.out.blk.cell 1;clear hg hp HSK;have HN0:Hid (ze3 (j0:Int) 180=ze3 ((s.size - (rem s j0).length:Nat):Int) 180):=hX (zde hj0 180);have HWT:=hX (zb9 34 s gp j0 w1 HJ1.out hs);go_wp2_with fail;refine HWT.out.mono ?_;clear HWT
 obtain ⟨y,hy⟩:∃y,zaj 34 (rem s j0)=y:=⟨_,rfl⟩
 rw[hy] at HX ⊢;clear hy
 match y with
 | .error (p,c)=>
   intro e w2 ho;obtain ⟨rfl,hg⟩:=ho;refine ⟨rfl,?_⟩;rw[HX.out];exact ⟨rfl,zaa HG1.out hg⟩
 | .ok t=>
  intro e w2 ho;obtain ⟨rfl,hg,j2,hkj2,hp,hrem⟩:=ho;subst hrem;have hbs:=hg.size;have hbs1:=HG1.out.size;have hj2:=hp.le;have hA:=(Below.refl w2.heap.size w2).alloc (Nat.le_refl _) (.cells #[.pointer none,.slice none 0 0] 110);have H0:Hid (TxtW s gp w2.heap.size w j2 [] (w2.alloc (.cells #[.pointer none,.slice none 0 0] 110))):=hX ⟨hp.keep hA,zaa (zaa HG1.out hg) (only_of_below hA (some gp)),.inl ⟨by omega,.slice none 0 0,Blk.new w2 _ _,⟨rfl,.inl ⟨rfl,rfl⟩⟩,by simp[Value.ownBlock]⟩⟩;have HX0:Hid (x=zu6 (zhh [] (zed (rem s j0).length (rem s j2)))):=hX HX.out;generalize (rem s j0).length=n0 at *;have hgb:gp≠w2.heap.size:=by omega
  have hgw:w.heap.size≤w2.heap.size:=by omega
  clear hA hp hg HX HJ1 HG1 c1;go_wp2_with fail;generalize w2.alloc (.cells #[.pointer none,.slice none 0 0] 110)=w3 at *;generalize w2.heap.size=gb at *;clear hbs hbs1;have hj02:k≤j2:=by omega
  have hgw2:w.heap.size≤gb:=hgw;go_loopg [] (s.size - j2) (fun n wr=>∃(j:Nat) (L:R),k≤j∧j≤s.size∧n=s.size - j∧L.length≤j∧Hid (TxtW s gp gb w j L wr)∧Hid (x=zu6 (zhh L (zed n0 (rem s j)))))
  case atStart=>exact ⟨j2,[],hj02,hj2,rfl,Nat.zero_le _,H0,HX0⟩
  case round=>
   clear H0 HX0;obtain ⟨j,L,hkj3,hj,rfl,hL,HT,HX⟩:=hrel;by_cases hlt:j<s.size
   ·have HC:Hid (rem s j=s[j]::rem s (j+1)):=hX (zbd hlt);have h1:(0:Int)≤(j:Int):=by omega
    have h2:(j:Int)<(s.size:Int):=by omega
    have h3:(0:Int)≤(j:Int)+1:=by omega
    have h4:(j:Int)+1≤(s.size:Int):=by omega
    have h5:IntKind.i64.wrap ((j:Int)+1)=(j:Int)+1:=IntWalk.i64_in _ (by omega);have c0:wr.cell? ⟨gp,0,none⟩=some (.string s):=HT.out.pa.blk.cell 0;have c1:wr.cell? ⟨gp,1,none⟩=some (.int .i64 j):=HT.out.pa.blk.cell 1;go_upto_region 5 with fail;go_quiet (fail);replace HT:Hid (TxtW s gp gb w j L (wr.drewN nq)):=hX (HT.out.drewN nq);generalize wr.drewN nq=wr at *;clear c0 c1;have c0:wr.cell? ⟨gp,0,none⟩=some (.string s):=HT.out.pa.blk.cell 0;have c1:wr.cell? ⟨gp,1,none⟩=some (.int .i64 j):=HT.out.pa.blk.cell 1;go_upto_region 6 with fail;go_quiet (fail);replace HT:Hid (TxtW s gp gb w j L (wr.drewN nq)):=hX (HT.out.drewN nq);generalize wr.drewN nq=wr at *;clear c0 c1;have c0:wr.cell? ⟨gp,0,none⟩=some (.string s):=HT.out.pa.blk.cell 0;have c1:wr.cell? ⟨gp,1,none⟩=some (.int .i64 j):=HT.out.pa.blk.cell 1;go_upto_region 7 with fail;go_quiet (fail);replace HT:Hid (TxtW s gp gb w j L (wr.drewN nq)):=hX (HT.out.drewN nq);generalize wr.drewN nq=wr at *;clear c0 c1;have c1:wr.cell? ⟨gp,1,none⟩=some (.int .i64 j):=HT.out.pa.blk.cell 1;have z1:wr.frozen? ⟨gp,1,none⟩=false:=HT.out.pa.blk.frozen 1;have HU:=hX (ybp (s:=s) (a:=j+1) hlt);have HUL:=hX (ydp HU.out);generalize s.extract (j+1) s.size=u at *;generalize s[j]=c at *;replace HX:Hid (x=zu6 (zhh L (zed n0 (c::rem s (j+1))))):=hX (by rw[HX.out,HC.out]);have HTN:Hid (TxtW s gp gb w (j+1) L (wr.setCell ⟨gp,1,none⟩ (.int .i64 ((j:Int)+1)))):=hX (HT.out.next 1 hlt hgb _ (by omega));clear HC
    have hjn:j+1≤s.size:=hlt;have hL2:L.length+1≤ze0:=by unfold ze0;omega
    have HBP:=hX (fun (d:UInt8) (W:World) (hW:TxtW s gp gb w (j+1) L W)=>zbz w.heap.size gb L d W hW.buf hL2);by_cases h34:c=34
    ·subst h34;have HX2:Hid (x = .ok (QryP.bytes L,rem s (j+1))):=hX (by rw[HX.out,ybe];simp[zhh,zu6]);go_upto_region 11 with fail;generalize wr.setCell ⟨gp,1,none⟩ (.int .i64 ((j:Int)+1))=w4 at *;have HS:=hX (Tryz.Builder_String_any_k w.heap.size gb _ w4 HTN.out.buf HTN.out.grown.size);go_wp2_with fail;refine HS.out.mono ?_;rintro e w5 ⟨rfl,_,hb3,_⟩;have HB3:=hX hb3;clear hb3;go_wp2_with fail;go_ret;rw[HX2.out];exact ⟨_,rfl,rfl,zn4 HTN.out.grown HB3.out,j+1,by omega,HTN.out.pa.low HB3.out hgp,rfl⟩
    ·by_cases h10:c=10
     ·subst h10;have HX2:Hid (x = .error (n0,180)):=hX (by rw[HX.out,ydn];rfl);go_upto_region 13 with fail;generalize wr.setCell ⟨gp,1,none⟩ (.int .i64 ((j:Int)+1))=w4 at *;have HWR:=hX (fun W=>za1 j0 W);go_wp2_with fail;refine (HWR.out _).mono ?_;rintro e w5 ⟨rfl,rfl⟩;refine ⟨rfl,?_⟩;rw[HX2.out];exact ⟨HN0.out,HTN.out.grown⟩
     ·have d34:((c.toNat:Int) == 34)=false:=by rw[beq_eq_false_iff_ne];intro e;exact h34 (UInt8.toNat_inj.1 (by show c.toNat=34;omega))
      have d10:((c.toNat:Int) == 10)=false:=by rw[beq_eq_false_iff_ne];intro e;exact h10 (UInt8.toNat_inj.1 (by show c.toNat=10;omega))
      by_cases h92:c=92
      ·subst h92;replace HX:Hid (x=zu6 (zhh L (zun n0 (rem s (j+1))))):=hX (by rw[HX.out,zyp]);clear h34 h10 d34 d10
       obtain ⟨b1,hb1⟩:∃b:Bool,decide (∃h:0<u.size,u[0]=34)=b:=⟨_,rfl⟩
       obtain ⟨b2,hb2⟩:∃b:Bool,decide (∃h:0<u.size,u[0]=92)=b:=⟨_,rfl⟩
       have HP1:Hid (∀W,Calls Tryz.prog 157 #[.string u,.string ⟨#[34]⟩] W fun e w'=>e = .returned (.bool b1)∧w'=W):=hX (fun W=>(Tryz.strings_HasPrefix u ⟨#[34]⟩ W).mono fun e w' h=>by rw[show (⟨#[34]⟩:ByteArray).data.toList=[34] from rfl,zu9,hb1] at h;exact h);have HP2:Hid (∀W,Calls Tryz.prog 157 #[.string u,.string ⟨#[92]⟩] W fun e w'=>e = .returned (.bool b2)∧w'=W):=hX (fun W=>(Tryz.strings_HasPrefix u ⟨#[92]⟩ W).mono fun e w' h=>by rw[show (⟨#[92]⟩:ByteArray).data.toList=[92] from rfl,zu9,hb2] at h;exact h);go_upto_region 16 with fail;generalize wr.setCell ⟨gp,1,none⟩ (.int .i64 ((j:Int)+1))=w4 at *;clear c1 z1
       cases b1 with
       | true=>
        obtain ⟨hu0,hu1⟩:=of_decide_eq_true hb1;have HX2:Hid (x=zu6 (zhh (L++[u[0]]) (zed n0 (rem s (j+1+1))))):=hX (by rw[HX.out,zva HU.out hu0,zu7 _ _ _ (.inl hu1),zge]);clear hb1 hb2 hu1;go_wp2_with fail;refine (HP1.out _).mono ?_;rintro e w5 ⟨rfl,rfl⟩;have hj2s:j+1+1≤s.size:=by have:=HUL.out;omega
        have hu0i:(0:Int)<(u.size:Int):=by omega
        go_wp2_with fail;refine (HBP.out u[0] _ HTN.out).mono ?_;rintro e w7 ⟨rfl,hput⟩;have HT7:Hid (TxtW s gp gb w (j+1) (L++[u[0]]) w7):=hX (HTN.out.put hgp hput);clear hput;have c1:w7.cell? ⟨gp,1,none⟩=some (.int .i64 ((j+1:Nat):Int)):=HT7.out.pa.blk.cell 1;have z1:w7.frozen? ⟨gp,1,none⟩=false:=HT7.out.pa.blk.frozen 1;have HT8:Hid (∀v:Int,v=(j+1+1:Nat)→TxtW s gp gb w (j+1+1) (L++[u[0]]) (w7.setCell ⟨gp,1,none⟩ (.int .i64 v))):=hX (fun v hv=>HT7.out.next 1 hj2s hgb v hv);go_wp2_with fail;go_roundg (s.size - (j+1+1))
        case measure=>omega
        case rel=>exact ⟨j+1+1,L++[u[0]],by omega,hj2s,rfl,by simp;omega,hX (HT8.out _ (by omega)),HX2⟩
       | false=>
        cases b2 with
        | true=>
         obtain ⟨hu0,hu1⟩:=of_decide_eq_true hb2;have HX2:Hid (x=zu6 (zhh (L++[u[0]]) (zed n0 (rem s (j+1+1))))):=hX (by rw[HX.out,zva HU.out hu0,zu7 _ _ _ (.inr hu1),zge]);clear hb1 hb2 hu1;go_wp2_with fail;refine (HP1.out _).mono ?_;rintro e w5 ⟨rfl,rfl⟩;go_wp2_with fail;refine (HP2.out _).mono ?_;rintro e w6 ⟨rfl,rfl⟩;have hj2s:j+1+1≤s.size:=by have:=HUL.out;omega
         have hu0i:(0:Int)<(u.size:Int):=by omega
         go_wp2_with fail;refine (HBP.out u[0] _ HTN.out).mono ?_;rintro e w7 ⟨rfl,hput⟩;have HT7:Hid (TxtW s gp gb w (j+1) (L++[u[0]]) w7):=hX (HTN.out.put hgp hput);clear hput;have c1:w7.cell? ⟨gp,1,none⟩=some (.int .i64 ((j+1:Nat):Int)):=HT7.out.pa.blk.cell 1;have z1:w7.frozen? ⟨gp,1,none⟩=false:=HT7.out.pa.blk.frozen 1;have HT8:Hid (∀v:Int,v=(j+1+1:Nat)→TxtW s gp gb w (j+1+1) (L++[u[0]]) (w7.setCell ⟨gp,1,none⟩ (.int .i64 v))):=hX (fun v hv=>HT7.out.next 1 hj2s hgb v hv);go_wp2_with fail;go_roundg (s.size - (j+1+1))
         case measure=>omega
         case rel=>exact ⟨j+1+1,L++[u[0]],by omega,hj2s,rfl,by simp;omega,hX (HT8.out _ (by omega)),HX2⟩
        | false=>
         have hno:∀h:0<u.size,¬(u[0]=34∨u[0]=92):=fun h e=>e.elim (fun e=>of_decide_eq_false hb1 ⟨h,e⟩) (fun e=>of_decide_eq_false hb2 ⟨h,e⟩);clear hb1 hb2;go_wp2_with fail;refine (HP1.out _).mono ?_;rintro e w5 ⟨rfl,rfl⟩;go_wp2_with fail;refine (HP2.out _).mono ?_;rintro e w6 ⟨rfl,rfl⟩;go_upto_region 19 with fail;by_cases h3:3≤u.size
         ·have d3:decide ((3:Int)≤(u.size:Int))=true:=decide_eq_true (by omega);have hu0i:(0:Int)<(u.size:Int):=by omega
          have hu1i:(1:Int)<(u.size:Int):=by omega
          have hu2i:(2:Int)<(u.size:Int):=by omega
          have hu0n:0<u.size:=by omega
          have hu1n:1<u.size:=by omega
          have hu2n:2<u.size:=by omega
          replace HX:Hid (x=zu6 (zhh L (zun n0 (u[0]::u[1]::u[2]::rem s (j+1+3))))):=hX (by rw[HX.out,ydo HU.out h3]);have HNO:=hX (hno hu0n);have HNB1:=hX (fun W=>zll u[1] W);have HNB2:=hX (fun W=>zll u[2] W);clear hno h3;by_cases hx:u[0]=120
          ·have dx:((u[0].toNat:Int) == 120)=true:=by rw[hx];rfl
           obtain ⟨n1,hn1⟩:∃n,znq u[1]=n:=⟨_,rfl⟩
           obtain ⟨n2,hn2⟩:∃n,znq u[2]=n:=⟨_,rfl⟩
           cases n1 with
           | none=>
            have HX2:Hid (x = .error (n0,180)):=hX (by rw[HX.out,zp7 _ _ _ _ _ HNO.out (.inr (.inl hn1))];rfl);rw[zn2 hn1] at HNB1;clear hn1 hn2 hx;have HWR:=hX (fun W=>za1 j0 W);go_wp2_with fail;refine (HNB1.out _).mono ?_;rintro e w7_1 ⟨rfl,rfl⟩;go_wp2_with fail;refine (HWR.out _).mono ?_;rintro e w8 ⟨rfl,rfl⟩;refine ⟨rfl,?_⟩;rw[HX2.out];exact ⟨HN0.out,HTN.out.grown⟩
           | some n1=>
            rw[zn1 hn1] at HNB1;have hn1i:(0:Int)≤(n1:Int):=by omega
            cases n2 with
            | none=>
             have HX2:Hid (x = .error (n0,180)):=hX (by rw[HX.out,zp7 _ _ _ _ _ HNO.out (.inr (.inr hn2))];rfl);rw[zn2 hn2] at HNB2;clear hn1 hn2 hx;have HWR:=hX (fun W=>za1 j0 W);go_wp2_with fail;refine (HNB1.out _).mono ?_;rintro e w7_1 ⟨rfl,rfl⟩;go_wp2_with fail;refine (HNB2.out _).mono ?_;rintro e w7_2 ⟨rfl,rfl⟩;go_wp2_with fail;refine (HWR.out _).mono ?_;rintro e w8 ⟨rfl,rfl⟩;refine ⟨rfl,?_⟩;rw[HX2.out];exact ⟨HN0.out,HTN.out.grown⟩
            | some n2=>
             rw[zn1 hn2] at HNB2;have hn2i:(0:Int)≤(n2:Int):=by omega
             have hl1:=yav hn1;have hl2:=yav hn2;have HX2:Hid (x=zu6 (zhh (L++[UInt8.ofNat (16*n1+n2)]) (zed n0 (rem s (j+1+3))))):=hX (by rw[HX.out,hx,ybo _ _ _ _ _ _ hn1 hn2,zge]);have hs1:IntKind.i64.wrap (16*(n1:Int))=16*(n1:Int):=IntWalk.i64_in _ (by omega);have hs2:IntKind.i64.wrap (16*(n1:Int)+(n2:Int))=16*(n1:Int)+(n2:Int):=IntWalk.i64_in _ (by omega);have hby:((UInt8.ofNat (16*n1+n2)).toNat:Int)=16*(n1:Int)+(n2:Int):=by have h9:(UInt8.ofNat (16*n1+n2)).toNat=(16*n1+n2) % 2 ^ 8:=UInt8.toNat_ofNat';omega
             have hs3:IntKind.u8.wrap (16*(n1:Int)+(n2:Int))=16*(n1:Int)+(n2:Int):=by unfold IntKind.wrap;simp[IntKind.bits,IntKind.signed];omega
             have HBP2:Hid (∀W,TxtW s gp gb w (j+1) L W→Calls Tryz.prog 89 #[.pointer (some ⟨gb,0,none⟩),.int .u8 (16*(n1:Int)+(n2:Int))] W fun e w'=>e = .returned .nilIface∧Put w.heap.size gb L [UInt8.ofNat (16*n1+n2)] W e w'):=hX (fun W hW=>by have h9:=HBP.out (UInt8.ofNat (16*n1+n2)) W hW;rw[hby] at h9;exact h9);clear hby;clear hn1 hn2;go_wp2_with fail;refine (HNB1.out _).mono ?_;rintro e w7_1 ⟨rfl,rfl⟩;go_wp2_with fail;refine (HNB2.out _).mono ?_;rintro e w7_2 ⟨rfl,rfl⟩;go_wp2_with fail;refine wp_region_still_tail 9 (by kernel_rfl) (by kernel_rfl) ?_;simp only[List.take_succ_cons,List.take_zero,List.drop_succ_cons,List.drop_zero];repeat still_step
             still_call (HNB1.out _);repeat still_step
             still_call (HNB2.out _);repeat still_step
             refine wpStill_nil ?_;change wpList _ _ _ _ _ (World.drewN _ 1);go_wp2_with fail;refine (HBP2.out _ (HTN.out.drewN 1)).mono ?_;rintro e w8 ⟨rfl,hput⟩;have HT8:Hid (TxtW s gp gb w (j+1) (L++[UInt8.ofNat (16*n1+n2)]) w8):=hX ((HTN.out.drewN 1).put hgp hput);clear hput;have c1:w8.cell? ⟨gp,1,none⟩=some (.int .i64 ((j+1:Nat):Int)):=HT8.out.pa.blk.cell 1;have z1:w8.frozen? ⟨gp,1,none⟩=false:=HT8.out.pa.blk.frozen 1;have hj4s:j+1+3≤s.size:=by have:=HUL.out;omega
             have HT9:Hid (∀v:Int,v=(j+1+3:Nat)→TxtW s gp gb w (j+1+3) (L++[UInt8.ofNat (16*n1+n2)]) (w8.setCell ⟨gp,1,none⟩ (.int .i64 v))):=hX (fun v hv=>HT8.out.next 3 hj4s hgb v hv);go_wp2_with fail;go_roundg (s.size - (j+1+3))
             case measure=>omega
             case rel=>exact ⟨j+1+3,L++[UInt8.ofNat (16*n1+n2)],by omega,hj4s,rfl,by simp;omega,hX (HT9.out _ (by omega)),HX2⟩
          ·have dx:((u[0].toNat:Int) == 120)=false:=by rw[beq_eq_false_iff_ne];intro e;exact hx (UInt8.toNat_inj.1 (by show u[0].toNat=120;omega))
           have HX2:Hid (x = .error (n0,180)):=hX (by rw[HX.out,zp7 _ _ _ _ _ HNO.out (.inl hx)];rfl);clear hx;have HWR:=hX (fun W=>za1 j0 W);go_wp2_with fail;refine (HWR.out _).mono ?_;rintro e w8 ⟨rfl,rfl⟩;refine ⟨rfl,?_⟩;rw[HX2.out];exact ⟨HN0.out,HTN.out.grown⟩
         ·have d3:decide ((3:Int)≤(u.size:Int))=false:=decide_eq_false (by omega)
          have HX2:Hid (x = .error (n0,180)):=hX (by
           rw[HX.out,zu8 _ _ ?_ (by rw[zds,←HUL.out];omega)]
           ·rfl
           ·intro d t hd;have hu0:0<u.size:=by have h9:=congrArg List.length hd;rw[zds,←HUL.out,List.length_cons] at h9;omega
            have h9:=zva HU.out hu0;rw[hd] at h9;injection h9 with h9 _;rw[h9]
            exact hno hu0)
          clear hno;have HWR:=hX (fun W=>za1 j0 W);go_wp2_with fail;refine (HWR.out _).mono ?_;rintro e w8 ⟨rfl,rfl⟩;refine ⟨rfl,?_⟩;rw[HX2.out];exact ⟨HN0.out,HTN.out.grown⟩
      ·have d92:((c.toNat:Int) == 92)=false:=by rw[beq_eq_false_iff_ne];intro e;exact h92 (UInt8.toNat_inj.1 (by show c.toNat=92;omega))
       have d92n:((c.toNat:Int) != 92)=true:=by rw[bne,d92];rfl
       have HX2:Hid (x=zu6 (zhh (L++[c]) (zed n0 (rem s (j+1))))):=hX (by rw[HX.out,ybd _ _ _ h34 h10 h92,zge]);go_upto_region 15 with fail;generalize wr.setCell ⟨gp,1,none⟩ (.int .i64 ((j:Int)+1))=w4 at *;go_wp2_with fail;refine (HBP.out c _ HTN.out).mono ?_;rintro e w5 ⟨rfl,hput⟩;have HT5:Hid (TxtW s gp gb w (j+1) (L++[c]) w5):=hX (HTN.out.put hgp hput);clear hput;go_wp2_with fail;go_roundg (s.size - (j+1))
       case measure=>omega
       case rel=>exact ⟨j+1,L++[c],by omega,hjn,rfl,by simp;omega,HT5,HX2⟩
   ·obtain rfl:j=s.size:=by omega
    have HX2:Hid (x = .error (n0,180)):=hX (by rw[HX.out,zda];rfl);have c0:wr.cell? ⟨gp,0,none⟩=some (.string s):=HT.out.pa.blk.cell 0;have c1:wr.cell? ⟨gp,1,none⟩=some (.int .i64 s.size):=HT.out.pa.blk.cell 1;have HWR:=hX (fun W=>za1 j0 W);go_upto_region 5 with fail;go_quiet (fail);go_wp2_with fail;refine (HWR.out _).mono ?_;rintro e w8 ⟨rfl,rfl⟩;refine ⟨rfl,?_⟩;rw[HX2.out];exact ⟨HN0.out,zaq HT.out.grown _⟩
end Go.Proofs.YtplkbdncgkgppaaGreatDoor.Qry
end
section
namespace Go.Proofs.YtplkbdncgkgppaaGreatDoor.Qry
open Go.RowKit Words Tree QryP Kit
def zbm (l:R):Option Int:=match Lib.parseIntB 64 l with
 | .ok v=>some v
 | _=>none
theorem zvb {l:R} {v:Int} (h:zbm l=some v):I64 v:=by
 unfold zbm at h;split at h
 ·rename_i v' hv
  cases h;have:=Lib.parseIntB_bounds hv;unfold I64;omega
 ·cases h
end Go.Proofs.YtplkbdncgkgppaaGreatDoor.Qry
end
