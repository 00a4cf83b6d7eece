/- Lemmas that the last text leans on. -/
import Derived.Test.YtplkbdncgkgppaaGreatDoorProg
import Derived.Test.YtplkbdncgkgppaaGreatDoorPack24
import Derived.Test.YtplkbdncgkgppaaGreatDoorPack2
set_option linter.all false
set_option maxHeartbeats 1000000
namespace Go.Proofs.YtplkbdncgkgppaaGreatDoor.FoldInts
open Go.RowKit FoldP Kit
theorem zq2 (r:Int):bits BinOp.and IntKind.i32 r 1=r % 2:=by
 have e1:(BitVec.ofInt 32 r &&& BitVec.ofInt 32 1).toNat=(r % 2).toNat:=by
  have h1:(BitVec.ofInt 32 1).toNat=1:=by decide
  rw[BitVec.toNat_and,h1,Nat.and_one_is_mod,BitVec.toNat_ofInt];omega
 show IntKind.i32.wrap ((BitVec.ofInt 32 r &&& BitVec.ofInt 32 1).toNat:Int)=r % 2;rw[e1];have:r % 2=0∨r % 2=1:=by omega
 rcases this with h | h <;> rw[h] <;> decide
theorem yeq (r lo hi:Int) (w:World) :
 Calls Tryz.prog 167 #[.int .i32 r,.int .i32 lo,.int .i32 hi] w fun e w'=>e = .returned (.bool (inB r lo hi))∧w=w':=by
 go_enter Tryz.func167,Tryz.ntmps167;go_wp2;all_goals go_ret
 ·exact ⟨by simp_all [inB],rfl⟩
 ·rename_i h;have h2:¬lo≤r:=(by omega);exact ⟨by simp[inB,h2],rfl⟩
theorem zz3 (r odd:Int) (w:World) (h0:0≤r) (h1:r≤100000) :
 Calls Tryz.prog 192 #[.int .i32 r,.int .i32 odd] w fun e w'=>e = .returned (.int .i32 (zqg r odd))∧w=w':=by
 have e0:=zq2 r;go_enter Tryz.func192,Tryz.ntmps192;go_wp2;all_goals go_ret
 ·rename_i h;exact ⟨by simp[zqg] at h ⊢;simp[h],rfl⟩
 ·rename_i h;exact ⟨by simp[zqg] at h ⊢;simp[h],rfl⟩
def yer (r:Int) (w:World) (e:Ending) (w':World):Prop:=e = .returned (.int .i32 (za4 r))∧w=w'
theorem zjl (r lo hi:Int) (w:World) {R:Ending→World→Prop} (ht:lo≤r→r≤hi→R (.returned (.bool true)) w) (hf:(r<lo∨hi<r)→R (.returned (.bool false)) w) :
 Calls Tryz.prog 167 #[.int .i32 r,.int .i32 lo,.int .i32 hi] w R:=by
 refine (yeq r lo hi w).mono ?_;rintro e w' ⟨rfl,rfl⟩;by_cases h1:lo≤r
 ·by_cases h2:r≤hi
  ·have e1:inB r lo hi=true:=zza.2 ⟨h1,h2⟩;rw[e1];exact ht h1 h2
  ·have e1:inB r lo hi=false:=zoi.2 (by omega);rw[e1];exact hf (by omega)
 ·have e1:inB r lo hi=false:=zoi.2 (by omega);rw[e1];exact hf (by omega)
theorem zo7 (r:Int) (w:World) :
 Calls Tryz.prog 179 #[.int .i32 r] w (yer r w):=by
 go_enter Tryz.func179,Tryz.ntmps179;go_wp2_with (first | (go_at_call 167;refine zjl _ _ _ _ ?_ ?_ <;> intros <;> first | (exfalso;omega) | skip) | (go_at_call 192;refine (zz3 _ _ _ (by omega) (by omega)).mono ?_;rintro e w' ⟨rfl,rfl⟩));all_goals go_ret
 all_goals go_light
 all_goals (simp only[beq_iff_eq,beq_eq_false_iff_ne,bne_iff_ne,bne_eq_false_iff_eq,ne_eq] at *)
 all_goals refine ⟨yba ?_,rfl⟩
 all_goals try rw[wrap32_small (by omega) (by omega)]
 all_goals first
  | (refine yfx r ?_;unfold isA;omega)
  | (refine yfy r ?_;unfold isB;omega)
  | (refine yfz r ?_;unfold isC;omega)
  | (refine yf0 r ?_;omega)
  | (refine yf1 r ?_;omega)
  | (refine yf2 r ?_;omega)
  | (have e1:r=0x178:=by assumption
     subst e1;exact ych.symm)
  | (have e1:r=0x4C0:=by assumption
     subst e1;exact yci.symm)
  | (have e1:r=0x386:=by assumption
     subst e1;exact ycj.symm)
  | (have e1:r=0x38C:=by assumption
     subst e1;exact yck.symm)
  | (refine yd9 r ?_ ?_ ?_ ?_ ?_ ?_ ?_ ?_ ?_ ?_ <;> (try unfold isA) <;> (try unfold isB) <;> (try unfold isC) <;> omega)
def zkx (b:Bool) (w:World) (e:Ending) (w':World):Prop:=e = .returned (.bool b)∧w=w'
theorem letter_any (r:Int) (w:World) :
 Calls Tryz.prog 147 #[.int .i32 r] w (zkx (zes r) w):=by
 go_enter Tryz.func147,Tryz.ntmps147;go_wp2_with (first | (go_at_call 167;refine zjl _ _ _ _ ?_ ?_ <;> intros <;> first | (exfalso;omega) | skip));all_goals go_ret
 all_goals go_light
 all_goals (simp only[beq_iff_eq,beq_eq_false_iff_ne,bne_iff_ne,bne_eq_false_iff_eq,ne_eq] at *)
 all_goals refine ⟨zfw ?_,rfl⟩
 all_goals first
  | (refine (zqh r ?_).symm;unfold zgi;omega)
  | (refine (zoj r ?_).symm;unfold zgi;omega)
theorem zna (r:Int) (w:World) :
 Calls Tryz.prog 150 #[.int .i32 r] w (zkx (markF r) w):=by
 go_enter Tryz.func150,Tryz.ntmps150;go_wp2_with (first | (go_at_call 167;refine zjl _ _ _ _ ?_ ?_ <;> intros <;> first | (exfalso;omega) | skip));all_goals go_ret
 all_goals go_light
 all_goals (simp only[beq_iff_eq,beq_eq_false_iff_ne,ne_eq] at *)
 all_goals refine ⟨zfw ?_,rfl⟩
 all_goals first
  | (refine (zv4 r ?_).symm;unfold zlv;omega)
  | (refine (ztc r ?_).symm;unfold zlv;omega)
theorem zxh (r:Int) (w:World) :
 Calls Tryz.prog 148 #[.int .i32 r] w (zkx (zhk r) w):=by
 go_enter Tryz.func148,Tryz.ntmps148;go_wp2_with (first | (go_at_call 167;refine zjl _ _ _ _ ?_ ?_ <;> intros <;> first | (exfalso;omega) | skip));all_goals go_ret
 all_goals go_light
 all_goals refine ⟨zfw ?_,rfl⟩
 all_goals first
  | (refine (ztb r ?_).symm;unfold zig;omega)
  | (refine (zqi r ?_).symm;unfold zig;omega)
end Go.Proofs.YtplkbdncgkgppaaGreatDoor.FoldInts
