/- Lemmas that the last text leans on. -/
import Derived.Test.YtplkbdncgkgppaaGreatDoorProg
import Derived.Test.YtplkbdncgkgppaaGreatDoorPack2
set_option linter.all false
set_option maxHeartbeats 1000000
namespace Go.Proofs.YtplkbdncgkgppaaGreatDoor.FoldInts
open Go.RowKit FoldP Kit
theorem zr4 (r:Int):bits BinOp.and IntKind.i32 r 1=r % 2:=by
 have e1:(BitVec.ofInt 32 r &&& BitVec.ofInt 32 1).toNat=(r % 2).toNat:=by
  have h1:(BitVec.ofInt 32 1).toNat=1:=by decide
  rw[BitVec.toNat_and,h1,Nat.and_one_is_mod,BitVec.toNat_ofInt];omega
 show IntKind.i32.wrap ((BitVec.ofInt 32 r &&& BitVec.ofInt 32 1).toNat:Int)=r % 2;rw[e1];have:r % 2=0∨r % 2=1:=by omega
 rcases this with h | h <;> rw[h] <;> decide
theorem yg2 (r lo hi:Int) (w:World) :
 Calls Tryz.prog 167 #[.int .i32 r,.int .i32 lo,.int .i32 hi] w fun e w'=>e = .returned (.bool (inB r lo hi))∧w=w':=by
 go_enter Tryz.func167,Tryz.ntmps167;go_wp2;all_goals go_ret
 ·exact ⟨by simp_all [inB],rfl⟩
 ·rename_i h;have h2:¬lo≤r:=(by omega);exact ⟨by simp[inB,h2],rfl⟩
theorem ybt (r odd:Int) (w:World) (h0:0≤r) (h1:r≤100000) :
 Calls Tryz.prog 192 #[.int .i32 r,.int .i32 odd] w fun e w'=>e = .returned (.int .i32 (zq7 r odd))∧w=w':=by
 have e0:=zr4 r;go_enter Tryz.func192,Tryz.ntmps192;go_wp2;all_goals go_ret
 ·rename_i h;exact ⟨by simp[zq7] at h ⊢;simp[h],rfl⟩
 ·rename_i h;exact ⟨by simp[zq7] at h ⊢;simp[h],rfl⟩
def yg3 (r:Int) (w:World) (e:Ending) (w':World):Prop:=e = .returned (.int .i32 (za7 r))∧w=w'
theorem zj5 (r lo hi:Int) (w:World) {R:Ending→World→Prop} (ht:lo≤r→r≤hi→R (.returned (.bool true)) w) (hf:(r<lo∨hi<r)→R (.returned (.bool false)) w) :
 Calls Tryz.prog 167 #[.int .i32 r,.int .i32 lo,.int .i32 hi] w R:=by
 refine (yg2 r lo hi w).mono ?_;rintro e w' ⟨rfl,rfl⟩;by_cases h1:lo≤r
 ·by_cases h2:r≤hi
  ·have e1:inB r lo hi=true:=yao.2 ⟨h1,h2⟩;rw[e1];exact ht h1 h2
  ·have e1:inB r lo hi=false:=zot.2 (by omega);rw[e1];exact hf (by omega)
 ·have e1:inB r lo hi=false:=zot.2 (by omega);rw[e1];exact hf (by omega)
theorem zpt (r:Int) (w:World) :
 Calls Tryz.prog 179 #[.int .i32 r] w (yg3 r w):=by
 go_enter Tryz.func179,Tryz.ntmps179;go_wp2_with (first | (go_at_call 167;refine zj5 _ _ _ _ ?_ ?_ <;> intros <;> first | (exfalso;omega) | skip) | (go_at_call 192;refine (ybt _ _ _ (by omega) (by omega)).mono ?_;rintro e w' ⟨rfl,rfl⟩));all_goals go_ret
 all_goals go_light
 all_goals (simp only[beq_iff_eq,beq_eq_false_iff_ne,bne_iff_ne,bne_eq_false_iff_eq,ne_eq] at *)
 all_goals refine ⟨ydu ?_,rfl⟩
 all_goals try rw[wrap32_small (by omega) (by omega)]
 all_goals first
  | (refine yh8 r ?_;unfold isA;omega)
  | (refine yh9 r ?_;unfold isB;omega)
  | (refine yia r ?_;unfold isC;omega)
  | (refine yib r ?_;omega)
  | (refine yic r ?_;omega)
  | (refine yid r ?_;omega)
  | (have e1:r=0x178:=by assumption
     subst e1;exact ydv.symm)
  | (have e1:r=0x4C0:=by assumption
     subst e1;exact ydw.symm)
  | (have e1:r=0x386:=by assumption
     subst e1;exact ydx.symm)
  | (have e1:r=0x38C:=by assumption
     subst e1;exact ydy.symm)
  | (refine yf4 r ?_ ?_ ?_ ?_ ?_ ?_ ?_ ?_ ?_ ?_ <;> (try unfold isA) <;> (try unfold isB) <;> (try unfold isC) <;> omega)
def zle (b:Bool) (w:World) (e:Ending) (w':World):Prop:=e = .returned (.bool b)∧w=w'
theorem letter_any (r:Int) (w:World) :
 Calls Tryz.prog 147 #[.int .i32 r] w (zle (zfh r) w):=by
 go_enter Tryz.func147,Tryz.ntmps147;go_wp2_with (first | (go_at_call 167;refine zj5 _ _ _ _ ?_ ?_ <;> intros <;> first | (exfalso;omega) | skip));all_goals go_ret
 all_goals go_light
 all_goals (simp only[beq_iff_eq,beq_eq_false_iff_ne,bne_iff_ne,bne_eq_false_iff_eq,ne_eq] at *)
 all_goals refine ⟨zgt ?_,rfl⟩
 all_goals first
  | (refine (zq8 r ?_).symm;unfold zgu;omega)
  | (refine (zou r ?_).symm;unfold zgu;omega)
theorem zn3 (r:Int) (w:World) :
 Calls Tryz.prog 150 #[.int .i32 r] w (zle (markF r) w):=by
 go_enter Tryz.func150,Tryz.ntmps150;go_wp2_with (first | (go_at_call 167;refine zj5 _ _ _ _ ?_ ?_ <;> intros <;> first | (exfalso;omega) | skip));all_goals go_ret
 all_goals go_light
 all_goals (simp only[beq_iff_eq,beq_eq_false_iff_ne,ne_eq] at *)
 all_goals refine ⟨zgt ?_,rfl⟩
 all_goals first
  | (refine (zwj r ?_).symm;unfold zmg;omega)
  | (refine (zue r ?_).symm;unfold zmg;omega)
theorem zym (r:Int) (w:World) :
 Calls Tryz.prog 148 #[.int .i32 r] w (zle (zh2 r) w):=by
 go_enter Tryz.func148,Tryz.ntmps148;go_wp2_with (first | (go_at_call 167;refine zj5 _ _ _ _ ?_ ?_ <;> intros <;> first | (exfalso;omega) | skip));all_goals go_ret
 all_goals go_light
 all_goals refine ⟨zgt ?_,rfl⟩
 all_goals first
  | (refine (zud r ?_).symm;unfold ziw;omega)
  | (refine (zq9 r ?_).symm;unfold ziw;omega)
end Go.Proofs.YtplkbdncgkgppaaGreatDoor.FoldInts
