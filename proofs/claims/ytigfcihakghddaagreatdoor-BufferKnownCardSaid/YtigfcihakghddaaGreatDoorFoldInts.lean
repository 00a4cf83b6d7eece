/- Lemmas that the last text leans on. -/
import Derived.Test.YtigfcihakghddaaGreatDoorProg
import Derived.Test.YtigfcihakghddaaGreatDoorPack6
import Derived.Test.YtigfcihakghddaaGreatDoorPack3
set_option linter.all false
set_option maxHeartbeats 1000000
namespace Go.Proofs.YtigfcihakghddaaGreatDoor.FoldInts
open Go.RowKit FoldP Kit
theorem and_one_i32 (r:Int):bits BinOp.and IntKind.i32 r 1=r % 2:=by
 have e1:(BitVec.ofInt 32 r &&& BitVec.ofInt 32 1).toNat=(r % 2).toNat:=by
  have h1:(BitVec.ofInt 32 1).toNat=1:=by decide
  rw[BitVec.toNat_and,h1,Nat.and_one_is_mod,BitVec.toNat_ofInt];omega
 show IntKind.i32.wrap ((BitVec.ofInt 32 r &&& BitVec.ofInt 32 1).toNat:Int)=r % 2;rw[e1];have:r % 2=0∨r % 2=1:=by omega
 rcases this with h | h <;> rw[h] <;> decide
theorem in_any (r lo hi:Int) (w:World) :
 Calls Tryz.prog 246 #[.int .i32 r,.int .i32 lo,.int .i32 hi] w fun e w'=>e = .returned (.bool (inB r lo hi))∧w=w':=by
 go_enter Tryz.func246,Tryz.ntmps246;go_wp2;all_goals go_ret
 ·exact ⟨by simp_all [inB],rfl⟩
 ·rename_i h;have h2:¬lo≤r:=(by omega);exact ⟨by simp[inB,h2],rfl⟩
theorem step_any (r odd:Int) (w:World) (h0:0≤r) (h1:r≤100000) :
 Calls Tryz.prog 262 #[.int .i32 r,.int .i32 odd] w fun e w'=>e = .returned (.int .i32 (stepF r odd))∧w=w':=by
 have e0:=and_one_i32 r;go_enter Tryz.func262,Tryz.ntmps262;go_wp2;all_goals go_ret
 ·rename_i h;exact ⟨by simp[stepF] at h ⊢;simp[h],rfl⟩
 ·rename_i h;exact ⟨by simp[stepF] at h ⊢;simp[h],rfl⟩
def LowRet (r:Int) (w:World) (e:Ending) (w':World):Prop:=e = .returned (.int .i32 (lowerF r))∧w=w'
theorem in_split (r lo hi:Int) (w:World) {R:Ending→World→Prop} (ht:lo≤r→r≤hi→R (.returned (.bool true)) w) (hf:(r<lo∨hi<r)→R (.returned (.bool false)) w) :
 Calls Tryz.prog 246 #[.int .i32 r,.int .i32 lo,.int .i32 hi] w R:=by
 refine (in_any r lo hi w).mono ?_;rintro e w' ⟨rfl,rfl⟩;by_cases h1:lo≤r
 ·by_cases h2:r≤hi
  ·have e1:inB r lo hi=true:=inB_true.2 ⟨h1,h2⟩;rw[e1];exact ht h1 h2
  ·have e1:inB r lo hi=false:=inB_false.2 (by omega);rw[e1];exact hf (by omega)
 ·have e1:inB r lo hi=false:=inB_false.2 (by omega);rw[e1];exact hf (by omega)
theorem lower_any (r:Int) (w:World) :
 Calls Tryz.prog 243 #[.int .i32 r] w (LowRet r w):=by
 go_enter Tryz.func243,Tryz.ntmps243;go_wp2_with (first | (go_at_call 246;refine in_split _ _ _ _ ?_ ?_ <;> intros <;> first | (exfalso;omega) | skip) | (go_at_call 262;refine (step_any _ _ _ (by omega) (by omega)).mono ?_;rintro e w' ⟨rfl,rfl⟩));all_goals go_ret
 all_goals go_light
 all_goals (simp only[beq_iff_eq,beq_eq_false_iff_ne,bne_iff_ne,bne_eq_false_iff_eq,ne_eq] at *)
 all_goals refine ⟨ret_int ?_,rfl⟩
 all_goals try rw[wrap32_small (by omega) (by omega)]
 all_goals first
  | (refine low_A r ?_;unfold isA;omega)
  | (refine low_B r ?_;unfold isB;omega)
  | (refine low_C r ?_;unfold isC;omega)
  | (refine low_D r ?_;omega)
  | (refine low_E r ?_;omega)
  | (refine low_F r ?_;omega)
  | (have e1:r=0x178:=by assumption
     subst e1;exact low_178.symm)
  | (have e1:r=0x4C0:=by assumption
     subst e1;exact low_4C0.symm)
  | (have e1:r=0x386:=by assumption
     subst e1;exact low_386.symm)
  | (have e1:r=0x38C:=by assumption
     subst e1;exact low_38C.symm)
  | (refine low_id r ?_ ?_ ?_ ?_ ?_ ?_ ?_ ?_ ?_ ?_ <;> (try unfold isA) <;> (try unfold isB) <;> (try unfold isC) <;> omega)
def BoolRet (b:Bool) (w:World) (e:Ending) (w':World):Prop:=e = .returned (.bool b)∧w=w'
theorem letter_any (r:Int) (w:World) :
 Calls Tryz.prog 205 #[.int .i32 r] w (BoolRet (letterF r) w):=by
 go_enter Tryz.func205,Tryz.ntmps205;go_wp2_with (first | (go_at_call 246;refine in_split _ _ _ _ ?_ ?_ <;> intros <;> first | (exfalso;omega) | skip));all_goals go_ret
 all_goals go_light
 all_goals (simp only[beq_iff_eq,beq_eq_false_iff_ne,bne_iff_ne,bne_eq_false_iff_eq,ne_eq] at *)
 all_goals refine ⟨ret_bool ?_,rfl⟩
 all_goals first
  | (refine (letter_true r ?_).symm;unfold isLetter;omega)
  | (refine (letter_false r ?_).symm;unfold isLetter;omega)
theorem mark_any (r:Int) (w:World) :
 Calls Tryz.prog 203 #[.int .i32 r] w (BoolRet (markF r) w):=by
 go_enter Tryz.func203,Tryz.ntmps203;go_wp2_with (first | (go_at_call 246;refine in_split _ _ _ _ ?_ ?_ <;> intros <;> first | (exfalso;omega) | skip));all_goals go_ret
 all_goals go_light
 all_goals (simp only[beq_iff_eq,beq_eq_false_iff_ne,ne_eq] at *)
 all_goals refine ⟨ret_bool ?_,rfl⟩
 all_goals first
  | (refine (mark_true r ?_).symm;unfold isMark;omega)
  | (refine (mark_false r ?_).symm;unfold isMark;omega)
theorem digit_any (r:Int) (w:World) :
 Calls Tryz.prog 206 #[.int .i32 r] w (BoolRet (digitF r) w):=by
 go_enter Tryz.func206,Tryz.ntmps206;go_wp2_with (first | (go_at_call 246;refine in_split _ _ _ _ ?_ ?_ <;> intros <;> first | (exfalso;omega) | skip));all_goals go_ret
 all_goals go_light
 all_goals refine ⟨ret_bool ?_,rfl⟩
 all_goals first
  | (refine (digit_true r ?_).symm;unfold isDigit;omega)
  | (refine (digit_false r ?_).symm;unfold isDigit;omega)
end Go.Proofs.YtigfcihakghddaaGreatDoor.FoldInts
