/- Lemmas that the last text leans on. -/
import Derived.Test.YtplkbdncgkgppaaGreatDoorTake
import Derived.Test.YtplkbdncgkgppaaGreatDoorPack20
import Derived.Test.YtplkbdncgkgppaaGreatDoorPack21
import Derived.Laws.EntriesVeiled
set_option linter.all false
set_option maxRecDepth 100000
set_option maxHeartbeats 16000000
section
namespace Go.Proofs.YtplkbdncgkgppaaGreatDoor.Qry
open Go.RowKit Words Tree QryP Kit Sch SchP
section
variable (kd oc:Int) (f t u:ByteArray) (L H K:Option Addr) (nl cl nh ch nk ck:Nat) (b op under:Int) (w:World)
theorem zvt (w:World) (o2:Obj) (cs:Array Value) (t:TypeId):Blk ((w.alloc (.cells cs t)).alloc o2) w.heap.size t cs:=(Blk.new w t cs).alloc o2
theorem yft (ho:(zfi under oc=true∧under=8∧1≤oc∧oc≤4)∨(zfi under oc=true∧¬under=8∧oc=0)) (hk:kd=7) (hf:f.size≤140737488351232) :
 Calls Tryz.prog 61 #[.agg #[.int .i64 kd,.int .i64 oc,.string f,.string t,.string u,.slice L nl cl,.slice H nh ch,.int .i64 b,.int .i64 op,.slice K nk ck],.int .i64 under] w (ze2 (decide (1≤nl∧nl≤4∧nh=nl) && zbx f && zbh ⟨#[]⟩ t u 0 0 b op nk) w):=by
 have hmf:∀(fn:Fn) (first cap:Array Value) (w:World),(Instr.makeFunc fn first cap).run Tryz.prog w = .ok (.func fn first cap) w:=fun _ _ _ _=>rfl;have HE:=hX (fun W=>zdt 0 0 ⟨#[]⟩ t u none none K 0 0 0 0 nk ck b op W);generalize zbh ⟨#[]⟩ t u 0 0 b op nk=r at *;have HN:=hX (fun W=>zgc f W hf);generalize zbx f=nb at *;subst hk
 rcases (show ¬1≤nl∨(1≤nl∧¬nl≤4)∨(1≤nl∧nl≤4∧¬nh=nl)∨(1≤nl∧nl≤4∧nh=nl) by omega) with g1 | ⟨g1,g2⟩ | ⟨g1,g2,g3⟩ | ⟨g1,g2,g3⟩
 have k1:decide (1≤(nl:Int))=false:=decide_eq_false (by omega);have hr:decide (1≤nl∧nl≤4∧nh=nl)=false:=decide_eq_false (by omega);have HR:=hX hr;clear hr;rotate_left
 have k1:decide (1≤(nl:Int))=true:=decide_eq_true (by omega);have k2:decide ((nl:Int)≤4)=false:=decide_eq_false (by omega);have hr:decide (1≤nl∧nl≤4∧nh=nl)=false:=decide_eq_false (by omega);have HR:=hX hr;clear hr;rotate_left
 have k1:decide (1≤(nl:Int))=true:=decide_eq_true (by omega);have k2:decide ((nl:Int)≤4)=true:=decide_eq_true (by omega);(have k3:((nh:Int) == (nl:Int))=false:=by rw[beq_eq_false_iff_ne];omega);have hr:decide (1≤nl∧nl≤4∧nh=nl)=false:=decide_eq_false (by omega);have HR:=hX hr;clear hr;rotate_left
 ·have k1:decide (1≤(nl:Int))=true:=decide_eq_true (by omega);have k2:decide ((nl:Int)≤4)=true:=decide_eq_true (by omega);have hr:decide (1≤nl∧nl≤4∧nh=nl)=true:=decide_eq_true (by omega);have HR:=hX hr;obtain rfl:nl=nh:=by omega
  clear hr
  rcases ho with ⟨_,h1,h2,h3⟩ | ⟨_,h1,h2⟩
  subst h1;have d1:decide (oc<1)=false:=decide_eq_false (by omega);have d2:decide (4<oc)=false:=decide_eq_false (by omega);rotate_left
  subst h2;have d1:(under == 8)=false:=by simpa using h1
  have d2:(under != 8)=true:=by simpa using h1
  all_goals
   go_enter Tryz.func61,Tryz.ntmps61;go_wp2_with fail;refine (zr3 (w.heap.size+1) _ _ (zer w _ _ _) rfl).mono ?_;rintro e w1 ⟨rfl,rfl⟩;go_wp2_with fail;refine (HN.out _).mono ?_;rintro e V ⟨rfl,hb⟩;have HB:=hX (ydc rfl hb);obtain ⟨c0,c1,c2,c3,c4,c5,c6,c7,c8,c9⟩:=zlq ((zer w _ _ _).below hb (zer w _ _ _).lt);clear hb;cases nb
   ·go_wp2_with fail;go_ret;exact ⟨by rw[HR.out];simp,HB.out⟩
   ·go_wp2_with fail;refine (HE.out _).mono ?_;rintro e V2 ⟨rfl,hb⟩;have HB2:=hX (HB.out.trans (hb.mono HB.out.size));clear hb c0 c1 c2 c3 c4 c5 c6 c7 c8 c9;go_wp2_with fail;go_ret;exact ⟨by rw[HR.out];simp,HB2.out⟩
 all_goals
  rcases ho with ⟨_,h1,h2,h3⟩ | ⟨_,h1,h2⟩
  subst h1;have d1:decide (oc<1)=false:=decide_eq_false (by omega);have d2:decide (4<oc)=false:=decide_eq_false (by omega);rotate_left
  subst h2;have d1:(under == 8)=false:=by simpa using h1
  have d2:(under != 8)=true:=by simpa using h1
  all_goals
   go_enter Tryz.func61,Tryz.ntmps61;go_wp2_with fail;refine (zr3 (w.heap.size+1) _ _ (zer w _ _ _) rfl).mono ?_;rintro e w1 ⟨rfl,rfl⟩;go_wp2_with fail;go_ret;exact ⟨by rw[HR.out];simp,((Below.refl _ w).alloc (Nat.le_refl _) _).alloc (by simp) _⟩
theorem yfu (ho:(zfi under oc=true∧under=8∧1≤oc∧oc≤4)∨(zfi under oc=true∧¬under=8∧oc=0)) (hk:kd=9) :
 Calls Tryz.prog 61 #[.agg #[.int .i64 kd,.int .i64 oc,.string f,.string t,.string u,.slice L nl cl,.slice H nh ch,.int .i64 b,.int .i64 op,.slice K nk ck],.int .i64 under] w (ze2 (decide (0≤b∧b≤1048576∧nk=1) && zbh f t u nl nh 0 op 0) w):=by
 have hmf:∀(fn:Fn) (first cap:Array Value) (w:World),(Instr.makeFunc fn first cap).run Tryz.prog w = .ok (.func fn first cap) w:=fun _ _ _ _=>rfl;have HE:=hX (fun W=>zdt 0 0 f t u L H none nl cl nh ch 0 0 0 op W);generalize zbh f t u nl nh 0 op 0=r at *;subst hk
 rcases (show ¬0≤b∨(0≤b∧¬b≤1048576)∨(0≤b∧b≤1048576∧¬nk=1)∨(0≤b∧b≤1048576∧nk=1) by omega) with g1 | ⟨g1,g2⟩ | ⟨g1,g2,g3⟩ | ⟨g1,g2,g3⟩
 have k1:decide (0≤b)=false:=decide_eq_false (by omega);have hr:decide (0≤b∧b≤1048576∧nk=1)=false:=decide_eq_false (by omega);have HR:=hX hr;clear hr;rotate_left
 have k1:decide (0≤b)=true:=decide_eq_true (by omega);have k2:decide (b≤1048576)=false:=decide_eq_false (by omega);have hr:decide (0≤b∧b≤1048576∧nk=1)=false:=decide_eq_false (by omega);have HR:=hX hr;clear hr;rotate_left
 have k1:decide (0≤b)=true:=decide_eq_true (by omega);have k2:decide (b≤1048576)=true:=decide_eq_true (by omega);(have k3:((nk:Int) == 1)=false:=by rw[beq_eq_false_iff_ne];omega);have hr:decide (0≤b∧b≤1048576∧nk=1)=false:=decide_eq_false (by omega);have HR:=hX hr;clear hr;rotate_left
 have k1:decide (0≤b)=true:=decide_eq_true (by omega);have k2:decide (b≤1048576)=true:=decide_eq_true (by omega);(have k3:((nk:Int) == 1)=true:=by rw[g3];rfl);have hr:decide (0≤b∧b≤1048576∧nk=1)=true:=decide_eq_true (by omega);have HR:=hX hr;clear hr;rotate_left
 all_goals
  rcases ho with ⟨_,h1,h2,h3⟩ | ⟨_,h1,h2⟩
  subst h1;have d1:decide (oc<1)=false:=decide_eq_false (by omega);have d2:decide (4<oc)=false:=decide_eq_false (by omega);rotate_left
  subst h2;have d1:(under == 8)=false:=by simpa using h1
  have d2:(under != 8)=true:=by simpa using h1
  all_goals
   go_enter Tryz.func61,Tryz.ntmps61;go_wp2_with fail;refine (HE.out _).mono ?_;rintro e V ⟨rfl,hb⟩;have HB:=hX (ydc rfl hb);obtain ⟨c0,c1,c2,c3,c4,c5,c6,c7,c8,c9⟩:=zlq ((zvt w _ _ _).below hb (zvt w _ _ _).lt);clear hb;cases r
   ·go_wp2_with fail;go_ret;exact ⟨by rw[HR.out];simp,HB.out⟩
   ·go_wp2_with fail;go_ret;exact ⟨by rw[HR.out];simp,HB.out⟩
theorem yd5 (ho:(zfi under oc=true∧under=8∧1≤oc∧oc≤4)∨(zfi under oc=true∧¬under=8∧oc=0)) (hk:kd=10) (hf:f.size≤140737488351232) :
 Calls Tryz.prog 61 #[.agg #[.int .i64 kd,.int .i64 oc,.string f,.string t,.string u,.slice L nl cl,.slice H nh ch,.int .i64 b,.int .i64 op,.slice K nk ck],.int .i64 under] w (ze2 (decide (1≤op∧op≤3∧nl=1∧nk=1) && zbx f && zbh ⟨#[]⟩ t u 0 nh b 0 0) w):=by
 have hmf:∀(fn:Fn) (first cap:Array Value) (w:World),(Instr.makeFunc fn first cap).run Tryz.prog w = .ok (.func fn first cap) w:=fun _ _ _ _=>rfl;have HE:=hX (fun W=>zdt 0 0 ⟨#[]⟩ t u none H none 0 0 nh ch 0 0 b 0 W);generalize zbh ⟨#[]⟩ t u 0 nh b 0 0=r at *;have HN:=hX (fun W=>zgc f W hf);generalize zbx f=nb at *;subst hk
 rcases (show ¬1≤op∨(1≤op∧¬op≤3)∨(1≤op∧op≤3∧¬nl=1)∨(1≤op∧op≤3∧nl=1∧¬nk=1)∨(1≤op∧op≤3∧nl=1∧nk=1) by omega) with g1 | ⟨g1,g2⟩ | ⟨g1,g2,g3⟩ | ⟨g1,g2,g3,g4⟩ | ⟨g1,g2,g3,g4⟩
 have k1:decide (1≤op)=false:=decide_eq_false (by omega);have hr:decide (1≤op∧op≤3∧nl=1∧nk=1)=false:=decide_eq_false (by omega);have HR:=hX hr;clear hr;rotate_left
 have k1:decide (1≤op)=true:=decide_eq_true (by omega);have k2:decide (op≤3)=false:=decide_eq_false (by omega);have hr:decide (1≤op∧op≤3∧nl=1∧nk=1)=false:=decide_eq_false (by omega);have HR:=hX hr;clear hr;rotate_left
 have k1:decide (1≤op)=true:=decide_eq_true (by omega);have k2:decide (op≤3)=true:=decide_eq_true (by omega);(have k3:((nl:Int) == 1)=false:=by rw[beq_eq_false_iff_ne];omega);have hr:decide (1≤op∧op≤3∧nl=1∧nk=1)=false:=decide_eq_false (by omega);have HR:=hX hr;clear hr;rotate_left
 have k1:decide (1≤op)=true:=decide_eq_true (by omega);have k2:decide (op≤3)=true:=decide_eq_true (by omega);(have k3:((nl:Int) == 1)=true:=by rw[g3];rfl);(have k4:((nk:Int) == 1)=false:=by rw[beq_eq_false_iff_ne];omega);have hr:decide (1≤op∧op≤3∧nl=1∧nk=1)=false:=decide_eq_false (by omega);have HR:=hX hr;clear hr;rotate_left
 ·have k1:decide (1≤op)=true:=decide_eq_true (by omega);have k2:decide (op≤3)=true:=decide_eq_true (by omega);have k3:((nl:Int) == 1)=true:=by rw[g3];rfl
  have k4:((nk:Int) == 1)=true:=by rw[g4];rfl
  skip;have hr:decide (1≤op∧op≤3∧nl=1∧nk=1)=true:=decide_eq_true (by omega);have HR:=hX hr;clear hr
  rcases ho with ⟨_,h1,h2,h3⟩ | ⟨_,h1,h2⟩
  subst h1;have d1:decide (oc<1)=false:=decide_eq_false (by omega);have d2:decide (4<oc)=false:=decide_eq_false (by omega);rotate_left
  subst h2;have d1:(under == 8)=false:=by simpa using h1
  have d2:(under != 8)=true:=by simpa using h1
  all_goals
   go_enter Tryz.func61,Tryz.ntmps61;go_wp2_with fail;refine (zr3 (w.heap.size+1) _ _ (zer w _ _ _) rfl).mono ?_;rintro e w1 ⟨rfl,rfl⟩;go_wp2_with fail;refine (HN.out _).mono ?_;rintro e V ⟨rfl,hb⟩;have HB:=hX (ydc rfl hb);obtain ⟨c0,c1,c2,c3,c4,c5,c6,c7,c8,c9⟩:=zlq ((zer w _ _ _).below hb (zer w _ _ _).lt);clear hb;cases nb
   ·go_wp2_with fail;go_ret;exact ⟨by rw[HR.out];simp,HB.out⟩
   ·go_wp2_with fail;refine (HE.out _).mono ?_;rintro e V2 ⟨rfl,hb⟩;have HB2:=hX (HB.out.trans (hb.mono HB.out.size));clear hb c0 c1 c2 c3 c4 c5 c6 c7 c8 c9;go_wp2_with fail;go_ret;exact ⟨by rw[HR.out];simp,HB2.out⟩
 all_goals
  rcases ho with ⟨_,h1,h2,h3⟩ | ⟨_,h1,h2⟩
  subst h1;have d1:decide (oc<1)=false:=decide_eq_false (by omega);have d2:decide (4<oc)=false:=decide_eq_false (by omega);rotate_left
  subst h2;have d1:(under == 8)=false:=by simpa using h1
  have d2:(under != 8)=true:=by simpa using h1
  all_goals
   go_enter Tryz.func61,Tryz.ntmps61;go_wp2_with fail;refine (zr3 (w.heap.size+1) _ _ (zer w _ _ _) rfl).mono ?_;rintro e w1 ⟨rfl,rfl⟩;go_wp2_with fail;go_ret;exact ⟨by rw[HR.out];simp,((Below.refl _ w).alloc (Nat.le_refl _) _).alloc (by simp) _⟩
theorem yd6 (ho:(zfi under oc=true∧under=8∧1≤oc∧oc≤4)∨(zfi under oc=true∧¬under=8∧oc=0)) (hk:kd<1∨10<kd) :
 Calls Tryz.prog 61 #[.agg #[.int .i64 kd,.int .i64 oc,.string f,.string t,.string u,.slice L nl cl,.slice H nh ch,.int .i64 b,.int .i64 op,.slice K nk ck],.int .i64 under] w (ze2 (false) w):=by
 have hmf:∀(fn:Fn) (first cap:Array Value) (w:World),(Instr.makeFunc fn first cap).run Tryz.prog w = .ok (.func fn first cap) w:=fun _ _ _ _=>rfl
 ·have e1:(kd == 1)=false:=by rw[beq_eq_false_iff_ne];omega
  have e2:(kd == 2)=false:=by rw[beq_eq_false_iff_ne];omega
  have e3:(kd == 3)=false:=by rw[beq_eq_false_iff_ne];omega
  have e4:(kd == 4)=false:=by rw[beq_eq_false_iff_ne];omega
  have e5:(kd == 5)=false:=by rw[beq_eq_false_iff_ne];omega
  have e6:(kd == 6)=false:=by rw[beq_eq_false_iff_ne];omega
  have e7:(kd == 7)=false:=by rw[beq_eq_false_iff_ne];omega
  have e8:(kd == 8)=false:=by rw[beq_eq_false_iff_ne];omega
  have e9:(kd == 9)=false:=by rw[beq_eq_false_iff_ne];omega
  have e10:(kd == 10)=false:=by rw[beq_eq_false_iff_ne];omega
  rcases ho with ⟨_,h1,h2,h3⟩ | ⟨_,h1,h2⟩
  subst h1;have d1:decide (oc<1)=false:=decide_eq_false (by omega);have d2:decide (4<oc)=false:=decide_eq_false (by omega);rotate_left
  subst h2;have d1:(under == 8)=false:=by simpa using h1
  have d2:(under != 8)=true:=by simpa using h1
  all_goals
   go_enter Tryz.func61,Tryz.ntmps61;go_wp2_with fail;go_ret;exact ⟨rfl,((Below.refl _ w).alloc (Nat.le_refl _) _).alloc (by simp) _⟩
end
end Go.Proofs.YtplkbdncgkgppaaGreatDoor.Qry
end
section
namespace Go.Proofs.YtplkbdncgkgppaaGreatDoor.Qry
open Go.RowKit Words Tree QryP Kit Sch SchP
theorem zr4:(⟨#[]⟩:ByteArray)=ByteArray.empty:=rfl
section
variable {k oc:Int} {f t u:ByteArray} {lo hi:List Int} {b op under:Int} {ks:List QT}
theorem zdf:zja (.mk k oc f t u lo hi b op ks) under=((zfi under oc && decide (1≤k∧k≤10)) && (if 3≤k∧k≤7∨k=10 then zbx f else decide (f.size=0))
 && (decide (3≤k∧k≤6) || decide (t.size=0)) && (decide (k=6) || decide (u.size=0))
 && (if k=7 then decide (1≤lo.length∧lo.length≤4∧hi.length=lo.length) else if k=10 then decide (lo.length=1∧hi.length=0) else decide (lo.length=0∧hi.length=0))
 && (if k=9 then decide (0≤b∧b≤1048576) else decide (b=0))
 && (if k=10 then decide (1≤op∧op≤3) else decide (op=0))
 && (if k=9∨k=10 then decide (ks.length=1) else decide (k=8) || decide (ks.length=0))):=rfl
theorem yb8 (h:zfi under oc=false):zja (.mk k oc f t u lo hi b op ks) under=false:=by rw[zdf,h];simp
theorem yb9 (h:k<1∨10<k):zja (.mk k oc f t u lo hi b op ks) under=false:=by rw[zdf,decide_eq_false (by omega)];simp
theorem zy6 (h:zfi under oc=true) (hk:k=1∨k=2):zja (.mk k oc f t u lo hi b op ks) under=zbh f t u lo.length hi.length b op ks.length:=by
 rw[zdf,h,Bool.eq_iff_iff];rcases hk with rfl | rfl <;> simp[zbh] <;> intros <;> constructor <;> intro h <;> simp_all
theorem zvu (h:zfi under oc=true) (hk:k=3∨k=4∨k=5):zja (.mk k oc f t u lo hi b op ks) under=(zbx f && zbh ⟨#[]⟩ ⟨#[]⟩ u lo.length hi.length b op ks.length):=by
 rw[zdf,h,Bool.eq_iff_iff];rcases hk with rfl | rfl | rfl <;> simp[zbh,zr4] <;> intros <;> constructor <;> intro h <;> simp_all
theorem yca (h:zfi under oc=true) (hk:k=6):zja (.mk k oc f t u lo hi b op ks) under=(zbx f && zbh ⟨#[]⟩ ⟨#[]⟩ ⟨#[]⟩ lo.length hi.length b op ks.length):=by
 rw[zdf,h,Bool.eq_iff_iff];subst hk;simp[zbh,zr4] <;> intros <;> constructor <;> intro h <;> simp_all
theorem ycb (h:zfi under oc=true) (hk:k=7):zja (.mk k oc f t u lo hi b op ks) under=(decide (1≤lo.length∧lo.length≤4∧hi.length=lo.length) && zbx f && zbh ⟨#[]⟩ t u 0 0 b op ks.length):=by
 rw[zdf,h,Bool.eq_iff_iff];subst hk;simp[zbh,zr4] <;> intros <;> constructor <;> intro h <;> simp_all
theorem ycc (h:zfi under oc=true) (hk:k=8):zja (.mk k oc f t u lo hi b op ks) under=zbh f t u lo.length hi.length b op 0:=by
 rw[zdf,h,Bool.eq_iff_iff];subst hk;simp[zbh] <;> intros <;> constructor <;> intro h <;> simp_all
theorem ycd (h:zfi under oc=true) (hk:k=9):zja (.mk k oc f t u lo hi b op ks) under=(decide (0≤b∧b≤1048576∧ks.length=1) && zbh f t u lo.length hi.length 0 op 0):=by
 rw[zdf,h,Bool.eq_iff_iff];subst hk;simp[zbh] <;> intros <;> constructor <;> intro h <;> simp_all
theorem zy7 (h:zfi under oc=true) (hk:k=10):zja (.mk k oc f t u lo hi b op ks) under=(decide (1≤op∧op≤3∧lo.length=1∧ks.length=1) && zbx f && zbh ⟨#[]⟩ t u 0 hi.length b 0 0):=by
 rw[zdf,h,Bool.eq_iff_iff];subst hk;simp[zbh,zr4] <;> intros <;> constructor <;> intro h <;> simp_all
end
theorem zvv (k oc:Int) (f t u:ByteArray) (lo hi:List Int) (b op:Int) (ks:List QT) (L H K:Option Addr) (cl ch ck:Nat) (under:Int) (w:World) (hf:f.size≤140737488351232) :
 Calls Tryz.prog 61 #[.agg #[.int .i64 k,.int .i64 oc,.string f,.string t,.string u,.slice L lo.length cl,.slice H hi.length ch,.int .i64 b,.int .i64 op,.slice K ks.length ck],.int .i64 under] w (ze2 (zja (.mk k oc f t u lo hi b op ks) under) w):=by
 have ho:=zj8 under oc;by_cases h:zfi under oc=true
 ·have h':=h;rw[h] at ho
  have key:(zfi under oc=true∧under=8∧1≤oc∧oc≤4)∨(zfi under oc=true∧¬under=8∧oc=0):=by
   rcases ho with h1 | h1 | ⟨h1,_⟩ | ⟨h1,_⟩ | ⟨h1,_⟩
   ·exact .inl ⟨h,h1.2⟩
   ·exact .inr ⟨h,h1.2⟩
   all_goals cases h1
  have hk:(k<1∨10<k)∨(k=1∨k=2)∨(k=3∨k=4∨k=5)∨k=6∨k=7∨k=8∨k=9∨k=10:=by omega
  rcases hk with hk | hk | hk | hk | hk | hk | hk | hk
  ·rw[yb9 hk];exact yd6 k oc f t u L H K _ cl _ ch _ ck b op under w key hk
  ·rw[zy6 h hk];exact yd2 k oc f t u L H K _ cl _ ch _ ck b op under w h hk
  ·rw[zvu h hk];exact yb5 k oc f t u L H K _ cl _ ch _ ck b op under w key hk hf
  ·rw[yca h hk];exact yfm k oc f t u L H K _ cl _ ch _ ck b op under w key hk hf
  ·rw[ycb h hk];exact yft k oc f t u L H K _ cl _ ch _ ck b op under w key hk hf
  ·rw[ycc h hk];exact yfn k oc f t u L H K _ cl _ ch _ ck b op under w key hk
  ·rw[ycd h hk];exact yfu k oc f t u L H K _ cl _ ch _ ck b op under w key hk
  ·rw[zy7 h hk];exact yd5 k oc f t u L H K _ cl _ ch _ ck b op under w key hk hf
 ·have h0:zfi under oc=false:=by simpa using h
  rw[yb8 h0];exact yb4 k oc f t u L H K _ cl _ ch _ ck b op under w h0
end Go.Proofs.YtplkbdncgkgppaaGreatDoor.Qry
end
section
namespace Go.Proofs.YtplkbdncgkgppaaGreatDoor.Qry
open Go.RowKit Words Tree QryP Kit Sch
def ygr (b:Bool) (w:World) (e:Ending) (w':World):Prop:=∃z:Int,e = .returned (.int .i64 z)∧decide (0≤z)=b∧-9223372036854775808≤z∧z≤9223372036854775807∧Below w.heap.size w w'
theorem zs9 (kd:Int) (ks:List QT) (A:Option Addr) (cA:Nat) (G B:Nat) (w:World) (hk:T.At bare w (fun g=>g<w.heap.size) (.arr 10 ks.length (zaw ks)) (.slice A ks.length cA))
 (HK:∀k∈ks,∀us W,Below w.heap.size w W→T.AtL bare W (fun g=>g<W.heap.size) (cells k) us→Calls Tryz.prog 85 #[.agg us.toArray,.pointer (some ⟨G,0,none⟩),.pointer (some ⟨B,0,none⟩)] W (ze2 (!zba kd k) W)) :
 Calls Tryz.prog 128 #[.slice A ks.length cA,.func (.func 85) #[] #[.pointer (some ⟨G,0,none⟩),.pointer (some ⟨B,0,none⟩)]] w (ygr (!za5 kd ks) w):=by
 obtain ⟨_,_,he,hcA,hmA,hel⟩:=zc9 hk;injection he with e1 _ e3;subst e1 e3;have EL:=hX hel;have HK:=hX HK;have hkm:ks.length≤9223372036854775807:=by unfold maxLen at hmA;omega
 obtain ⟨r,hr⟩:∃r,za5 kd ks=r:=⟨_,rfl⟩
 have H0:Hid (za5 kd (ks.drop 0)=r):=hX hr;rw[hr];clear hr hk hel;go_enter Tryz.func128,Tryz.ntmps128;go_wp2_with fail;go_loopw [5,8] (fun _ i wr=>∃k:Nat,k≤ks.length∧i = .int .i64 k∧Hid (za5 kd (ks.drop k)=r)∧Hid (Below w.heap.size w wr)) (fun _ i _=>ks.length - (intOf i).toNat);case atStart=>exact ⟨0,by omega,rfl,H0,hX (Below.refl _ _)⟩
 case round=>
  obtain ⟨k,hk,rfl,HE,HB⟩:=hrel;by_cases hlt:k<ks.length
  ·have hlt2:(k:Int)<(ks.length:Int):=by omega
   obtain ⟨ad,us,rfl,hba,au,lu,cu⟩:=EL.out k hlt;replace cu:=cu.keep (w':=wr) (fun p hp=>HB.out.cell (by rw[hp,zab];exact hba));have HAU:=hX (HK.out ks[k] (List.getElem_mem _) us wr HB.out (zch au HB.out));have HD:=hX (znp (u:=kd) hlt);generalize hq:ks[k]=q at *;obtain ⟨kd',oc',f',t',u',lo',hi',b',op',ks'⟩:=q;obtain ⟨vl,vh,vk,rfl,hl,hh,hkk⟩:=zal au;obtain ⟨B1,d1,rfl,_⟩:=zau hl;obtain ⟨B2,d2,rfl,_⟩:=zau hh;obtain ⟨B3,d3,rfl⟩:=zms hkk;obtain ⟨a0,a1,a2,a3,a4,a5,a6,a7,a8,a9⟩:=ten cu;clear hq au hl hh hkk cu lu
   obtain ⟨p,hp⟩:∃p,zba kd (.mk kd' oc' f' t' u' lo' hi' b' op' ks')=p:=⟨_,rfl⟩
   rw[hp] at HAU HD;clear hp;go_wp2_with fail;refine HAU.out.mono ?_;rintro e w2 ⟨rfl,hb⟩;have HB2:=hX (HB.out.trans (hb.mono HB.out.size));clear hb a0 a1 a2 a3 a4 a5 a6 a7 a8 a9 HAU
   cases p with
   | false=>
    have HR:Hid (r=false):=hX (by rw[←HE.out,HD.out];rfl);go_wp2_with fail;go_ret;exact ⟨k,rfl,by rw[HR.out];exact decide_eq_true (by omega),by omega,by omega,HB2.out⟩
   | true=>
    have HE2:Hid (za5 kd (ks.drop (k+1))=r):=hX (by rw[←HE.out,HD.out];rfl);go_wp2_with fail;go_roundw;case rel=>exact ⟨k+1,by omega,by go_num,HE2,HB2⟩
    case measure=>simp[intOf];omega
  ·obtain rfl:k=ks.length:=by omega
   have HR:Hid (r=true):=hX (by rw[←HE.out,List.drop_length];rfl);go_wp2_with fail;go_ret;exact ⟨-1,rfl,by rw[HR.out];rfl,by omega,by omega,HB.out⟩
theorem zmt (kd:Int) (ks:List QT) (A:Option Addr) (cA:Nat) (G B:Nat) (w:World) (hk:T.At bare w (fun g=>g<w.heap.size) (.arr 10 ks.length (zaw ks)) (.slice A ks.length cA))
 (HK:∀k∈ks,∀us W,Below w.heap.size w W→T.AtL bare W (fun g=>g<W.heap.size) (cells k) us→Calls Tryz.prog 85 #[.agg us.toArray,.pointer (some ⟨G,0,none⟩),.pointer (some ⟨B,0,none⟩)] W (ze2 (!zba kd k) W)) :
 Calls Tryz.prog 84 #[.slice A ks.length cA,.func (.func 85) #[] #[.pointer (some ⟨G,0,none⟩),.pointer (some ⟨B,0,none⟩)]] w (ze2 (!za5 kd ks) w):=by
 have HI:=hX (zs9 kd ks A cA G B w hk HK);clear hk HK;generalize (!za5 kd ks)=r at *;go_enter Tryz.func84,Tryz.ntmps84;go_wp2_with fail;refine HI.out.mono ?_;rintro e w2 ⟨z,rfl,hz,hz1,hz2,hb⟩;have HZ:=hX hz;have HB:=hX hb;clear hz hb;go_wp2_with fail;go_ret;exact ⟨by show Ending.returned (.bool (decide (0≤z)))=_;rw[HZ.out],HB.out⟩
theorem zr5:∀(n:Nat) (q:QT) (vs:List Value) (under:Int) (G:Nat) (w:World),q.sz≤n→Ok q→T.AtL bare w (fun g=>g<w.heap.size) (cells q) vs→w.cell? ⟨G,0,none⟩=some (.func (.func 83) #[] #[.pointer (some ⟨G,0,none⟩)])→G<w.heap.size→
 Calls Tryz.prog 83 #[.agg vs.toArray,.int .i64 under,.pointer (some ⟨G,0,none⟩)] w (ze2 (zba under q) w)
 | n,.mk kd oc f t u lo hi b op ks,vs,under,G,w,hn,hok,ha,hG,hGl=>by
  have hn1:1≤n:=by have:=QT.sz_pos (.mk kd oc f t u lo hi b op ks);omega
  cases hok with
  | mk hkd hoc hf ht hu hlo hhi hb hop hks hkk=>
  have IH:=hX (fun (k:QT) (hk:k∈ks) (us:List Value) (un:Int) (W:World) (hW:Below w.heap.size w W) (hu:T.AtL bare W (fun g=>g<W.heap.size) (cells k) us)=>zr5 (n - 1) k us un G W (by have:=QT.sz_kid (kd:=kd) (oc:=oc) (f:=f) (t:=t) (u:=u) (lo:=lo) (hi:=hi) (b:=b) (op:=op) hk;omega) (hkk k hk) hu ((hW.cell (p:=⟨G,0,none⟩) hGl).trans hG) (Nat.lt_of_lt_of_le hGl hW.size));have HG:=hX (fun (W:World) (hW:Below w.heap.size w W)=>(hW.cell (p:=⟨G,0,none⟩) hGl).trans hG);obtain ⟨vl,vh,vk,rfl,hl,hh,hk⟩:=zal ha;obtain ⟨A1,c1,rfl,_⟩:=zau hl;obtain ⟨A2,c2,rfl,_⟩:=zau hh;obtain ⟨A,cA,rfl⟩:=zms hk;have HKK:=hX hk;have HO:=hX (fun W=>zvv kd oc f t u lo hi b op ks A1 A2 A c1 c2 cA under W hf);have HF:=hX (zfx under (.mk kd oc f t u lo hi b op ks));have hmf:∀(fn:Fn) (first cap:Array Value) (w:World),(Instr.makeFunc fn first cap).run Tryz.prog w = .ok (.func fn first cap) w:=fun _ _ _ _=>rfl
  have HC:Hid (∀W,Below (w.heap.size+1) (w.alloc (.cells #[.int .i64 kd,.int .i64 oc,.string f,.string t,.string u,.slice A1 lo.length c1,.slice A2 hi.length c2,.int .i64 b,.int .i64 op,.slice A ks.length cA] 28)) W→∀k∈ks,∀us,T.AtL bare W (fun g=>g<W.heap.size) (cells k) us→
   Calls Tryz.prog 85 #[.agg us.toArray,.pointer (some ⟨G,0,none⟩),.pointer (some ⟨w.heap.size,0,none⟩)] W (ze2 (!zba kd k) W)):=hX (by
   intro W hW k hk us hu;have hwW:Below w.heap.size w W:=((Below.refl _ w).alloc (Nat.le_refl _) _).trans (hW.mono (by omega));have cG:W.cell? ⟨G,0,none⟩=some (.func (.func 83) #[] #[.pointer (some ⟨G,0,none⟩)]):=HG.out W hwW;have cK:W.cell? ⟨w.heap.size,0,none⟩=some (.int .i64 kd):=((Blk.new w _ _).below hW (by simp)).cell 0;have hne:G≠W.heap.size:=by have:=hwW.size;omega
   have hlG:G<W.heap.size:=by have:=hwW.size;omega
   have hlK:w.heap.size<W.heap.size:=by have:=hW.size;simp at this;omega
   have hne2:w.heap.size≠W.heap.size:=by have:=hW.size;simp at this;omega
   have HI:=hX (IH.out k hk us kd (W.alloc (.cells us.toArray 28)) (hwW.alloc hwW.size _) (zch hu ((Below.refl _ _).alloc (Nat.le_refl _) _)));obtain ⟨kd',oc',f',t',u',lo',hi',b',op',ks'⟩:=k;obtain ⟨vl,vh,vk,rfl,hl,hh,hkk⟩:=zal hu;obtain ⟨B1,d1,rfl,_⟩:=zau hl;obtain ⟨B2,d2,rfl,_⟩:=zau hh;obtain ⟨B3,d3,rfl⟩:=zms hkk;clear hl hh hkk hu hk hwW;generalize zba kd (.mk kd' oc' f' t' u' lo' hi' b' op' ks')=r at *;go_enter Tryz.func85,Tryz.ntmps85;go_wp2_with fail;refine HI.out.mono ?_;rintro e w2 ⟨rfl,hb⟩;have HB:=hX (((Below.refl _ W).alloc (Nat.le_refl _) _).trans (hb.mono (by simp)));clear hb;go_wp2_with fail;go_ret
   exact ⟨rfl,HB.out⟩)
  clear ha hl hh hk hG IH HG hkk hkd hoc ht hu hlo hhi hb hop hks hf;rw[HF.out]
  obtain ⟨p,hp⟩:∃p,zja (.mk kd oc f t u lo hi b op ks) under=p:=⟨_,rfl⟩
  rw[hp] at HO ⊢;show Calls _ _ _ _ (ze2 (p && za5 kd ks) w);clear hp;go_enter Tryz.func83,Tryz.ntmps83;go_wp2_with fail;refine (HO.out _).mono ?_;rintro e w2 ⟨rfl,hb⟩;have HB:=hX hb;have HBw:=hX (((Below.refl _ w).alloc (Nat.le_refl _) _).trans (hb.mono (by simp)));have q9:w2.cell? ⟨w.heap.size,9,none⟩=some (.slice A ks.length cA):=((Blk.new w _ _).below hb (by simp)).cell 9;clear hb
  cases p with
  | false=>
   go_wp2_with fail;go_ret;exact ⟨rfl,HBw.out⟩
  | true=>
   have HCK:=hX (zmt kd ks A cA G w.heap.size w2 (At.below HKK.out HBw.out (fun g hg=>Nat.lt_of_lt_of_le hg HBw.out.size)) (fun k hk us W hW hu=>HC.out W (by
    have:=HB.out;simp only[World.size_alloc] at this
    exact this.trans (hW.mono (by have:=this.size;simp at this;omega))) k hk us hu))
   generalize za5 kd ks=r at *;go_wp2_with fail;refine HCK.out.mono ?_;rintro e w3 ⟨rfl,hb⟩;have HB3:=hX (HBw.out.trans (hb.mono HBw.out.size));clear hb q9;go_wp2_with fail;go_ret;exact ⟨by simp,HB3.out⟩
theorem zta (q:QT) (vs:List Value) (w:World) (hok:Ok q) (ha:T.AtL bare w (fun g=>g<w.heap.size) (cells q) vs):Calls Tryz.prog 54 #[.agg vs.toArray] w (ze2 (zba 0 q) w):=by
 have hmf:∀(fn:Fn) (first cap:Array Value) (w:World),(Instr.makeFunc fn first cap).run Tryz.prog w = .ok (.func fn first cap) w:=fun _ _ _ _=>rfl
 have hdn:∀W,Below w.heap.size w W→W.cell? ⟨w.heap.size+1,0,none⟩=some (.func (.func 83) #[] #[.pointer (some ⟨w.heap.size+1,0,none⟩)])→w.heap.size+1<W.heap.size→Calls Tryz.prog 83 #[.agg vs.toArray,.int .i64 0,.pointer (some ⟨w.heap.size+1,0,none⟩)] W (ze2 (zba 0 q) W):=
  fun W hW h1 h2=>zr5 q.sz q vs 0 (w.heap.size+1) W (Nat.le_refl _) hok (zch ha hW) h1 h2
 have HD:=hX hdn;clear hdn;obtain ⟨kd,oc,f,t,u,lo,hi,b,op,ks⟩:=q;obtain ⟨vl,vh,vk,rfl,hl,hh,hk⟩:=zal ha;obtain ⟨A1,c1,rfl,_⟩:=zau hl;obtain ⟨A2,c2,rfl,_⟩:=zau hh;obtain ⟨A,cA,rfl⟩:=zms hk;clear ha hl hh hk hok;generalize zba 0 (.mk kd oc f t u lo hi b op ks)=r at *;go_enter Tryz.func54,Tryz.ntmps54;go_wp2_with fail;have hb0:∀o1 o2,Below w.heap.size w ((w.alloc o1).alloc o2):=fun o1 o2=>((Below.refl _ w).alloc (Nat.le_refl _) _).alloc (by simp) _;refine (HD.out _ (hb0 _ _) ?k1 ?k2).mono ?_;case k1=>go_simp
 case k2=>simp
 rintro e w2 ⟨rfl,hb⟩;have HB:=hX ((hb0 _ _).trans (hb.mono (by simp;omega)));clear hb hb0;go_wp2_with fail;go_ret;exact ⟨rfl,HB.out⟩
end Go.Proofs.YtplkbdncgkgppaaGreatDoor.Qry
end
