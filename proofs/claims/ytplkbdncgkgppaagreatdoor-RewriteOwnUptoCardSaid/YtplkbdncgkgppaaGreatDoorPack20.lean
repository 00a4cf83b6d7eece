/- Lemmas that the last text leans on. -/
import Derived.Test.YtplkbdncgkgppaaGreatDoorTake
import Derived.Test.YtplkbdncgkgppaaGreatDoorPack19
import Derived.LoopTactic
set_option linter.all false
set_option maxRecDepth 100000
set_option maxHeartbeats 16000000
section
namespace Go.Proofs.YtplkbdncgkgppaaGreatDoor.Qry
open Go.RowKit Words Tree QryP Kit Sch
def yb3 (W:World) (e:Ending) (w':World):Prop:=e = .returned (.tuple #[])∧w'=W
theorem zr3 (R:Nat) (cs:Array Value) (w:World) (hb:Blk w R 28 cs) (hc:cs.size=10) :
 Calls Tryz.prog 104 #[.slice none 0 0,.pointer (some ⟨R,0,none⟩)] w (yb3 (w.setCell ⟨R,2,none⟩ (.string ⟨#[]⟩))):=by
 have f2:w.frozen? ⟨R,2,none⟩=false:=hb.frozen 2
 have c2:∃v,w.cell? ⟨R,2,none⟩=some v:=⟨_,(hb.cell 2).trans (Array.getElem?_eq_getElem (by omega))⟩
 obtain ⟨v,c2⟩:=c2;clear hb;go_enter Tryz.func104,Tryz.ntmps104;go_wp2_with fail;go_loopw [8] (fun i wr=>i = .int .i64 0∧wr=w.setCell ⟨R,2,none⟩ (.string ⟨#[]⟩)) (fun i _=>0);case atStart=>exact ⟨rfl,rfl⟩
 case round=>
  obtain ⟨rfl,rfl⟩:=hrel;go_wp2_with fail;go_end0;exact ⟨rfl,rfl⟩
theorem yd0 (R g:Nat) (cs:Array Value) (w:World) (hb:Blk w R 28 cs) (hc:cs.size=10) (hp:w.cell? ⟨g,0,none⟩=some (.pointer (some ⟨R,3,none⟩))) (hg:g≠R) :
 Calls Tryz.prog 104 #[.slice (some ⟨g,0,none⟩) 1 1,.pointer (some ⟨R,0,none⟩)] w (yb3 ((w.setCell ⟨R,2,none⟩ (.string ⟨#[]⟩)).setCell ⟨R,3,none⟩ (.string ⟨#[]⟩))):=by
 have f2:w.frozen? ⟨R,2,none⟩=false:=hb.frozen 2;have hb2:=hb.set_ 2 (.string ⟨#[]⟩);have f3:(w.setCell ⟨R,2,none⟩ (.string ⟨#[]⟩)).frozen? ⟨R,3,none⟩=false:=hb2.frozen 3
 obtain ⟨v,c2⟩:∃v,w.cell? ⟨R,2,none⟩=some v:=⟨_,(hb.cell 2).trans (Array.getElem?_eq_getElem (by omega))⟩
 obtain ⟨v3,c3⟩:∃v,(w.setCell ⟨R,2,none⟩ (.string ⟨#[]⟩)).cell? ⟨R,3,none⟩=some v:=⟨_,(hb2.cell 3).trans (Array.getElem?_eq_getElem (by simp;omega))⟩
 have hp1:(w.setCell ⟨R,2,none⟩ (.string ⟨#[]⟩)).cell? ⟨g,0,none⟩=some (.pointer (some ⟨R,3,none⟩)):=(World.cell?_of_block (Below.heap_setCell _ _ _ _ hg)).trans hp;clear hb hp hb2;go_enter Tryz.func104,Tryz.ntmps104;go_wp2_with fail;generalize w.setCell ⟨R,2,none⟩ (.string ⟨#[]⟩)=W at *;go_loopw [8] (fun i wr=>∃k:Nat,k≤1∧i = .int .i64 k∧(k=0∧wr=W∨k=1∧wr=W.setCell ⟨R,3,none⟩ (.string ⟨#[]⟩))) (fun i _=>1 - (intOf i).toNat);case atStart=>exact ⟨0,by omega,rfl,.inl ⟨rfl,rfl⟩⟩
 case round=>
  obtain ⟨k,hk,rfl,⟨rfl,rfl⟩ | ⟨rfl,rfl⟩⟩:=hrel
  ·go_wp2_with fail;go_roundw;case rel=>exact ⟨1,by omega,by go_num,by simp⟩
   case measure=>simp[intOf]
  ·go_wp2_with fail;go_end0;exact ⟨rfl,rfl⟩
theorem yd1 (R g:Nat) (cs:Array Value) (w:World) (hb:Blk w R 28 cs) (hc:cs.size=10) (hp:w.cell? ⟨g,0,none⟩=some (.pointer (some ⟨R,3,none⟩))) (hq:w.cell? ⟨g,1,none⟩=some (.pointer (some ⟨R,4,none⟩))) (hg:g≠R) :
 Calls Tryz.prog 104 #[.slice (some ⟨g,0,none⟩) 2 2,.pointer (some ⟨R,0,none⟩)] w (yb3 (((w.setCell ⟨R,2,none⟩ (.string ⟨#[]⟩)).setCell ⟨R,3,none⟩ (.string ⟨#[]⟩)).setCell ⟨R,4,none⟩ (.string ⟨#[]⟩))):=by
 have f2:w.frozen? ⟨R,2,none⟩=false:=hb.frozen 2;have hb2:=hb.set_ 2 (.string ⟨#[]⟩);have hb3:=hb2.set_ 3 (.string ⟨#[]⟩);have f3:(w.setCell ⟨R,2,none⟩ (.string ⟨#[]⟩)).frozen? ⟨R,3,none⟩=false:=hb2.frozen 3;have f4:((w.setCell ⟨R,2,none⟩ (.string ⟨#[]⟩)).setCell ⟨R,3,none⟩ (.string ⟨#[]⟩)).frozen? ⟨R,4,none⟩=false:=hb3.frozen 4
 obtain ⟨v,c2⟩:∃v,w.cell? ⟨R,2,none⟩=some v:=⟨_,(hb.cell 2).trans (Array.getElem?_eq_getElem (by omega))⟩
 obtain ⟨v3,c3⟩:∃v,(w.setCell ⟨R,2,none⟩ (.string ⟨#[]⟩)).cell? ⟨R,3,none⟩=some v:=⟨_,(hb2.cell 3).trans (Array.getElem?_eq_getElem (by simp;omega))⟩
 obtain ⟨v4,c4⟩:∃v,((w.setCell ⟨R,2,none⟩ (.string ⟨#[]⟩)).setCell ⟨R,3,none⟩ (.string ⟨#[]⟩)).cell? ⟨R,4,none⟩=some v:=⟨_,(hb3.cell 4).trans (Array.getElem?_eq_getElem (by simp;omega))⟩
 have hp1:(w.setCell ⟨R,2,none⟩ (.string ⟨#[]⟩)).cell? ⟨g,0,none⟩=some (.pointer (some ⟨R,3,none⟩)):=(World.cell?_of_block (Below.heap_setCell _ _ _ _ hg)).trans hp;have hq1:((w.setCell ⟨R,2,none⟩ (.string ⟨#[]⟩)).setCell ⟨R,3,none⟩ (.string ⟨#[]⟩)).cell? ⟨g,1,none⟩=some (.pointer (some ⟨R,4,none⟩)):=(World.cell?_of_block (by rw[Below.heap_setCell _ _ _ _ hg,Below.heap_setCell _ _ _ _ hg])).trans hq;clear hb hp hq hb2 hb3;go_enter Tryz.func104,Tryz.ntmps104;go_wp2_with fail;generalize w.setCell ⟨R,2,none⟩ (.string ⟨#[]⟩)=W at *;generalize hV:W.setCell ⟨R,3,none⟩ (.string ⟨#[]⟩)=V at *;have HV:=hX hV;clear hV;go_loopw [8] (fun i wr=>∃k:Nat,k≤2∧i = .int .i64 k∧(k=0∧wr=W∨k=1∧wr=V∨k=2∧wr=V.setCell ⟨R,4,none⟩ (.string ⟨#[]⟩))) (fun i _=>2 - (intOf i).toNat);case atStart=>exact ⟨0,by omega,rfl,.inl ⟨rfl,rfl⟩⟩
 case round=>
  obtain ⟨k,hk,rfl,⟨rfl,rfl⟩ | ⟨rfl,rfl⟩ | ⟨rfl,rfl⟩⟩:=hrel
  ·go_wp2_with fail;go_roundw;case rel=>exact ⟨1,by omega,by go_num,by simpa using HV.out⟩
   case measure=>simp[intOf]
  ·go_wp2_with fail;go_roundw;case rel=>exact ⟨2,by omega,by go_num,by simp⟩
   case measure=>simp[intOf]
  ·go_wp2_with fail;go_end0;exact ⟨rfl,rfl⟩
end Go.Proofs.YtplkbdncgkgppaaGreatDoor.Qry
end
section
namespace Go.Proofs.YtplkbdncgkgppaaGreatDoor.Qry
open Go.RowKit Words Tree QryP Kit Sch
def zfi (under oc:Int):Bool:=if under=8 then decide (1≤oc∧oc≤4) else decide (oc=0)
theorem zj8 (under oc:Int):(zfi under oc=true∧under=8∧1≤oc∧oc≤4)∨(zfi under oc=true∧¬under=8∧oc=0)∨(zfi under oc=false∧under=8∧oc<1)∨(zfi under oc=false∧under=8∧4<oc)∨(zfi under oc=false∧¬under=8∧¬oc=0):=by
 unfold zfi;by_cases h:under=8
 ·rw[if_pos h];by_cases h1:1≤oc
  ·by_cases h2:oc≤4
   ·exact .inl ⟨decide_eq_true ⟨h1,h2⟩,h,h1,h2⟩
   ·exact .inr (.inr (.inr (.inl ⟨decide_eq_false (fun x=>h2 x.2),h,by omega⟩)))
  ·exact .inr (.inr (.inl ⟨decide_eq_false (fun x=>h1 x.1),h,by omega⟩))
 ·rw[if_neg h];by_cases h1:oc=0
  ·exact .inr (.inl ⟨decide_eq_true h1,h,h1⟩)
  ·exact .inr (.inr (.inr (.inr ⟨decide_eq_false h1,h,h1⟩)))
theorem ydc {w W w':World} {o1 o2:Obj} (e:W=(w.alloc o1).alloc o2) (h:Below W.heap.size W w'):Below w.heap.size w w':=by
 subst e;exact (((Below.refl _ w).alloc (Nat.le_refl _) _).alloc (by simp) _).trans (h.mono (by simp;omega))
section
variable (kd oc:Int) (f t u:ByteArray) (L H K:Option Addr) (nl cl nh ch nk ck:Nat) (b op under:Int) (w:World)
theorem yb4 (ho:zfi under oc=false) :
 Calls Tryz.prog 61 #[.agg #[.int .i64 kd,.int .i64 oc,.string f,.string t,.string u,.slice L nl cl,.slice H nh ch,.int .i64 b,.int .i64 op,.slice K nk ck],.int .i64 under] w (ze2 false w):=by
 rcases zj8 under oc with ⟨h,_⟩ | ⟨h,_⟩ | ⟨_,h1,h2⟩ | ⟨_,h1,h2⟩ | ⟨_,h1,h2⟩
 ·rw[h] at ho;cases ho
 ·rw[h] at ho;cases ho
 ·subst h1;have d1:decide (oc<1)=true:=decide_eq_true h2;clear ho;go_enter Tryz.func61,Tryz.ntmps61;go_wp2_with fail;go_ret;exact ⟨rfl,(Below.refl _ w).alloc (Nat.le_refl _) _⟩
 ·subst h1;have d1:decide (oc<1)=false:=decide_eq_false (by omega);have d2:decide (4<oc)=true:=decide_eq_true h2;clear ho;go_enter Tryz.func61,Tryz.ntmps61;go_wp2_with fail;go_ret;exact ⟨rfl,(Below.refl _ w).alloc (Nat.le_refl _) _⟩
 ·have d1:(under == 8)=false:=by simpa using h1
  have d2:(under != 8)=true:=by simpa using h1
  have d3:(oc != 0)=true:=by simpa using h2
  clear ho;go_enter Tryz.func61,Tryz.ntmps61;go_wp2_with fail;go_ret;exact ⟨rfl,(Below.refl _ w).alloc (Nat.le_refl _) _⟩
theorem yd2 (ho:zfi under oc=true) (hk:kd=1∨kd=2) :
 Calls Tryz.prog 61 #[.agg #[.int .i64 kd,.int .i64 oc,.string f,.string t,.string u,.slice L nl cl,.slice H nh ch,.int .i64 b,.int .i64 op,.slice K nk ck],.int .i64 under] w (ze2 (zbh f t u nl nh b op nk) w):=by
 have hmf:∀(fn:Fn) (first cap:Array Value) (w:World),(Instr.makeFunc fn first cap).run Tryz.prog w = .ok (.func fn first cap) w:=fun _ _ _ _=>rfl;have HE:=hX (fun W=>zdt 0 0 f t u L H K nl cl nh ch nk ck b op W);generalize zbh f t u nl nh b op nk=r at *
 rcases zj8 under oc with ⟨_,h1,h2,h3⟩ | ⟨_,h1,h2⟩ | ⟨h,_⟩ | ⟨h,_⟩ | ⟨h,_⟩
 ·subst h1;have d1:decide (oc<1)=false:=decide_eq_false (by omega);have d2:decide (4<oc)=false:=decide_eq_false (by omega);clear ho;rcases hk with rfl | rfl
  all_goals
   go_enter Tryz.func61,Tryz.ntmps61;go_wp2_with fail;refine (HE.out _).mono ?_;rintro e w' ⟨rfl,hb⟩;have HB:=hX (ydc rfl hb);clear hb;go_wp2_with fail;go_ret;exact ⟨rfl,HB.out⟩
 ·subst h2;have d1:(under == 8)=false:=by simpa using h1
  have d2:(under != 8)=true:=by simpa using h1
  clear ho;rcases hk with rfl | rfl
  all_goals
   go_enter Tryz.func61,Tryz.ntmps61;go_wp2_with fail;refine (HE.out _).mono ?_;rintro e w' ⟨rfl,hb⟩;have HB:=hX (ydc rfl hb);clear hb;go_wp2_with fail;go_ret;exact ⟨rfl,HB.out⟩
 all_goals (rw[h] at ho;cases ho)
end
end Go.Proofs.YtplkbdncgkgppaaGreatDoor.Qry
end
section
namespace Go.Proofs.YtplkbdncgkgppaaGreatDoor.Qry
open Go.RowKit Words Tree QryP Kit Sch SchP
theorem zid (w:World) (o1:Obj) (cs ds:Array Value) (t t':TypeId):Blk (((w.alloc o1).alloc (.cells cs t)).alloc (.cells ds t')) (w.heap.size+1) t cs:=by
 have:=(Blk.new (w.alloc o1) t cs).alloc (.cells ds t');rwa [World.size_alloc] at this
theorem zer (w:World) (o1:Obj) (cs:Array Value) (t:TypeId):Blk ((w.alloc o1).alloc (.cells cs t)) (w.heap.size+1) t cs:=by
 have:=Blk.new (w.alloc o1) t cs;rwa [World.size_alloc] at this
theorem ygh {w W w':World} {o1 o2 o3:Obj} (e:W=((w.alloc o1).alloc o2).alloc o3) (h:Below W.heap.size W w'):Below w.heap.size w w':=by
 subst e;exact ((((Below.refl _ w).alloc (Nat.le_refl _) _).alloc (by simp) _).alloc (by simp;omega) _).trans (h.mono (by simp;omega))
theorem zlq {w:World} {g:Nat} {t:TypeId} {v0 v1 v2 v3 v4 v5 v6 v7 v8 v9:Value} (h:Blk w g t #[v0,v1,v2,v3,v4,v5,v6,v7,v8,v9]) :
 w.cell? ⟨g,0,none⟩=some v0∧w.cell? ⟨g,1,none⟩=some v1∧w.cell? ⟨g,2,none⟩=some v2∧w.cell? ⟨g,3,none⟩=some v3∧w.cell? ⟨g,4,none⟩=some v4∧w.cell? ⟨g,5,none⟩=some v5∧w.cell? ⟨g,6,none⟩=some v6∧w.cell? ⟨g,7,none⟩=some v7∧w.cell? ⟨g,8,none⟩=some v8∧w.cell? ⟨g,9,none⟩=some v9:=
 ⟨h.cell 0,h.cell 1,h.cell 2,h.cell 3,h.cell 4,h.cell 5,h.cell 6,h.cell 7,h.cell 8,h.cell 9⟩
section
variable (kd oc:Int) (f t u:ByteArray) (L H K:Option Addr) (nl cl nh ch nk ck:Nat) (b op under:Int) (w:World)
theorem yb5 (ho:(zfi under oc=true∧under=8∧1≤oc∧oc≤4)∨(zfi under oc=true∧¬under=8∧oc=0)) (hk:kd=3∨kd=4∨kd=5) (hf:f.size≤140737488351232) :
 Calls Tryz.prog 61 #[.agg #[.int .i64 kd,.int .i64 oc,.string f,.string t,.string u,.slice L nl cl,.slice H nh ch,.int .i64 b,.int .i64 op,.slice K nk ck],.int .i64 under] w (ze2 (zbx f && zbh ⟨#[]⟩ ⟨#[]⟩ u nl nh b op nk) w):=by
 have hmf:∀(fn:Fn) (first cap:Array Value) (w:World),(Instr.makeFunc fn first cap).run Tryz.prog w = .ok (.func fn first cap) w:=fun _ _ _ _=>rfl;have HE:=hX (fun W=>zdt 0 0 ⟨#[]⟩ ⟨#[]⟩ u L H K nl cl nh ch nk ck b op W);generalize zbh ⟨#[]⟩ ⟨#[]⟩ u nl nh b op nk=r at *;have HN:=hX (fun W=>zgc f W hf);generalize zbx f=nb at *
 rcases ho with ⟨_,h1,h2,h3⟩ | ⟨_,h1,h2⟩
 subst h1;have d1:decide (oc<1)=false:=decide_eq_false (by omega);have d2:decide (4<oc)=false:=decide_eq_false (by omega);rotate_left
 subst h2;have d1:(under == 8)=false:=by simpa using h1
 have d2:(under != 8)=true:=by simpa using h1
 all_goals rcases hk with rfl | rfl | rfl
 all_goals
  go_enter Tryz.func61,Tryz.ntmps61;go_wp2_with fail;refine (yd0 (w.heap.size+1) (w.heap.size+1+1) _ _ (zid w _ _ _ _ _) rfl (by go_simp) (by omega)).mono ?_;rintro e w1 ⟨rfl,rfl⟩;go_wp2_with fail;refine (HN.out _).mono ?_;rintro e V ⟨rfl,hb⟩;have HB:=hX (ygh rfl hb);have HZ:=hX hb.size;obtain ⟨c0,c1,c2,c3,c4,c5,c6,c7,c8,c9⟩:=zlq ((zid w _ _ _ _ _).below hb (zid w _ _ _ _ _).lt);clear hb;cases nb
  ·go_wp2_with fail;go_ret;exact ⟨by simp,HB.out⟩
  ·go_wp2_with fail;refine (HE.out _).mono ?_;rintro e V2 ⟨rfl,hb⟩;have HB2:=hX (HB.out.trans (hb.mono HB.out.size));clear hb c0 c1 c2 c3 c4 c5 c6 c7 c8 c9;go_wp2_with fail;go_ret;exact ⟨by simp,HB2.out⟩
theorem yfm (ho:(zfi under oc=true∧under=8∧1≤oc∧oc≤4)∨(zfi under oc=true∧¬under=8∧oc=0)) (hk:kd=6) (hf:f.size≤140737488351232) :
 Calls Tryz.prog 61 #[.agg #[.int .i64 kd,.int .i64 oc,.string f,.string t,.string u,.slice L nl cl,.slice H nh ch,.int .i64 b,.int .i64 op,.slice K nk ck],.int .i64 under] w (ze2 (zbx f && zbh ⟨#[]⟩ ⟨#[]⟩ ⟨#[]⟩ nl nh b op nk) w):=by
 have hmf:∀(fn:Fn) (first cap:Array Value) (w:World),(Instr.makeFunc fn first cap).run Tryz.prog w = .ok (.func fn first cap) w:=fun _ _ _ _=>rfl;have HE:=hX (fun W=>zdt 0 0 ⟨#[]⟩ ⟨#[]⟩ ⟨#[]⟩ L H K nl cl nh ch nk ck b op W);generalize zbh ⟨#[]⟩ ⟨#[]⟩ ⟨#[]⟩ nl nh b op nk=r at *;have HN:=hX (fun W=>zgc f W hf);generalize zbx f=nb at *
 rcases ho with ⟨_,h1,h2,h3⟩ | ⟨_,h1,h2⟩
 subst h1;have d1:decide (oc<1)=false:=decide_eq_false (by omega);have d2:decide (4<oc)=false:=decide_eq_false (by omega);rotate_left
 subst h2;have d1:(under == 8)=false:=by simpa using h1
 have d2:(under != 8)=true:=by simpa using h1
 all_goals subst hk
 all_goals
  go_enter Tryz.func61,Tryz.ntmps61;go_wp2_with fail;refine (yd1 (w.heap.size+1) (w.heap.size+1+1) _ _ (zid w _ _ _ _ _) rfl (by go_simp) (by go_simp) (by omega)).mono ?_;rintro e w1 ⟨rfl,rfl⟩;go_wp2_with fail;refine (HN.out _).mono ?_;rintro e V ⟨rfl,hb⟩;have HB:=hX (ygh rfl hb);have HZ:=hX hb.size;obtain ⟨c0,c1,c2,c3,c4,c5,c6,c7,c8,c9⟩:=zlq ((zid w _ _ _ _ _).below hb (zid w _ _ _ _ _).lt);clear hb;cases nb
  ·go_wp2_with fail;go_ret;exact ⟨by simp,HB.out⟩
  ·go_wp2_with fail;refine (HE.out _).mono ?_;rintro e V2 ⟨rfl,hb⟩;have HB2:=hX (HB.out.trans (hb.mono HB.out.size));clear hb c0 c1 c2 c3 c4 c5 c6 c7 c8 c9;go_wp2_with fail;go_ret;exact ⟨by simp,HB2.out⟩
theorem yfn (ho:(zfi under oc=true∧under=8∧1≤oc∧oc≤4)∨(zfi under oc=true∧¬under=8∧oc=0)) (hk:kd=8) :
 Calls Tryz.prog 61 #[.agg #[.int .i64 kd,.int .i64 oc,.string f,.string t,.string u,.slice L nl cl,.slice H nh ch,.int .i64 b,.int .i64 op,.slice K nk ck],.int .i64 under] w (ze2 (zbh f t u nl nh b op 0) w):=by
 have hmf:∀(fn:Fn) (first cap:Array Value) (w:World),(Instr.makeFunc fn first cap).run Tryz.prog w = .ok (.func fn first cap) w:=fun _ _ _ _=>rfl;have HE:=hX (fun W=>zdt 0 0 f t u L H none nl cl nh ch 0 0 b op W);generalize zbh f t u nl nh b op 0=r at *
 rcases ho with ⟨_,h1,h2,h3⟩ | ⟨_,h1,h2⟩
 subst h1;have d1:decide (oc<1)=false:=decide_eq_false (by omega);have d2:decide (4<oc)=false:=decide_eq_false (by omega);rotate_left
 subst h2;have d1:(under == 8)=false:=by simpa using h1
 have d2:(under != 8)=true:=by simpa using h1
 all_goals subst hk
 all_goals
  go_enter Tryz.func61,Tryz.ntmps61;go_wp2_with fail;refine (HE.out _).mono ?_;rintro e V ⟨rfl,hb⟩;have HB:=hX (ydc rfl hb);clear hb;go_wp2_with fail;go_ret;exact ⟨rfl,HB.out⟩
end
end Go.Proofs.YtplkbdncgkgppaaGreatDoor.Qry
end
section
namespace Go.Proofs.YtplkbdncgkgppaaGreatDoor.Qry
open Go.RowKit Words Tree QryP Kit
section
variable {B b T K:Nat} {kd oc:Int} {f t u:ByteArray} {bo op:Int} {L Hh Kk:Option Addr} {nl cl nh ch nk ck:Nat} {w:World} {l x:List UInt8}
theorem yfo (hT:Blk w T 108 #[.pointer (some ⟨b,0,none⟩)]) (hK:Blk w K 28 #[.int .i64 kd,.int .i64 0,.string f,.string t,.string u,.slice L nl cl,.slice Hh nh ch,.int .i64 bo,.int .i64 op,.slice Kk nk ck]) (hTb:T≠b) (hKb:K≠b) (h:Buf B b l w) (hl:l.length+1≤ze0)
 (hI:∀W,Wr B (fun g=>g=b) w W→Buf B b (l) W→Calls Tryz.prog 55 #[.pointer (some ⟨b,0,none⟩),.agg #[.int .i64 kd,.int .i64 0,.string f,.string t,.string u,.slice L nl cl,.slice Hh nh ch,.int .i64 bo,.int .i64 op,.slice Kk nk ck]] W (zk5 B b (l) x W)) :
 Calls Tryz.prog 101 #[.pointer (some ⟨K,0,none⟩),.pointer (some ⟨T,0,none⟩)] w (zk5 B b l (x) w):=by
 have HT:=hX hT;have HK:=hX hK;have HI:=hX hI;have HH:=hX h;have HL:=hX hl;obtain ⟨c0,c1,c2,c3,c4,c5,c6,c7,c8,c9⟩:=zlq hK;have cT:w.cell? ⟨T,0,none⟩=some (.pointer (some ⟨b,0,none⟩)):=hT.cell 0;clear hT hK hI h hl;go_enter Tryz.func101,Tryz.ntmps101;go_wp2_with fail;refine (HI.out w (Wr.refl _ _ _) HH.out).mono ?_;rintro e w3 ⟨rfl,hb,hw⟩;have HB3:=hX hb;have HW3:=hX (hw);clear hb hw c0 c1 c2 c3 c4 c5 c6 c7 c8 c9 cT;go_wp2_with fail;go_end0;exact ⟨rfl,HB3.out,HW3.out⟩
theorem yfp (hT:Blk w T 108 #[.pointer (some ⟨b,0,none⟩)]) (hK:Blk w K 28 #[.int .i64 kd,.int .i64 1,.string f,.string t,.string u,.slice L nl cl,.slice Hh nh ch,.int .i64 bo,.int .i64 op,.slice Kk nk ck]) (hTb:T≠b) (hKb:K≠b) (h:Buf B b l w) (hl:l.length+1≤ze0)
 (hI:∀W,Wr B (fun g=>g=b) w W→Buf B b (l++[43]) W→Calls Tryz.prog 55 #[.pointer (some ⟨b,0,none⟩),.agg #[.int .i64 kd,.int .i64 1,.string f,.string t,.string u,.slice L nl cl,.slice Hh nh ch,.int .i64 bo,.int .i64 op,.slice Kk nk ck]] W (zk5 B b (l++[43]) x W)) :
 Calls Tryz.prog 101 #[.pointer (some ⟨K,0,none⟩),.pointer (some ⟨T,0,none⟩)] w (zk5 B b l ([43]++x) w):=by
 have HT:=hX hT;have HK:=hX hK;have HI:=hX hI;have HH:=hX h;have HL:=hX hl;obtain ⟨c0,c1,c2,c3,c4,c5,c6,c7,c8,c9⟩:=zlq hK;have cT:w.cell? ⟨T,0,none⟩=some (.pointer (some ⟨b,0,none⟩)):=hT.cell 0;clear hT hK hI h hl;go_enter Tryz.func101,Tryz.ntmps101;go_upto_region 1 with fail;refine wp_region_held_drew (S:=fun V=>Wr B (fun g=>g=b) w V) (by kernel_rfl) ((Wr.refl B _ w).drew) (fun hSd0=>?_);refine' tk 0 (by simp only[tkD,tkE,tkG];rfl) (by kernel_rfl) (by exact fun _ _ _ h=>h) (by rfl) hSd0 (by intro V hSw;have fq:=(hSw.blk HT.out hTb (by decide)).cell 0;clear hSw;go_simp;try with_reducible rfl) ?_;try simp only[Act.put,tkA,tkB,tkC]
 refine' tk 1 (by simp only[tkD,tkE,tkG];rfl) (by kernel_rfl) (by exact fun _ _ _ h=>h) (by rfl) hSd0 (by intro V hSw;clear hSw;go_simp;try with_reducible rfl) ?_;try simp only[Act.put,tkA,tkB,tkC]
 refine' tk 2 (by simp only[tkD,tkE,tkG];rfl) (by kernel_rfl) (by exact fun _ _ _ h=>h) (by rfl) hSd0 (by intro V hSw;have fq:=(hSw.blk HK.out hKb (by decide)).cell 1;clear hSw;go_simp;try with_reducible rfl) ?_;try simp only[Act.put,tkA,tkB,tkC]
 refine' tk 3 (by simp only[tkD,tkE,tkG];rfl) (by kernel_rfl) (by exact fun _ _ _ h=>h) (by rfl) hSd0 (by intro V hSw;clear hSw;go_simp;try with_reducible rfl) ?_;try simp only[Act.put,tkA,tkB,tkC]
 refine wpAnyH_ready (rs:=[4]) (by kernel_rfl) (by simp) ?_;refine' AllReadyH.cons (by simp only[tkD,tkE,tkG];rfl) (fun K hK=>?_) AllReadyH.nil;go_simp;refine (zbz B b l 43 _ (HH.out.keep (Below.refl _ w).drew) HL.out).mono ?_;rintro e w2 ⟨rfl,hb,hw⟩;have HB2:=hX hb;have HW2:=hX (((Wr.refl B (fun g=>g=b) w).drew).trans hw);clear hb hw;go_simp;refine hK.out _ _ HW2.out (fun hSd2=>?_);clear hK;try simp only[Act.put,tkA,tkB,tkC]
 refine wpAnyH_done (by kernel_rfl) ?_ _;clear hSd0 hSd2 c0 c1 c2 c3 c4 c5 c6 c7 c8 c9 cT;obtain ⟨c0,c1,c2,c3,c4,c5,c6,c7,c8,c9⟩:=zlq (HW2.out.blk HK.out hKb (by decide));have cT:w2.cell? ⟨T,0,none⟩=some (.pointer (some ⟨b,0,none⟩)):=(HW2.out.blk HT.out hTb (by decide)).cell 0;go_wp2_with fail;refine (HI.out w2 HW2.out HB2.out).mono ?_;rintro e w3 ⟨rfl,hb,hw⟩;have HB3:=hX hb;have HW3:=hX (HW2.out.trans hw);clear hb hw c0 c1 c2 c3 c4 c5 c6 c7 c8 c9 cT;go_wp2_with fail;go_end0;exact ⟨rfl,by simpa [List.append_assoc] using HB3.out,HW3.out⟩
theorem yfq (hT:Blk w T 108 #[.pointer (some ⟨b,0,none⟩)]) (hK:Blk w K 28 #[.int .i64 kd,.int .i64 2,.string f,.string t,.string u,.slice L nl cl,.slice Hh nh ch,.int .i64 bo,.int .i64 op,.slice Kk nk ck]) (hTb:T≠b) (hKb:K≠b) (h:Buf B b l w) (hl:l.length+1≤ze0)
 (hI:∀W,Wr B (fun g=>g=b) w W→Buf B b (l++[63]) W→Calls Tryz.prog 55 #[.pointer (some ⟨b,0,none⟩),.agg #[.int .i64 kd,.int .i64 2,.string f,.string t,.string u,.slice L nl cl,.slice Hh nh ch,.int .i64 bo,.int .i64 op,.slice Kk nk ck]] W (zk5 B b (l++[63]) x W)) :
 Calls Tryz.prog 101 #[.pointer (some ⟨K,0,none⟩),.pointer (some ⟨T,0,none⟩)] w (zk5 B b l ([63]++x) w):=by
 have HT:=hX hT;have HK:=hX hK;have HI:=hX hI;have HH:=hX h;have HL:=hX hl;obtain ⟨c0,c1,c2,c3,c4,c5,c6,c7,c8,c9⟩:=zlq hK;have cT:w.cell? ⟨T,0,none⟩=some (.pointer (some ⟨b,0,none⟩)):=hT.cell 0;clear hT hK hI h hl;go_enter Tryz.func101,Tryz.ntmps101;go_upto_region 1 with fail;refine wp_region_held_drew (S:=fun V=>Wr B (fun g=>g=b) w V) (by kernel_rfl) ((Wr.refl B _ w).drew) (fun hSd0=>?_);refine' tk 0 (by simp only[tkD,tkE,tkG];rfl) (by kernel_rfl) (by exact fun _ _ _ h=>h) (by rfl) hSd0 (by intro V hSw;have fq:=(hSw.blk HT.out hTb (by decide)).cell 0;clear hSw;go_simp;try with_reducible rfl) ?_;try simp only[Act.put,tkA,tkB,tkC]
 refine' tk 1 (by simp only[tkD,tkE,tkG];rfl) (by kernel_rfl) (by exact fun _ _ _ h=>h) (by rfl) hSd0 (by intro V hSw;clear hSw;go_simp;try with_reducible rfl) ?_;try simp only[Act.put,tkA,tkB,tkC]
 refine' tk 2 (by simp only[tkD,tkE,tkG];rfl) (by kernel_rfl) (by exact fun _ _ _ h=>h) (by rfl) hSd0 (by intro V hSw;have fq:=(hSw.blk HK.out hKb (by decide)).cell 1;clear hSw;go_simp;try with_reducible rfl) ?_;try simp only[Act.put,tkA,tkB,tkC]
 refine' tk 3 (by simp only[tkD,tkE,tkG];rfl) (by kernel_rfl) (by exact fun _ _ _ h=>h) (by rfl) hSd0 (by intro V hSw;clear hSw;go_simp;try with_reducible rfl) ?_;try simp only[Act.put,tkA,tkB,tkC]
 refine wpAnyH_ready (rs:=[4]) (by kernel_rfl) (by simp) ?_;refine' AllReadyH.cons (by simp only[tkD,tkE,tkG];rfl) (fun K hK=>?_) AllReadyH.nil;go_simp;refine (zbz B b l 63 _ (HH.out.keep (Below.refl _ w).drew) HL.out).mono ?_;rintro e w2 ⟨rfl,hb,hw⟩;have HB2:=hX hb;have HW2:=hX (((Wr.refl B (fun g=>g=b) w).drew).trans hw);clear hb hw;go_simp;refine hK.out _ _ HW2.out (fun hSd2=>?_);clear hK;try simp only[Act.put,tkA,tkB,tkC]
 refine wpAnyH_done (by kernel_rfl) ?_ _;clear hSd0 hSd2 c0 c1 c2 c3 c4 c5 c6 c7 c8 c9 cT;obtain ⟨c0,c1,c2,c3,c4,c5,c6,c7,c8,c9⟩:=zlq (HW2.out.blk HK.out hKb (by decide));have cT:w2.cell? ⟨T,0,none⟩=some (.pointer (some ⟨b,0,none⟩)):=(HW2.out.blk HT.out hTb (by decide)).cell 0;go_wp2_with fail;refine (HI.out w2 HW2.out HB2.out).mono ?_;rintro e w3 ⟨rfl,hb,hw⟩;have HB3:=hX hb;have HW3:=hX (HW2.out.trans hw);clear hb hw c0 c1 c2 c3 c4 c5 c6 c7 c8 c9 cT;go_wp2_with fail;go_end0;exact ⟨rfl,by simpa [List.append_assoc] using HB3.out,HW3.out⟩
theorem yfr (hT:Blk w T 108 #[.pointer (some ⟨b,0,none⟩)]) (hK:Blk w K 28 #[.int .i64 kd,.int .i64 3,.string f,.string t,.string u,.slice L nl cl,.slice Hh nh ch,.int .i64 bo,.int .i64 op,.slice Kk nk ck]) (hTb:T≠b) (hKb:K≠b) (h:Buf B b l w) (hl:l.length+1≤ze0)
 (hI:∀W,Wr B (fun g=>g=b) w W→Buf B b (l++[45]) W→Calls Tryz.prog 55 #[.pointer (some ⟨b,0,none⟩),.agg #[.int .i64 kd,.int .i64 3,.string f,.string t,.string u,.slice L nl cl,.slice Hh nh ch,.int .i64 bo,.int .i64 op,.slice Kk nk ck]] W (zk5 B b (l++[45]) x W)) :
 Calls Tryz.prog 101 #[.pointer (some ⟨K,0,none⟩),.pointer (some ⟨T,0,none⟩)] w (zk5 B b l ([45]++x) w):=by
 have HT:=hX hT;have HK:=hX hK;have HI:=hX hI;have HH:=hX h;have HL:=hX hl;obtain ⟨c0,c1,c2,c3,c4,c5,c6,c7,c8,c9⟩:=zlq hK;have cT:w.cell? ⟨T,0,none⟩=some (.pointer (some ⟨b,0,none⟩)):=hT.cell 0;clear hT hK hI h hl;go_enter Tryz.func101,Tryz.ntmps101;go_upto_region 1 with fail;refine wp_region_held_drew (S:=fun V=>Wr B (fun g=>g=b) w V) (by kernel_rfl) ((Wr.refl B _ w).drew) (fun hSd0=>?_);refine' tk 0 (by simp only[tkD,tkE,tkG];rfl) (by kernel_rfl) (by exact fun _ _ _ h=>h) (by rfl) hSd0 (by intro V hSw;have fq:=(hSw.blk HT.out hTb (by decide)).cell 0;clear hSw;go_simp;try with_reducible rfl) ?_;try simp only[Act.put,tkA,tkB,tkC]
 refine' tk 1 (by simp only[tkD,tkE,tkG];rfl) (by kernel_rfl) (by exact fun _ _ _ h=>h) (by rfl) hSd0 (by intro V hSw;clear hSw;go_simp;try with_reducible rfl) ?_;try simp only[Act.put,tkA,tkB,tkC]
 refine' tk 2 (by simp only[tkD,tkE,tkG];rfl) (by kernel_rfl) (by exact fun _ _ _ h=>h) (by rfl) hSd0 (by intro V hSw;have fq:=(hSw.blk HK.out hKb (by decide)).cell 1;clear hSw;go_simp;try with_reducible rfl) ?_;try simp only[Act.put,tkA,tkB,tkC]
 refine' tk 3 (by simp only[tkD,tkE,tkG];rfl) (by kernel_rfl) (by exact fun _ _ _ h=>h) (by rfl) hSd0 (by intro V hSw;clear hSw;go_simp;try with_reducible rfl) ?_;try simp only[Act.put,tkA,tkB,tkC]
 refine wpAnyH_ready (rs:=[4]) (by kernel_rfl) (by simp) ?_;refine' AllReadyH.cons (by simp only[tkD,tkE,tkG];rfl) (fun K hK=>?_) AllReadyH.nil;go_simp;refine (zbz B b l 45 _ (HH.out.keep (Below.refl _ w).drew) HL.out).mono ?_;rintro e w2 ⟨rfl,hb,hw⟩;have HB2:=hX hb;have HW2:=hX (((Wr.refl B (fun g=>g=b) w).drew).trans hw);clear hb hw;go_simp;refine hK.out _ _ HW2.out (fun hSd2=>?_);clear hK;try simp only[Act.put,tkA,tkB,tkC]
 refine wpAnyH_done (by kernel_rfl) ?_ _;clear hSd0 hSd2 c0 c1 c2 c3 c4 c5 c6 c7 c8 c9 cT;obtain ⟨c0,c1,c2,c3,c4,c5,c6,c7,c8,c9⟩:=zlq (HW2.out.blk HK.out hKb (by decide));have cT:w2.cell? ⟨T,0,none⟩=some (.pointer (some ⟨b,0,none⟩)):=(HW2.out.blk HT.out hTb (by decide)).cell 0;go_wp2_with fail;refine (HI.out w2 HW2.out HB2.out).mono ?_;rintro e w3 ⟨rfl,hb,hw⟩;have HB3:=hX hb;have HW3:=hX (HW2.out.trans hw);clear hb hw c0 c1 c2 c3 c4 c5 c6 c7 c8 c9 cT;go_wp2_with fail;go_end0;exact ⟨rfl,by simpa [List.append_assoc] using HB3.out,HW3.out⟩
theorem yfs (hT:Blk w T 108 #[.pointer (some ⟨b,0,none⟩)]) (hK:Blk w K 28 #[.int .i64 kd,.int .i64 4,.string f,.string t,.string u,.slice L nl cl,.slice Hh nh ch,.int .i64 bo,.int .i64 op,.slice Kk nk ck]) (hTb:T≠b) (hKb:K≠b) (h:Buf B b l w) (hl:l.length+1≤ze0)
 (hI:∀W,Wr B (fun g=>g=b) w W→Buf B b (l++[61]) W→Calls Tryz.prog 55 #[.pointer (some ⟨b,0,none⟩),.agg #[.int .i64 kd,.int .i64 4,.string f,.string t,.string u,.slice L nl cl,.slice Hh nh ch,.int .i64 bo,.int .i64 op,.slice Kk nk ck]] W (zk5 B b (l++[61]) x W)) :
 Calls Tryz.prog 101 #[.pointer (some ⟨K,0,none⟩),.pointer (some ⟨T,0,none⟩)] w (zk5 B b l ([61]++x) w):=by
 have HT:=hX hT;have HK:=hX hK;have HI:=hX hI;have HH:=hX h;have HL:=hX hl;obtain ⟨c0,c1,c2,c3,c4,c5,c6,c7,c8,c9⟩:=zlq hK;have cT:w.cell? ⟨T,0,none⟩=some (.pointer (some ⟨b,0,none⟩)):=hT.cell 0;clear hT hK hI h hl;go_enter Tryz.func101,Tryz.ntmps101;go_upto_region 1 with fail;refine wp_region_held_drew (S:=fun V=>Wr B (fun g=>g=b) w V) (by kernel_rfl) ((Wr.refl B _ w).drew) (fun hSd0=>?_);refine' tk 0 (by simp only[tkD,tkE,tkG];rfl) (by kernel_rfl) (by exact fun _ _ _ h=>h) (by rfl) hSd0 (by intro V hSw;have fq:=(hSw.blk HT.out hTb (by decide)).cell 0;clear hSw;go_simp;try with_reducible rfl) ?_;try simp only[Act.put,tkA,tkB,tkC]
 refine' tk 1 (by simp only[tkD,tkE,tkG];rfl) (by kernel_rfl) (by exact fun _ _ _ h=>h) (by rfl) hSd0 (by intro V hSw;clear hSw;go_simp;try with_reducible rfl) ?_;try simp only[Act.put,tkA,tkB,tkC]
 refine' tk 2 (by simp only[tkD,tkE,tkG];rfl) (by kernel_rfl) (by exact fun _ _ _ h=>h) (by rfl) hSd0 (by intro V hSw;have fq:=(hSw.blk HK.out hKb (by decide)).cell 1;clear hSw;go_simp;try with_reducible rfl) ?_;try simp only[Act.put,tkA,tkB,tkC]
 refine' tk 3 (by simp only[tkD,tkE,tkG];rfl) (by kernel_rfl) (by exact fun _ _ _ h=>h) (by rfl) hSd0 (by intro V hSw;clear hSw;go_simp;try with_reducible rfl) ?_;try simp only[Act.put,tkA,tkB,tkC]
 refine wpAnyH_ready (rs:=[4]) (by kernel_rfl) (by simp) ?_;refine' AllReadyH.cons (by simp only[tkD,tkE,tkG];rfl) (fun K hK=>?_) AllReadyH.nil;go_simp;refine (zbz B b l 61 _ (HH.out.keep (Below.refl _ w).drew) HL.out).mono ?_;rintro e w2 ⟨rfl,hb,hw⟩;have HB2:=hX hb;have HW2:=hX (((Wr.refl B (fun g=>g=b) w).drew).trans hw);clear hb hw;go_simp;refine hK.out _ _ HW2.out (fun hSd2=>?_);clear hK;try simp only[Act.put,tkA,tkB,tkC]
 refine wpAnyH_done (by kernel_rfl) ?_ _;clear hSd0 hSd2 c0 c1 c2 c3 c4 c5 c6 c7 c8 c9 cT;obtain ⟨c0,c1,c2,c3,c4,c5,c6,c7,c8,c9⟩:=zlq (HW2.out.blk HK.out hKb (by decide));have cT:w2.cell? ⟨T,0,none⟩=some (.pointer (some ⟨b,0,none⟩)):=(HW2.out.blk HT.out hTb (by decide)).cell 0;go_wp2_with fail;refine (HI.out w2 HW2.out HB2.out).mono ?_;rintro e w3 ⟨rfl,hb,hw⟩;have HB3:=hX hb;have HW3:=hX (HW2.out.trans hw);clear hb hw c0 c1 c2 c3 c4 c5 c6 c7 c8 c9 cT;go_wp2_with fail;go_end0;exact ⟨rfl,by simpa [List.append_assoc] using HB3.out,HW3.out⟩
end
end Go.Proofs.YtplkbdncgkgppaaGreatDoor.Qry
end
