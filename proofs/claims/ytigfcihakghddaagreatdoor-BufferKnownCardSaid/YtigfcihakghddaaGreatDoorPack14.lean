/- Lemmas that the last text leans on. -/
import Derived.Test.YtigfcihakghddaaGreatDoorTake
import Derived.Test.YtigfcihakghddaaGreatDoorPack11
import Derived.Test.YtigfcihakghddaaGreatDoorPack13
import Derived.Test.YtigfcihakghddaaGreatDoorPack8
import Derived.Lib.ParseIntBCases
import Derived.Lib.IndexMore
import Derived.Lib.Repeat
import Derived.Lib.ItoaNum
set_option linter.all false
set_option maxRecDepth 100000
set_option maxHeartbeats 8000000
section
namespace Go.Proofs.YtigfcihakghddaaGreatDoor.Sch
open Go.RowKit Words Tree SchP Kit Owned AnaP
theorem kind_ways (k:Int):k=1∨k=2∨k=3∨k=4∨k=5∨((k == 1)=false∧(k == 2)=false∧(k == 3)=false∧(k == 4)=false∧(k == 5)=false∧(k != 1)=true∧(k != 4)=true∧(k != 5)=true∧k≠1∧k≠2∧k≠3∧k≠4∧k≠5):=by
 by_cases h1:k=1
 ·exact .inl h1
 by_cases h2:k=2
 ·exact .inr (.inl h2)
 by_cases h3:k=3
 ·exact .inr (.inr (.inl h3))
 by_cases h4:k=4
 ·exact .inr (.inr (.inr (.inl h4)))
 by_cases h5:k=5
 ·exact .inr (.inr (.inr (.inr (.inl h5))))
 exact .inr (.inr (.inr (.inr (.inr ⟨by simpa using h1,by simpa using h2,by simpa using h3,by simpa using h4,by simpa using h5,by simpa using h1,by simpa using h4,by simpa using h5,h1,h2,h3,h4,h5⟩))))
theorem zero_ways (k:Int):k=0∨(k≠0∧(k != 0)=true∧(k == 0)=false):=by
 by_cases h:k=0
 ·exact .inl h
 ·exact .inr ⟨h,by simpa using h,by simpa using h⟩
theorem ge_ways (k m:Int):(m≤k∧decide (m≤k)=true)∨(¬m≤k∧decide (m≤k)=false):=by
 by_cases h:m≤k
 ·exact .inl ⟨h,decide_eq_true h⟩
 ·exact .inr ⟨h,decide_eq_false h⟩
theorem pos_ways (n:Nat):n=0∨(n≠0∧0<n∧decide (0<n)=true):=by
 by_cases h:n=0
 ·exact .inl h
 ·exact .inr ⟨h,by omega,decide_eq_true (by omega)⟩
theorem may_any (f:FT) (v:Value) (w:World) (hv:T.At bare w (fun g=>g<w.heap.size) (numsT .i64 f.chain) v) (ok:FOk f) :
 Calls Tryz.prog 62 #[.agg #[.string f.name,.int .i64 f.kind,v,.int .i64 f.scale,.int .i64 f.dims,.bool f.many,.bool f.stored]] w (AnsB (mayB f) w):=by
 obtain ⟨X,z,rfl,hz,hm,hrd⟩:=at_nums hv;have HN:=hX (fun (W:World) (_:Below w.heap.size w W)=>name_any f.name W ok.name);have HC:=hX (fun (W:World) (hW:Below w.heap.size w W)=>Ana.check_any X f.chain.length z f.chain W rfl ((hrd.below hW).more hW.size) hz hm);clear hv hrd ok
 obtain ⟨b,hn⟩:∃b,nameB f.name=b:=⟨_,rfl⟩
 obtain ⟨r,hr0⟩:∃r,checkB f.chain=r:=⟨_,rfl⟩
 rw[hr0] at HC;have hr:(r=true∧Ana.errOf r=0)∨(r=false∧Ana.errOf r=60):=by cases r <;> simp[Ana.errOf]
 have HQ:Hid (mayB f=(b && (decide (f.kind=1) || decide (f.chain.length=0)) && (decide (f.kind=4) || decide (f.scale=0)) && (decide (f.kind=5) || decide (f.dims=0)) && (if f.kind=1 then r else if f.kind=2∨f.kind=3 then true else if f.kind=4 then decide (0≤f.scale∧f.scale≤9) else if f.kind=5 then decide (1≤f.dims∧f.dims≤4) else false))):=hX (by unfold mayB kindB;rw[hn,hr0]);clear hr0;cases b
 ·skip;have HR:Hid (mayB f=false):=hX (by rw[HQ.out];simp);clear HQ;go_enter Tryz.func62,Tryz.ntmps62;go_wp2_with fail;refine (HN.out _ ((Below.refl _ w).alloc (Nat.le_refl _) _)).mono ?_;rintro e W ⟨rfl,b0⟩;have HB:=hX (((Below.refl _ w).alloc (Nat.le_refl _) _).trans (b0.mono (by simp)):Below w.heap.size w W);have BF:=hX ((Blk.new w _ _).below b0 (by simp));obtain ⟨p0,p1,p2,p3,p4,p5,p6⟩:=blk7 BF.out;rw[hn];clear b0 hn;go_wp2_with fail;go_ret;rw[HR.out];exact ⟨rfl,HB.out⟩
 obtain ⟨nm,kd,ch,sc,di,mn,st⟩:=f;dsimp only at *;generalize hch:ch.length=n at *
 rcases kind_ways kd with rfl | rfl | rfl | rfl | rfl | ⟨e1,e2,e3,e4,e5,n1,n4,n5,k1,k2,k3,k4,k5⟩
 rcases zero_ways sc with rfl | ⟨s0,s1,s2⟩
 rcases zero_ways di with rfl | ⟨d0,d1,d2⟩
 have HR:Hid (mayB _=r):=hX (by rw[HQ.out];simp_all <;> omega);clear HQ
 ·skip;go_enter Tryz.func62,Tryz.ntmps62;go_wp2_with fail;refine (HN.out _ ((Below.refl _ w).alloc (Nat.le_refl _) _)).mono ?_;rintro e W ⟨rfl,b0⟩;have HB:=hX (((Below.refl _ w).alloc (Nat.le_refl _) _).trans (b0.mono (by simp)):Below w.heap.size w W);have BF:=hX ((Blk.new w _ _).below b0 (by simp));obtain ⟨p0,p1,p2,p3,p4,p5,p6⟩:=blk7 BF.out;rw[hn];clear b0 hn;go_wp2_with fail;refine (HC.out W HB.out).mono ?_;rintro e W2 ⟨rfl,b1⟩;have HB2:=hX (HB.out.trans (b1.mono HB.out.size));clear b1;rcases hr with ⟨rfl,he⟩ | ⟨rfl,he⟩ <;>
  (rw[he];go_wp2_with fail;go_ret;rw[HR.out];exact ⟨rfl,HB2.out⟩)
 have HR:Hid (mayB _=false):=hX (by rw[HQ.out];simp_all <;> omega);clear HQ;rotate_left
 have HR:Hid (mayB _=false):=hX (by rw[HQ.out];simp_all <;> omega);clear HQ;rotate_left
 rcases pos_ways n with rfl | ⟨c0,c1,c2⟩
 rcases zero_ways sc with rfl | ⟨s0,s1,s2⟩
 rcases zero_ways di with rfl | ⟨d0,d1,d2⟩
 have HR:Hid (mayB _=true):=hX (by rw[HQ.out];simp_all <;> omega);clear HQ;rotate_left
 have HR:Hid (mayB _=false):=hX (by rw[HQ.out];simp_all <;> omega);clear HQ;rotate_left
 have HR:Hid (mayB _=false):=hX (by rw[HQ.out];simp_all <;> omega);clear HQ;rotate_left
 have HR:Hid (mayB _=false):=hX (by rw[HQ.out];simp_all <;> omega);clear HQ;rotate_left
 rcases pos_ways n with rfl | ⟨c0,c1,c2⟩
 rcases zero_ways sc with rfl | ⟨s0,s1,s2⟩
 rcases zero_ways di with rfl | ⟨d0,d1,d2⟩
 have HR:Hid (mayB _=true):=hX (by rw[HQ.out];simp_all <;> omega);clear HQ;rotate_left
 have HR:Hid (mayB _=false):=hX (by rw[HQ.out];simp_all <;> omega);clear HQ;rotate_left
 have HR:Hid (mayB _=false):=hX (by rw[HQ.out];simp_all <;> omega);clear HQ;rotate_left
 have HR:Hid (mayB _=false):=hX (by rw[HQ.out];simp_all <;> omega);clear HQ;rotate_left
 rcases pos_ways n with rfl | ⟨c0,c1,c2⟩
 rcases zero_ways di with rfl | ⟨d0,d1,d2⟩
 rcases ge_ways sc 0 with ⟨g0,g1⟩ | ⟨g0,g1⟩
 rcases ge_ways 9 sc with ⟨h0,h1⟩ | ⟨h0,h1⟩
 have HR:Hid (mayB _=true):=hX (by rw[HQ.out];simp_all <;> omega);clear HQ;rotate_left
 have HR:Hid (mayB _=false):=hX (by rw[HQ.out];simp_all <;> omega);clear HQ;rotate_left
 have HR:Hid (mayB _=false):=hX (by rw[HQ.out];simp_all <;> omega);clear HQ;rotate_left
 have HR:Hid (mayB _=false):=hX (by rw[HQ.out];simp_all <;> omega);clear HQ;rotate_left
 have HR:Hid (mayB _=false):=hX (by rw[HQ.out];simp_all <;> omega);clear HQ;rotate_left
 rcases pos_ways n with rfl | ⟨c0,c1,c2⟩
 rcases zero_ways sc with rfl | ⟨s0,s1,s2⟩
 rcases ge_ways di 1 with ⟨g0,g1⟩ | ⟨g0,g1⟩
 rcases ge_ways 4 di with ⟨h0,h1⟩ | ⟨h0,h1⟩
 have HR:Hid (mayB _=true):=hX (by rw[HQ.out];simp_all <;> omega);clear HQ;rotate_left
 have HR:Hid (mayB _=false):=hX (by rw[HQ.out];simp_all <;> omega);clear HQ;rotate_left
 have HR:Hid (mayB _=false):=hX (by rw[HQ.out];simp_all <;> omega);clear HQ;rotate_left
 have HR:Hid (mayB _=false):=hX (by rw[HQ.out];simp_all <;> omega);clear HQ;rotate_left
 have HR:Hid (mayB _=false):=hX (by rw[HQ.out];simp_all <;> omega);clear HQ;rotate_left
 rcases pos_ways n with rfl | ⟨c0,c1,c2⟩
 rcases zero_ways sc with rfl | ⟨s0,s1,s2⟩
 rcases zero_ways di with rfl | ⟨d0,d1,d2⟩
 have HR:Hid (mayB _=false):=hX (by rw[HQ.out];simp_all <;> omega);clear HQ;rotate_left
 have HR:Hid (mayB _=false):=hX (by rw[HQ.out];simp_all <;> omega);clear HQ;rotate_left
 have HR:Hid (mayB _=false):=hX (by rw[HQ.out];simp_all <;> omega);clear HQ;rotate_left
 have HR:Hid (mayB _=false):=hX (by rw[HQ.out];simp_all <;> omega);clear HQ;rotate_left
 all_goals
  go_enter Tryz.func62,Tryz.ntmps62;go_wp2_with fail;refine (HN.out _ ((Below.refl _ w).alloc (Nat.le_refl _) _)).mono ?_;rintro e W ⟨rfl,b0⟩;have HB:=hX (((Below.refl _ w).alloc (Nat.le_refl _) _).trans (b0.mono (by simp)):Below w.heap.size w W);have BF:=hX ((Blk.new w _ _).below b0 (by simp));obtain ⟨p0,p1,p2,p3,p4,p5,p6⟩:=blk7 BF.out;rw[hn];clear b0 hn;go_wp2_with fail;go_ret;rw[HR.out];exact ⟨rfl,HB.out⟩
end Go.Proofs.YtigfcihakghddaaGreatDoor.Sch
end
section
namespace Go.Proofs.YtigfcihakghddaaGreatDoor.Sch
open Go.RowKit Words Tree SchP Kit Owned AnaP
def kindP (f:FT) (text:ByteArray) (n:Nat):Bool:=if f.kind=3 then decide (text.size=0) && decide (n=1) else if f.kind=5 then decide (text.size=0) && decide ((n:Int)=f.dims) else decide (n=0)
theorem empty_ways (s:ByteArray):(s.size=0∧s.toList.isEmpty=true)∨(s.size≠0∧s.toList.isEmpty=false):=by
 have h:s.toList.isEmpty=true↔s.size=0:=by
  rw[ByteArray.toList_eq,List.isEmpty_iff];constructor
  ·intro h;have:=congrArg List.length h;simpa using this
  ·intro h;exact List.eq_nil_of_length_eq_zero (by simpa using h)
 cases hb:s.toList.isEmpty with
 | true=>exact .inl ⟨h.1 hb,rfl⟩
 | false=>exact .inr ⟨(fun e=>by rw[h.2 e] at hb;cases hb),rfl⟩
theorem eqn_ways (n:Nat) (k:Int):((n:Int)=k∧((n:Int) == k)=true)∨((n:Int)≠k∧((n:Int) == k)=false):=by
 by_cases h:(n:Int)=k
 ·exact .inl ⟨h,by simpa using h⟩
 ·exact .inr ⟨h,by simpa using h⟩
theorem kind_any (f:FT) (X:Value) (text:ByteArray) (A:Option Addr) (n c:Nat) (w:World) :
 Calls Tryz.prog 66 #[.agg #[.string f.name,.int .i64 f.kind,X,.int .i64 f.scale,.int .i64 f.dims,.bool f.many,.bool f.stored],.string text,.slice A n c] w (AnsB (kindP f text n) w):=by
 obtain ⟨r,hr⟩:∃r,kindP f text n=r:=⟨_,rfl⟩
 have HR:=hX hr;rw[hr];clear hr;obtain ⟨f0,f1,f2,f3,f4,f5,f6⟩:=f
 rcases kind_ways f1 with rfl | rfl | rfl | rfl | rfl | ⟨e1,e2,e3,e4,e5,n1,n4,n5,k1,k2,k3,k4,k5⟩
 ·skip
  rcases eqn_ways n 0 with ⟨h1,h2⟩ | ⟨h1,h2⟩
  ·have HT:Hid (r=true):=hX (by rw[←HR.out];simp[kindP, *];try omega);clear HR;go_enter Tryz.func66,Tryz.ntmps66;go_wp2_with fail;go_ret;rw[HT.out];exact ⟨by simp[*],(Below.refl _ _).alloc (Nat.le_refl _) _⟩
  ·have HT:Hid (r=false):=hX (by rw[←HR.out];simp[kindP, *];try omega);clear HR;go_enter Tryz.func66,Tryz.ntmps66;go_wp2_with fail;go_ret;rw[HT.out];exact ⟨by simp[*],(Below.refl _ _).alloc (Nat.le_refl _) _⟩
 ·skip
  rcases eqn_ways n 0 with ⟨h1,h2⟩ | ⟨h1,h2⟩
  ·have HT:Hid (r=true):=hX (by rw[←HR.out];simp[kindP, *];try omega);clear HR;go_enter Tryz.func66,Tryz.ntmps66;go_wp2_with fail;go_ret;rw[HT.out];exact ⟨by simp[*],(Below.refl _ _).alloc (Nat.le_refl _) _⟩
  ·have HT:Hid (r=false):=hX (by rw[←HR.out];simp[kindP, *];try omega);clear HR;go_enter Tryz.func66,Tryz.ntmps66;go_wp2_with fail;go_ret;rw[HT.out];exact ⟨by simp[*],(Below.refl _ _).alloc (Nat.le_refl _) _⟩
 ·skip
  rcases empty_ways text with ⟨t0,t1⟩ | ⟨t0,t1⟩
  rotate_left
  ·have HT:Hid (r=false):=hX (by rw[←HR.out];simp[kindP, *];try omega);clear HR;go_enter Tryz.func66,Tryz.ntmps66;go_wp2_with fail;go_ret;rw[HT.out];exact ⟨by simp[*],(Below.refl _ _).alloc (Nat.le_refl _) _⟩
  rcases eqn_ways n 1 with ⟨h1,h2⟩ | ⟨h1,h2⟩
  ·have HT:Hid (r=true):=hX (by rw[←HR.out];simp[kindP, *];try omega);clear HR;go_enter Tryz.func66,Tryz.ntmps66;go_wp2_with fail;go_ret;rw[HT.out];exact ⟨by simp[*],(Below.refl _ _).alloc (Nat.le_refl _) _⟩
  ·have HT:Hid (r=false):=hX (by rw[←HR.out];simp[kindP, *];try omega);clear HR;go_enter Tryz.func66,Tryz.ntmps66;go_wp2_with fail;go_ret;rw[HT.out];exact ⟨by simp[*],(Below.refl _ _).alloc (Nat.le_refl _) _⟩
 ·skip
  rcases eqn_ways n 0 with ⟨h1,h2⟩ | ⟨h1,h2⟩
  ·have HT:Hid (r=true):=hX (by rw[←HR.out];simp[kindP, *];try omega);clear HR;go_enter Tryz.func66,Tryz.ntmps66;go_wp2_with fail;go_ret;rw[HT.out];exact ⟨by simp[*],(Below.refl _ _).alloc (Nat.le_refl _) _⟩
  ·have HT:Hid (r=false):=hX (by rw[←HR.out];simp[kindP, *];try omega);clear HR;go_enter Tryz.func66,Tryz.ntmps66;go_wp2_with fail;go_ret;rw[HT.out];exact ⟨by simp[*],(Below.refl _ _).alloc (Nat.le_refl _) _⟩
 ·skip
  rcases empty_ways text with ⟨t0,t1⟩ | ⟨t0,t1⟩
  rotate_left
  ·have HT:Hid (r=false):=hX (by rw[←HR.out];simp[kindP, *];try omega);clear HR;go_enter Tryz.func66,Tryz.ntmps66;go_wp2_with fail;go_ret;rw[HT.out];exact ⟨by simp[*],(Below.refl _ _).alloc (Nat.le_refl _) _⟩
  rcases eqn_ways n f4 with ⟨h1,h2⟩ | ⟨h1,h2⟩
  ·have HT:Hid (r=true):=hX (by rw[←HR.out];simp[kindP, *];try omega);clear HR;go_enter Tryz.func66,Tryz.ntmps66;go_wp2_with fail;go_ret;rw[HT.out];exact ⟨by simp[*],(Below.refl _ _).alloc (Nat.le_refl _) _⟩
  ·have HT:Hid (r=false):=hX (by rw[←HR.out];simp[kindP, *];try omega);clear HR;go_enter Tryz.func66,Tryz.ntmps66;go_wp2_with fail;go_ret;rw[HT.out];exact ⟨by simp[*],(Below.refl _ _).alloc (Nat.le_refl _) _⟩
 ·skip
  rcases eqn_ways n 0 with ⟨h1,h2⟩ | ⟨h1,h2⟩
  ·have HT:Hid (r=true):=hX (by rw[←HR.out];simp[kindP, *];try omega);clear HR;go_enter Tryz.func66,Tryz.ntmps66;go_wp2_with fail;go_ret;rw[HT.out];exact ⟨by simp[*],(Below.refl _ _).alloc (Nat.le_refl _) _⟩
  ·have HT:Hid (r=false):=hX (by rw[←HR.out];simp[kindP, *];try omega);clear HR;go_enter Tryz.func66,Tryz.ntmps66;go_wp2_with fail;go_ret;rw[HT.out];exact ⟨by simp[*],(Below.refl _ _).alloc (Nat.le_refl _) _⟩
theorem unless_any (b:Bool) (n:Int) (w:World):Calls Tryz.prog 64 #[.bool b,.int .i64 n] w (IntB (if b then 0 else n) w):=by
 cases b with
 | true=>
  go_enter Tryz.func64,Tryz.ntmps64;go_wp2_with fail;go_ret;exact ⟨rfl,Below.refl _ _⟩
 | false=>
  go_enter Tryz.func64,Tryz.ntmps64;go_wp2_with fail;go_ret;exact ⟨rfl,Below.refl _ _⟩
end Go.Proofs.YtigfcihakghddaaGreatDoor.Sch
end
section
namespace Go.Proofs.YtigfcihakghddaaGreatDoor.Sch
open Go.RowKit Words Tree SchP Kit Owned
theorem infoC:(Tryz.prog.info? 103).map (fun i=>(i.zero,i.size,i.bytes))=some (some (.agg #[.int .i64 0,.string ⟨#[]⟩,.slice none 0 0]),3,48):=by kernel_rfl
end Go.Proofs.YtigfcihakghddaaGreatDoor.Sch
end
section
namespace SchP
open AnaP
section
variable (dec:FT→ByteArray→Option Int) (run:FT→ByteArray→Option Nat)
def wantN (f:FT):Int:=if f.kind=3 then 1 else if f.kind=5 then f.dims else 0
def kindOk (f:FT) (text:ByteArray) (nums:List Int):Bool:=decide ((nums.length:Int)=wantN f) && (decide (wantN f≤0) || decide (text.size=0))
def valueF (f:FT) (k:Nat) (e:ET):Option (CT × Nat):=
 if f.kind=1 then (run f e.text).map fun n=>(⟨k,e.text,[]⟩,n)
 else if f.kind=2 then (if e.text.size≤256 then some (⟨k,e.text,[]⟩,0) else none)
 else if f.kind=4 then (dec f e.text).map fun n=>(⟨k,⟨#[]⟩,[n]⟩,0)
 else some (⟨k,⟨#[]⟩,e.nums⟩,0)
def ofK (k:Nat) (out:List (CT × Nat)):List (CT × Nat):=out.filter fun c=>decide (c.1.field=k)
def sumK (k:Nat) (out:List (CT × Nat)):Nat:=((ofK k out).map (·.2)).sum
def stepF (l:List FT) (out:List (CT × Nat)) (e:ET):Except Int (CT × Nat):=match findF l e.field with
 | none=>.error 81
 | some k=>match l[k]? with
  | none=>.error 81
  | some f=>
   if kindOk f e.text e.nums=false then .error 82
   else if f.many=false∧0<(ofK k out).length then .error 84
   else match valueF dec run f k e with
    | none=>.error 83
    | some c=>if f.kind=1∧4096<sumK k out+c.2 then .error 83 else .ok c
def goF (l:List FT):List (CT × Nat)→List ET→Except Int (List (CT × Nat))
 | out,[]=>.ok out
 | out,e::d=>match stepF dec run l out e with
  | .error n=>.error n
  | .ok c=>goF l (out++[c]) d
def cellsF (l:List FT) (d:List ET):Except Int (List CT):=
 if checkS l=false then .error 80 else if 64<d.length then .error 84 else (goF dec run l [] d).map fun o=>o.map (·.1)
def oneF (l:List FT) (e:ET):Option (CT × Nat):=match findF l e.field with
 | none=>none
 | some k=>match l[k]? with
  | none=>none
  | some f=>if kindOk f e.text e.nums=false then none else valueF dec run f k e
def Fits (l:List FT) (out:List (CT × Nat)):Prop:=∀(k:Nat) (f:FT),l[k]?=some f→(f.many=false→(ofK k out).length≤1)∧(f.kind=1→sumK k out≤4096)
theorem ofK_append (k:Nat) (a b:List (CT × Nat)):ofK k (a++b)=ofK k a++ofK k b:=List.filter_append ..
theorem sumK_append (k:Nat) (a b:List (CT × Nat)):sumK k (a++b)=sumK k a+sumK k b:=by simp[sumK,ofK_append]
theorem Fits.sub {l:List FT} {a b:List (CT × Nat)} (h:b.Sublist a) (ha:Fits l a):Fits l b:=fun k f hk=>by
 obtain ⟨h1,h2⟩:=ha k f hk;have hs:(ofK k b).Sublist (ofK k a):=h.filter _;refine ⟨fun hm=>Nat.le_trans hs.length_le (h1 hm),fun hm=>Nat.le_trans ?_ (h2 hm)⟩
 have:∀{x y:List Nat},x.Sublist y→x.sum≤y.sum:=by
  intro x y hxy
  induction hxy with
  | slnil=>simp
  | cons a _ ih=>simp only[List.sum_cons];omega
  | cons_cons a _ ih=>simp only[List.sum_cons];omega
 exact this (hs.map _)
theorem Fits.nil (l:List FT):Fits l []:=fun k f hk=>by simp[ofK,sumK]
variable {dec run}
theorem oneF_field {l:List FT} {e:ET} {c:CT × Nat} (h:oneF dec run l e=some c):∃(k:Nat) (f:FT),findF l e.field=some k∧l[k]?=some f∧kindOk f e.text e.nums=true∧valueF dec run f k e=some c∧c.1.field=k:=by
 unfold oneF at h;split at h
 ·cases h
 ·rename_i k hk
  split at h
  ·cases h
  ·rename_i f hf
   split at h
   ·cases h
   ·rename_i hkk
    refine ⟨k,f,hk,hf,by simpa using hkk,h,?_⟩;unfold valueF at h;split at h
    ·cases hr:run f e.text with
     | none=>rw[hr] at h;cases h
     | some n=>rw[hr] at h;cases h;rfl
    ·split at h
     ·split at h
      ·cases h;rfl
      ·cases h
     ·split at h
      ·cases hr:dec f e.text with
       | none=>rw[hr] at h;cases h
       | some n=>rw[hr] at h;cases h;rfl
      ·cases h;rfl
theorem valueF_zero {f:FT} {k:Nat} {e:ET} {c:CT × Nat} (h:valueF dec run f k e=some c) (hf:f.kind≠1):c.2=0:=by
 unfold valueF at h;rw[if_neg hf] at h;split at h
 ·split at h
  ·cases h;rfl
  ·cases h
 ·split at h
  ·cases hr:dec f e.text with
   | none=>rw[hr] at h;cases h
   | some n=>rw[hr] at h;cases h;rfl
  ·cases h;rfl
theorem stepF_iff {l:List FT} {out:List (CT × Nat)} {e:ET} {c:CT × Nat} (ho:Fits l out):stepF dec run l out e = .ok c↔oneF dec run l e=some c∧Fits l (out++[c]):=by
 constructor
 ·intro h;unfold stepF at h;split at h
  ·cases h
  ·rename_i k hk
   split at h
   ·cases h
   ·rename_i f hf
    split at h
    ·cases h
    ·rename_i hkk
     split at h
     ·cases h
     ·rename_i hm
      split at h
      ·cases h
      ·rename_i c' hc'
       split at h
       ·cases h
       ·rename_i hs
        injection h with h;subst h
        have h1:oneF dec run l e=some c':=(by unfold oneF;simp only[hk,hf];rw[if_neg hkk];exact hc')
        obtain ⟨k',f',g1,g2,_,g3,g4⟩:=oneF_field h1;rw[hk] at g1;cases g1;refine ⟨h1,fun j g hj=>?_⟩;rw[ofK_append,sumK_append,List.length_append];by_cases hjk:j=k
        ·subst hjk;rw[hf] at hj;cases hj;refine ⟨fun hmm=>?_,fun hmm=>?_⟩
         ·have:(ofK j out).length=0:=by
           rcases Nat.eq_zero_or_pos (ofK j out).length with h0 | h0
           ·exact h0
           ·exact absurd ⟨hmm,h0⟩ hm
          rw[this];have:=List.length_filter_le (fun c:CT × Nat=>decide (c.1.field=j)) [c'];simpa [ofK] using this
         ·have:sumK j [c']=c'.2:=by simp[sumK,ofK,g4]
          rw[this];omega
        ·have h0:ofK j [c']=[]:=by
          simp only[ofK,List.filter_cons,List.filter_nil,g4];rw[if_neg (by simp;omega)]
         have h1:sumK j [c']=0:=by simp[sumK,h0]
         rw[h0,h1];exact ho j g hj
 ·rintro ⟨h1,h2⟩;obtain ⟨k,f,g1,g2,g3,g4,g5⟩:=oneF_field h1;obtain ⟨h3,h4⟩:=h2 k f g2;have e1:(ofK k [c])=[c]:=by simp[ofK,g5]
  have e2:sumK k [c]=c.2:=by simp[sumK,e1]
  rw[ofK_append,e1,List.length_append,List.length_singleton] at h3;rw[sumK_append,e2] at h4;unfold stepF;simp only[g1,g2,g3,g4];rw[if_neg (by simp),if_neg (by rintro ⟨hm,h0⟩;have:=h3 hm;omega),if_neg (by rintro ⟨hm,h0⟩;have:=h4 hm;omega)]
theorem goF_iff {l:List FT}:∀{d:List ET} {out r:List (CT × Nat)},Fits l out→(goF dec run l out d = .ok r↔∃cs,d.map (oneF dec run l)=cs.map some∧r=out++cs∧Fits l (out++cs))
 | [],out,r,ho=>by
  simp only[goF,List.map_nil];constructor
  ·intro h;injection h with h;exact ⟨[],rfl,by simp[h],by simpa using ho⟩
  ·rintro ⟨cs,h1,h2,_⟩;have:cs=[]:=by cases cs <;> simp_all
   subst this;rw[h2,List.append_nil]
 | e::d,out,r,ho=>by
  simp only[goF,List.map_cons]
  cases hs:stepF dec run l out e with
  | error n=>
   constructor
   ·intro h;cases h
   ·rintro ⟨cs,h1,h2,h3⟩
    cases cs with
    | nil=>simp at h1
    | cons c cs=>
     simp only[List.map_cons,List.cons.injEq] at h1;have:=(stepF_iff (dec:=dec) (run:=run) (e:=e) (c:=c) ho).2 ⟨h1.1,Fits.sub (a:=out++c::cs) (List.Sublist.append_left (by simp) _) h3⟩;rw[hs] at this;cases this
  | ok c=>
   obtain ⟨h1,h2⟩:=(stepF_iff ho).1 hs;dsimp only;rw[goF_iff h2];constructor
   ·rintro ⟨cs,h3,h4,h5⟩;exact ⟨c::cs,by simp[h1,h3],by simp[h4],by simpa using h5⟩
   ·rintro ⟨cs,h3,h4,h5⟩
    cases cs with
    | nil=>simp at h3
    | cons c' cs=>
     simp only[List.map_cons,List.cons.injEq] at h3;obtain ⟨h3,h6⟩:=h3;rw[h1] at h3;cases h3;exact ⟨cs,h6,by simp[h4],by simpa using h5⟩
theorem cellsF_iff {l:List FT} {d:List ET} {r:List CT}:cellsF dec run l d = .ok r↔checkS l=true∧d.length≤64∧∃cs,d.map (oneF dec run l)=cs.map some∧r=cs.map (·.1)∧Fits l cs:=by
 unfold cellsF;by_cases h1:checkS l=false
 ·rw[if_pos h1];constructor
  ·intro h;cases h
  ·rintro ⟨h,_⟩;rw[h1] at h;cases h
 ·rw[if_neg h1];by_cases h2:64<d.length
  ·rw[if_pos h2];constructor
   ·intro h;cases h
   ·rintro ⟨_,h,_⟩;omega
  ·rw[if_neg h2];constructor
   ·intro h
    cases hg:goF dec run l [] d with
    | error n=>rw[hg] at h;cases h
    | ok o=>
     rw[hg] at h;injection h with h;obtain ⟨cs,h3,h4,h5⟩:=(goF_iff (Fits.nil l)).1 hg;rw[List.nil_append] at h4 h5;subst h4;exact ⟨by simpa using h1,by omega,o,h3,h.symm,h5⟩
   ·rintro ⟨_,_,cs,h3,h4,h5⟩;have:=(goF_iff (dec:=dec) (run:=run) (d:=d) (r:=cs) (Fits.nil l)).2 ⟨cs,h3,by simp,by simpa using h5⟩;rw[this,h4];rfl
variable (txt:FT→Int→ByteArray)
theorem may_of {l:List FT} (h:checkS l=true) {k:Nat} {f:FT} (hk:l[k]?=some f):mayB f=true:=by
 obtain ⟨hk1,rfl⟩:=List.getElem?_eq_some_iff.1 hk;unfold checkS at h;simp only[Bool.and_eq_true] at h;have h2:=h.2;unfold okTo at h2;rw[List.all_eq_true] at h2;have h3:=h2 k (List.mem_range.2 hk1);rw[okAt_eq hk1,Bool.and_eq_true] at h3;exact h3.2
theorem kind_of {f:FT} (h:mayB f=true):f.kind=1∨f.kind=2∨f.kind=3∨f.kind=4∨(f.kind=5∧1≤f.dims∧f.dims≤4):=by
 unfold mayB at h;simp only[Bool.and_eq_true] at h;have h2:=h.2;unfold kindB at h2;split at h2
 ·exact .inl ‹_›
 ·split at h2
  ·omega
  ·split at h2
   ·omega
   ·split at h2
    ·rename_i h5
     have:=of_decide_eq_true h2;exact .inr (.inr (.inr (.inr ⟨h5,this⟩)))
    ·cases h2
end
end SchP
end
section
namespace OrdP
open Go.Lib Go
def digB (b:UInt8):Bool:=decide (48≤b.toNat∧b.toNat≤57)
def valG (acc:Nat):List UInt8→Nat
 | []=>acc
 | c::r=>valG (acc*10+(c.toNat - 48)) r
def val (l:List UInt8):Nat:=valG 0 l
def zeros (n:Nat):List UInt8:=List.replicate n 48
def fin (below:Bool) (ds:List UInt8):Option Int:=
 if below then (if val ds≤9223372036854775808 then some (-(val ds:Int)) else none) else if val ds<9223372036854775808 then some (val ds:Int) else none
def below (l:List UInt8):Bool:=decide (l.head?=some 45)
def size (l:List UInt8):List UInt8:=if below l then l.drop 1 else l
def decF (l:List UInt8) (scale:Nat):Option Int:=
 let w:=(size l).takeWhile digB;let r:=(size l).dropWhile digB;if w.length=0∨19<w.length∨(1<w.length∧w.getD 0 0=48) then none
 else if r=[] then fin (below l) (w++zeros scale)
 else if r.getD 0 0=46∧(r.drop 1).all digB=true∧1≤(r.drop 1).length∧(r.drop 1).length≤scale then fin (below l) (w++r.drop 1++zeros (scale - (r.drop 1).length))
 else none
theorem valG_le:∀(l:List UInt8) (acc:Nat),acc≤valG acc l
 | [],_=>Nat.le_refl _
 | c::l,acc=>by have:=valG_le l (acc*10+(c.toNat - 48));show acc≤valG _ l;omega
theorem zeros_digits (n:Nat):(zeros n).all digB=true:=by
 rw[List.all_eq_true];intro x hx;rw[(List.mem_replicate.1 hx).2];rfl
theorem parseM_step (M acc:Nat) (c:UInt8) (l:List UInt8) (hc:48≤c.toNat∧c.toNat≤57) :
 parseUintM M acc (c::l)=if 1844674407370955162≤acc then .range else if M<acc*10+(c.toNat - 48) then .range else parseUintM M (acc*10+(c.toNat - 48)) l:=by
 rw[parseUintM,if_pos hc]
theorem parseM_digits (M:Nat) (hM:M=18446744073709551615) (l:List UInt8):∀(acc:Nat),acc≤M→l.all digB=true→parseUintM M acc l=if valG acc l≤M then .ok (valG acc l) else .range:=by
 induction l with
 | nil=>intro acc ha _;exact (if_pos ha).symm
 | cons c l ih=>
  intro acc _ h;simp only[List.all_cons,Bool.and_eq_true] at h;have hc:48≤c.toNat∧c.toNat≤57:=of_decide_eq_true h.1;have hle:=valG_le l (acc*10+(c.toNat - 48));have e:valG acc (c::l)=valG (acc*10+(c.toNat - 48)) l:=rfl;rw[parseM_step M acc c l hc,e];by_cases h1:1844674407370955162≤acc
  ·have hn:¬valG (acc*10+(c.toNat - 48)) l≤M:=by omega
   exact (if_pos h1).trans (if_neg hn).symm
  ·refine (if_neg h1).trans ?_;by_cases h2:M<acc*10+(c.toNat - 48)
   ·have hn:¬valG (acc*10+(c.toNat - 48)) l≤M:=by omega
    exact (if_pos h2).trans (if_neg hn).symm
   ·have h3:acc*10+(c.toNat - 48)≤M:=by omega
    exact (if_neg h2).trans (ih _ h3 h.2)
theorem head_digit {c:UInt8} {l:List UInt8} (h:(c::l).all digB=true):c.toNat≠43∧c.toNat≠45:=by
 simp only[List.all_cons,Bool.and_eq_true] at h;have hc:48≤c.toNat∧c.toNat≤57:=of_decide_eq_true h.1;omega
def endOf:Option Int→NumEnd Int
 | some v=>.ok v
 | none=>.range
theorem parseU_digits (l:List UInt8) (hne:l≠[]) (h:l.all digB=true):parseUintB 64 l=if val l≤18446744073709551615 then .ok (val l) else .range:=by
 unfold parseUintB;rw[if_neg hne,parseM_digits _ (by rfl) l 0 (by omega) h];rfl
theorem parse_fin (b:Bool) (l:List UInt8) (hne:l≠[]) (h:l.all digB=true):parseIntB 64 (if b then 45::l else l)=endOf (fin b l):=by
 cases b with
 | true=>
  rw[if_pos rfl,parseIntB_minus,parseU_digits l hne h];unfold fin;rw[if_pos rfl];by_cases h1:val l≤9223372036854775808
  ·rw[if_pos (by omega),if_pos h1];simp only[signedC,endOf];rw[if_neg (by omega)]
  ·rw[if_neg h1];by_cases h2:val l≤18446744073709551615
   ·rw[if_pos h2];simp only[signedC,endOf];rw[if_pos (by omega)]
   ·rw[if_neg h2];rfl
 | false=>
  obtain ⟨c,r,rfl⟩:∃c r,l=c::r:=by cases l with | nil=>exact (hne rfl).elim | cons c r=>exact ⟨c,r,rfl⟩
  obtain ⟨h43,h45⟩:=head_digit h;simp only[Bool.false_eq_true,if_false];rw[parseIntB_plain 64 c r h43 h45,parseU_digits _ hne h];unfold fin;simp only[Bool.false_eq_true,if_false];by_cases h1:val (c::r)<9223372036854775808
  ·rw[if_pos (by omega),if_pos h1];simp only[signlessC,endOf];rw[if_neg (by omega)]
  ·rw[if_neg h1];by_cases h2:val (c::r)≤18446744073709551615
   ·rw[if_pos h2];simp only[signlessC,endOf];rw[if_pos (by omega)]
   ·rw[if_neg h2];rfl
theorem take_all (p:UInt8→Bool):∀l:List UInt8,l.all p=true→l.takeWhile p=l∧l.dropWhile p=[]
 | [],_=>⟨rfl,rfl⟩
 | c::l,h=>by simp only[List.all_cons,Bool.and_eq_true] at h;obtain ⟨h1,h2⟩:=take_all p l h.2;simp[h.1,h1,h2]
theorem take_app (p:UInt8→Bool):∀(l r:List UInt8),l.all p=true→(∀c,r.head?=some c→p c=false)→(l++r).takeWhile p=l∧(l++r).dropWhile p=r
 | [],[],_,_=>⟨rfl,rfl⟩
 | [],c::r,_,h=>by have:=h c rfl;simp[this]
 | c::l,r,h,hr=>by simp only[List.all_cons,Bool.and_eq_true] at h;obtain ⟨h1,h2⟩:=take_app p l r h.2 hr;simp[h.1,h1,h2]
theorem take_stop (p:UInt8→Bool):∀(l r:List UInt8),l.all p=false→(∃c,((l++r).dropWhile p).head?=some c∧c∈l∧p c=false)
 | [],_,h=>by cases h
 | c::l,r,h=>by
  by_cases hc:p c=true
  ·simp only[List.all_cons,hc,Bool.true_and] at h;obtain ⟨d,h1,h2,h3⟩:=take_stop p l r h;exact ⟨d,by rw[List.cons_append,List.dropWhile_cons,if_pos hc];exact h1,by simp[h2],h3⟩
  ·have hc':p c=false:=by simpa using hc
   exact ⟨c,by simp[hc'],by simp,hc'⟩
def digsF (l:List UInt8) (a b:Nat):Bool:=decide (a≤l.length∧l.length≤b) && l.all digB
def okP (whole part:List UInt8) (point:Bool) (scale:Nat):Bool:=
 digsF whole 1 19 && !(decide (1<whole.length) && decide (whole.getD 0 0=48)) && (!point || digsF part 1 scale)
def CutAt (l whole part:List UInt8) (point:Bool):Prop:=
 (point=false∧whole=l∧part=[]∧46∉l)∨(point=true∧l=whole++46::part∧46∉whole)
theorem decF_cut (l whole part:List UInt8) (point:Bool) (scale:Nat) (h:CutAt (size l) whole part point) :
 decF l scale=if okP whole part point scale then fin (below l) (whole++part++zeros (scale - part.length)) else none:=by
 have hd46:digB 46=false:=by decide
 unfold decF okP digsF
 rcases h with ⟨rfl,rfl,rfl,hno⟩ | ⟨rfl,hl,hno⟩
 ·by_cases hw:(size l).all digB=true
  ·obtain ⟨h1,h2⟩:=take_all digB _ hw;simp only[h1,h2,hw,if_true,Bool.and_true,Bool.not_false,Bool.true_or,List.append_nil,List.length_nil,Nat.sub_zero];by_cases c:(size l).length=0∨19<(size l).length∨(1<(size l).length∧(size l).getD 0 0=48)
   ·rw[if_pos c,if_neg];simp only[Bool.and_eq_true,decide_eq_true_eq,Bool.not_eq_true',Bool.and_eq_false_imp,decide_eq_false_iff_not];rintro ⟨c1,c2⟩;rcases c with c | c | c
    ·omega
    ·omega
    ·exact c2 c.1 c.2
   ·rw[if_neg c,if_pos];simp only[Bool.and_eq_true,decide_eq_true_eq,Bool.not_eq_true',Bool.and_eq_false_imp,decide_eq_false_iff_not];exact ⟨by omega,fun c1 c2=>c (.inr (.inr ⟨c1,c2⟩))⟩
  ·have hw':(size l).all digB=false:=by simpa using hw
   obtain ⟨c,hc,hm,hn⟩:=take_stop digB (size l) [] hw';rw[List.append_nil] at hc;have hne:(size l).dropWhile digB≠[]:=by intro e;rw[e] at hc;cases hc
   have hc46:((size l).dropWhile digB).getD 0 0≠46:=by
    intro e
    cases hx:(size l).dropWhile digB with
    | nil=>exact hne hx
    | cons d r=>
     rw[hx] at hc e;have:d=c:=Option.some.inj hc;rw[List.getD_cons_zero] at e;rw[←this,e] at hm;exact hno hm
   simp only[hw',Bool.and_false,Bool.false_and,Bool.false_eq_true,if_false];by_cases c1:((size l).takeWhile digB).length=0∨19<((size l).takeWhile digB).length∨(1<((size l).takeWhile digB).length∧((size l).takeWhile digB).getD 0 0=48)
   ·rw[if_pos c1]
   ·rw[if_neg c1,if_neg hne,if_neg (fun h=>hc46 h.1)]
 ·rw[hl];by_cases hw:whole.all digB=true
  ·obtain ⟨h1,h2⟩:=take_app digB whole (46::part) hw (by intro c hc;cases hc;exact hd46);simp only[h1,h2,hw,Bool.and_true,Bool.not_true,Bool.false_or,List.getD_cons_zero,true_and,List.drop_succ_cons,List.drop_zero];by_cases c:whole.length=0∨19<whole.length∨(1<whole.length∧whole.getD 0 0=48)
   ·rw[if_pos c,if_neg];simp only[Bool.and_eq_true,decide_eq_true_eq,Bool.not_eq_true',Bool.and_eq_false_imp,decide_eq_false_iff_not];rintro ⟨⟨c1,c2⟩,_⟩;rcases c with c | c | c
    ·omega
    ·omega
    ·exact c2 c.1 c.2
   ·rw[if_neg c,if_neg (by simp)]
    have e:((decide (1≤whole.length∧whole.length≤19) && !(decide (1<whole.length) && decide (whole.getD 0 0=48))) && (decide (1≤part.length∧part.length≤scale) && part.all digB))=decide (part.all digB=true∧1≤part.length∧part.length≤scale):=by
     rw[Bool.eq_iff_iff];simp only[Bool.and_eq_true,decide_eq_true_eq,Bool.not_eq_true',Bool.and_eq_false_imp,decide_eq_false_iff_not];constructor
     ·rintro ⟨_,h1,h2⟩;exact ⟨h2,h1⟩
     ·rintro ⟨h1,h2⟩;exact ⟨⟨by omega,fun c1 c2=>c (.inr (.inr ⟨c1,c2⟩))⟩,h2,h1⟩
    rw[e];simp only[decide_eq_true_eq]
  ·have hw':whole.all digB=false:=by simpa using hw
   obtain ⟨c,hc,hm,hn⟩:=take_stop digB whole (46::part) hw';have hne:(whole++46::part).dropWhile digB≠[]:=by intro e;rw[e] at hc;cases hc
   have hc46:((whole++46::part).dropWhile digB).getD 0 0≠46:=by
    intro e
    cases hx:(whole++46::part).dropWhile digB with
    | nil=>exact hne hx
    | cons d r=>
     rw[hx] at hc e;have:d=c:=Option.some.inj hc;rw[List.getD_cons_zero] at e;rw[←this,e] at hm;exact hno hm
   simp only[hw',Bool.and_false,Bool.false_and,Bool.false_eq_true,if_false];by_cases c1:((whole++46::part).takeWhile digB).length=0∨19<((whole++46::part).takeWhile digB).length∨(1<((whole++46::part).takeWhile digB).length∧((whole++46::part).takeWhile digB).getD 0 0=48)
   ·rw[if_pos c1]
   ·rw[if_neg c1,if_neg hne,if_neg (fun h=>hc46 h.1)]
end OrdP
end
