/- Lemmas that the last text leans on. -/
import Derived.Test.YtplkbdncgkgppaaGreatDoorTake
import Derived.Test.YtplkbdncgkgppaaGreatDoorPack2
import Derived.Test.YtplkbdncgkgppaaGreatDoorPack11
import Derived.Test.YtplkbdncgkgppaaGreatDoorPack12
import Derived.Test.YtplkbdncgkgppaaGreatDoorPack9
set_option linter.all false
set_option maxRecDepth 100000
set_option maxHeartbeats 8000000
section
namespace QryP
open SchP
abbrev R:=List UInt8
abbrev E (α:Type):=Except (Nat × Int) α
def zto (c:UInt8):Bool:=decide (c=9∨c=10∨c=13∨c=32)
def digB (c:UInt8):Bool:=decide (48≤c.toNat∧c.toNat≤57)
def zc7 (c:UInt8):Bool:=decide (97≤c.toNat∧c.toNat≤122) || digB c || decide (c=95)
def zah (r:R):R:=r.dropWhile zto
def zam (c:UInt8) (r:R):E R:=match zah r with
 | []=>.error (0,180)
 | x::t=>if x=c then .ok t else .error (t.length+1,180)
def bytes (l:R):ByteArray:=⟨l.toArray⟩
def zei (r:R):E (ByteArray × R):=if zb4 (bytes ((zah r).takeWhile zc7)) then .ok (bytes ((zah r).takeWhile zc7),(zah r).dropWhile zc7) else .error ((zah r).length,180)
section
variable (num:Int→R) (par:R→Option Int)
def zh9 (f:R):R:=if f.head?=some 45 then [45] else []
def zk1 (f:R):R:=if f.head?=some 45 then f.drop 1 else f
def zha (r:R):E (Int × R):=match par (zh9 (zah r)++(zk1 (zah r)).takeWhile digB) with
 | none=>.error ((zah r).length,180)
 | some n=>if num n=zh9 (zah r)++(zk1 (zah r)).takeWhile digB then .ok (n,(zk1 (zah r)).dropWhile digB) else .error ((zah r).length,180)
def zhu:Nat→R→E (List Int × R)
 | 0,_=>.error (0,0)
 | m+1,r=>match zha num par r with
  | .error e=>.error e
  | .ok (n,r1)=>match zah r1 with
    | []=>.ok ([n],[])
    | c::t=>if ¬(c=45∨digB c=true) then .ok ([n],c::t) else if (c::t).length=r1.length then .error (r1.length,180) else match zhu m (c::t) with
     | .error e=>.error e
     | .ok (l,r2)=>.ok (n::l,r2)
end
def zpd (c:UInt8):Option Nat:=if digB c then some (c.toNat - 48) else if 65≤c.toNat∧c.toNat≤70 then some (c.toNat - 55) else none
def zgl (c:UInt8):E (R × R)→E (R × R)
 | .error e=>.error e
 | .ok (b,r)=>.ok (c::b,r)
def ze4 (at_:Nat):R→E (R × R)
 | []=>.error (at_,180)
 | c::t=>
  if c=34 then .ok ([],t)
  else if c=10 then .error (at_,180)
  else if c≠92 then zgl c (ze4 at_ t)
  else match t with
   | []=>.error (at_,180)
   | d::t'=>if d=34∨d=92 then zgl d (ze4 at_ t')
    else match t' with
     | a::b::t''=>match zpd a,zpd b with
      | some x,some y=>if d=120 then zgl (UInt8.ofNat (16*x+y)) (ze4 at_ t'') else .error (at_,180)
      | _,_=>.error (at_,180)
     | _=>.error (at_,180)
def zfc (r:R):E (ByteArray × R):=match zam 34 r with
 | .error e=>.error e
 | .ok t=>match ze4 (zah r).length t with
  | .error e=>.error e
  | .ok (b,r')=>.ok (bytes b,r')
def zdg (f:Int→R) (w:R):Nat→Option Int
 | 0=>none
 | k+1=>match zdg f w k with
  | some i=>some i
  | none=>if f (k+1:Nat)=w then some ((k+1:Nat):Int) else none
def zdo (d:Nat) (r:R):E (Int × R):=match zdg wordF ((zah r).takeWhile zc7) 10 with
 | none=>.error ((zah r).length,180)
 | some k=>if d=0 then .error ((zah r).length,182) else .ok (k,(zah r).dropWhile zc7)
def opS (r:R):E (Int × R):=match zdg opF ((zah r).takeWhile zc7) 3 with
 | none=>.error ((zah r).length,180)
 | some k=>.ok (k,(zah r).dropWhile zc7)
def zd0 (c:UInt8):Int:=if c=43 then 1 else if c=63 then 2 else if c=45 then 3 else if c=61 then 4 else 0
def zc8 (o:Int):QT→QT | .mk k _ f t u l h b p ks=>.mk k o f t u l h b p ks
def zbo (qs:R→E (QT × R)):Nat→R→E (List QT × R)
 | 0,_=>.error (0,0)
 | m+1,r=>match zah r with
  | []=>.error (0,180)
  | c::t=>if zd0 c=0 then .error (t.length+1,180) else match qs t with
   | .error e=>.error e
   | .ok (k,r1)=>match zah r1 with
     | 44::r3=>(match zbo qs m r3 with
      | .error e=>.error e
      | .ok (ks,r4)=>.ok (zc8 (zd0 c) k::ks,r4))
     | r2=>.ok ([zc8 (zd0 c) k],r2)
def emp:ByteArray:=⟨#[]⟩
section
variable (num:Int→R) (par:R→Option Int)
def zf4 (qs:R→E (QT × R)) (k:Int) (r:R):E (QT × R):=
 if k=8 then (match zah r with
  | 41::t=>.ok (.mk 8 0 emp emp emp [] [] 0 0 [],t)
  | _=>do
   let (ks,r1) ←zbo qs (r.length+1) r;let r2 ←zam 41 r1
   pure (.mk 8 0 emp emp emp [] [] 0 0 ks,r2))
 else if k=9 then do
  let (b,r1) ←zha num par r;if b<0∨1048576<b then .error ((zah r).length,180)
  let r2 ←zam 44 r1;let (q,r3) ←qs r2;let r4 ←zam 41 r3;pure (.mk 9 0 emp emp emp [] [] b 0 [q],r4)
 else if k=10 then do
  let (o,r1) ←opS r;let r2 ←zam 44 r1;let (f,r3) ←zei r2;let r4 ←zam 44 r3;let (n,r5) ←zha num par r4;let r6 ←zam 44 r5;let (q,r7) ←qs r6;let r8 ←zam 41 r7;pure (.mk 10 0 f emp emp [n] [] 0 o [q],r8)
 else if k=7 then do
  let (f,r1) ←zei r;let r2 ←zam 44 r1;let (lo,r3) ←zhu num par (r2.length+1) r2;let r4 ←zam 44 r3;let (hi,r5) ←zhu num par (r4.length+1) r4;if lo.length≠hi.length∨4<lo.length then .error ((zah r5).length,180)
  let r6 ←zam 41 r5;pure (.mk 7 0 f emp emp lo hi 0 0 [],r6)
 else do
  let (f,r1) ←zei r;let r2 ←zam 44 r1;let (t,r3) ←zfc r2
  if k=6 then
   let r4 ←zam 44 r3;let (u,r5) ←zfc r4;let r6 ←zam 41 r5;pure (.mk 6 0 f t u [] [] 0 0 [],r6)
  else
   let r4 ←zam 41 r3;pure (.mk k 0 f t emp [] [] 0 0 [],r4)
def zaz:Nat→R→E (QT × R)
 | 0,r=>match zdo 0 r with
  | .error e=>.error e
  | .ok _=>.error (0,0)
 | d+1,r=>match zdo (d+1) r with
  | .error e=>.error e
  | .ok (k,r1)=>if k=1∨k=2 then .ok (.mk k 0 emp emp emp [] [] 0 0 [],r1) else match zam 40 r1 with
    | .error e=>.error e
    | .ok r2=>zf4 num par (zaz d) k r2
def zbh (r:R):E QT:=if 4096<r.length then .error (r.length,3) else match zaz num par 6 r with
 | .error e=>.error e
 | .ok (q,r1)=>match zah r1 with
   | []=>.ok q
   | _::t=>.error (t.length+1,180)
end
end QryP
end
section
namespace QryP
open SchP
def Stop (r:R):Prop:=∀c t,r=c::t→c=44∨c=41
theorem yek {s:ByteArray} (h:zb4 s=true):s.data.toList≠[]:=by
 simp only[zb4,Bool.and_eq_true,decide_eq_true_eq] at h;intro h0;have:s.size=0:=by show s.data.size=0;rw[←Array.length_toList,h0];rfl
 omega
section
variable {num:Int→R} {par:R→Option Int} {I:Int→Prop}
theorem yel (p:Nat) (c:UInt8) (t:R) (h1:c≠34) (h2:c≠10) (h3:c≠92):ze4 p (c::t)=zgl c (ze4 p t):=by
 rw[ze4.eq_def];dsimp only;rw[if_neg h1,if_neg h2,if_pos h3]
theorem yem (p:Nat) (t:R):ze4 p (34::t) = .ok ([],t):=by
 rw[ze4.eq_def];dsimp only;rw[if_pos rfl]
end
end QryP
end
section
namespace QryP
open SchP
section
variable {num:Int→R} {par:R→Option Int} {I:Int→Prop}
mutual
def zfz (I:Int→Prop):QT→Prop
 | .mk _ _ _ _ _ l h b _ ks=>(∀z∈l,I z)∧(∀z∈h,I z)∧I b∧zb9 I ks
def zb9 (I:Int→Prop):List QT→Prop
 | []=>True
 | q::qs=>zfz I q∧zb9 I qs
end
def Reads (num:Int→R) (par:R→Option Int) (d:Nat) (q:QT) (rest:R):Prop:=
 (zhc q≤d→zaz num par d (zbw num q++rest) = .ok (zc8 0 q,rest))∧(d<zhc q→∃p,zaz num par d (zbw num q++rest) = .error (p,182))
theorem zxm {s:ByteArray} (h:s.size=0):s=emp:=by
 apply ByteArray.ext;exact Array.eq_empty_of_size_eq_zero h
theorem ztp {α:Type} {l:List α} (h:l.length=0):l=[]:=List.eq_nil_of_length_eq_zero h
theorem ydj {q:QT} {u:Int} (h:zf2 q u=true):(u=8→1≤oc q∧oc q≤4)∧(u≠8→oc q=0):=by
 simp only[zf2,Bool.and_eq_true] at h;have h1:=h.1.1.1.1.1.1.1.1;refine ⟨fun e=>?_,fun e=>?_⟩
 ·rw[if_pos e] at h1;exact of_decide_eq_true h1
 ·rw[if_neg e] at h1;exact of_decide_eq_true h1
theorem zmx {q:QT} (h:oc q=0):zc8 0 q=q:=by cases q;simp only[oc] at h;subst h;rfl
section
variable {qs:R→E (QT × R)} {m:Nat} {r t rest:R} {c:UInt8} {k:QT}
end
theorem zk2 {k o:Int} {f t u:ByteArray} {l h:List Int} {b p:Int} {ks:List QT} {under:Int} (hw:zf2 (.mk k o f t u l h b p ks) under=true) :
 (1≤k∧k≤10)∧((3≤k∧k≤7∨k=10)→zb4 f=true)∧(¬(3≤k∧k≤7∨k=10)→f=emp)∧(¬(3≤k∧k≤6)→t=emp)∧(k≠6→u=emp)∧(k=7→1≤l.length∧l.length≤4∧h.length=l.length)∧(k=10→l.length=1∧h=[])
 ∧(k≠7→k≠10→l=[]∧h=[])∧(k=9→0≤b∧b≤1048576)∧(k≠9→b=0)∧(k=10→1≤p∧p≤3)∧(k≠10→p=0)∧((k=9∨k=10)→ks.length=1)∧(k≠8→¬(k=9∨k=10)→ks=[]):=by
 have h':((((((((if under=8 then decide (1≤o∧o≤4) else decide (o=0)) && decide (1≤k∧k≤10)) && (if 3≤k∧k≤7∨k=10 then zb4 f else decide (f.size=0)))
  && (decide (3≤k∧k≤6) || decide (t.size=0))) && (decide (k=6) || decide (u.size=0)))
  && (if k=7 then decide (1≤l.length∧l.length≤4∧h.length=l.length) else if k=10 then decide (l.length=1∧h.length=0) else decide (l.length=0∧h.length=0)))
  && (if k=9 then decide (0≤b∧b≤1048576) else decide (b=0)))
  && (if k=10 then decide (1≤p∧p≤3) else decide (p=0))
  && (if k=9∨k=10 then decide (ks.length=1) else decide (k=8) || decide (ks.length=0)))=true:=hw
 simp only[Bool.and_eq_true] at h';obtain ⟨⟨⟨⟨⟨⟨⟨⟨_,hk⟩,hfd⟩,htx⟩,hup⟩,hnum⟩,hbo⟩,hop⟩,hkd⟩:=h';refine ⟨of_decide_eq_true hk,fun e=>?_,fun e=>?_,fun e=>?_,fun e=>?_,fun e=>?_,fun e=>?_,fun e e'=>?_,fun e=>?_,fun e=>?_,fun e=>?_,fun e=>?_,fun e=>?_,fun e e'=>?_⟩
 ·rwa [if_pos e] at hfd
 ·rw[if_neg e] at hfd;exact zxm (of_decide_eq_true hfd)
 ·rw[decide_eq_false e,Bool.false_or] at htx;exact zxm (of_decide_eq_true htx)
 ·rw[decide_eq_false e,Bool.false_or] at hup;exact zxm (of_decide_eq_true hup)
 ·rw[if_pos e] at hnum;exact of_decide_eq_true hnum
 ·rw[if_neg (by omega),if_pos e] at hnum;have:=of_decide_eq_true hnum;exact ⟨this.1,ztp this.2⟩
 ·rw[if_neg e,if_neg e'] at hnum;have:=of_decide_eq_true hnum;exact ⟨ztp this.1,ztp this.2⟩
 ·rw[if_pos e] at hbo;exact of_decide_eq_true hbo
 ·rw[if_neg e] at hbo;exact of_decide_eq_true hbo
 ·rw[if_pos e] at hop;exact of_decide_eq_true hop
 ·rw[if_neg e] at hop;exact of_decide_eq_true hop
 ·rw[if_pos e] at hkd;exact of_decide_eq_true hkd
 ·rw[if_neg e',decide_eq_false e,Bool.false_or] at hkd;exact ztp (of_decide_eq_true hkd)
end
end QryP
end
section
namespace Go.Proofs.YtplkbdncgkgppaaGreatDoor.Qry
open Go.RowKit Words Tree QryP Kit Sch SchP
theorem zmy {f:ByteArray} (h:zb4 f=true):f.toList.isEmpty=false:=by
 have:=yek h;rw[ByteArray.toList_eq]
 cases hf:f.data.toList with
 | nil=>exact absurd hf this
 | cons=>rfl
theorem zgz {u:Int}:∀{ks:List QT},zat u ks=true→∀k∈ks,za0 u k=true
 | [],_,k,h=>by cases h
 | a::l,hf,k,h=>by
  rw[zat,Bool.and_eq_true] at hf;rcases List.mem_cons.1 h with rfl | h
  ·exact hf.1
  ·exact zgz hf.2 k h
theorem yen {u:Int} {k:QT} (h:za0 u k=true):oc k=0∨oc k=1∨oc k=2∨oc k=3∨oc k=4:=by
 rw[ze6,Bool.and_eq_true] at h;have:=ydj h.1;by_cases hu:u=8
 ·have:=this.1 hu;omega
 ·have:=this.2 hu;omega
mutual
def yf1:QT→Bool
 | .mk k _ _ _ _ _ _ _ _ ks=>(k == 1 || k == 2 || k == 3 || k == 4 || k == 8 || k == 9) && yh6 ks
def yh6:List QT→Bool
 | []=>true
 | q::qs=>yf1 q && yh6 qs
end
theorem zxn:∀{ks:List QT},yh6 ks=true→∀k∈ks,yf1 k=true
 | [],_,k,h=>by cases h
 | a::l,hf,k,h=>by
  rw[yh6,Bool.and_eq_true] at hf;rcases List.mem_cons.1 h with rfl | h
  ·exact hf.1
  ·exact zxn hf.2 k h
theorem zpe:∀(n:Nat) (q:QT) (B b:Nat) (l:List UInt8) (vs:List Value) (w:World) (under:Int),q.sz≤n→za0 under q=true→yf1 q=true→Ok q→T.AtL bare w (fun g=>g<B) (cells q) vs→Buf B b l w→
 (∀W,Below B w W→Lib.TabIs Tryz.prog W "internal/strconv.uint64pow10" .u64 Lib.pow10Tab)→l.length+(zbw zap q).length+100≤zfx→
 Calls Tryz.prog 55 #[.pointer (some ⟨b,0,none⟩),.agg vs.toArray] w (zl4 B b l (zbw zap q) w)
 | n,.mk k o f t u lo hi bo op ks,B,b,l,vs,w,under,hn,hf,hw,hok,ha,hb,hp,hl=>by
  have hn1:1≤n:=by have:=QT.sz_pos (.mk k o f t u lo hi bo op ks);omega
  rw[ze6,Bool.and_eq_true] at hf;obtain ⟨hown,hkids⟩:=hf;replace hkids:zat k ks=true:=hkids;rw[yf1,Bool.and_eq_true] at hw;obtain ⟨hk,F1,F2,F3,F4,F5,F6,F7,F8,F9,F10,F11,F12,F13⟩:=zk2 hown
  have hkk:∀q∈ks,Ok q:=by
   cases hok with
   | mk _ _ _ _ _ _ _ _ _ _ hk=>exact hk
  obtain ⟨vl,vh,vk,rfl,hvl,hvh,hvk⟩:=zao ha;obtain ⟨A1,c1,rfl,_,_,hr1⟩:=za9 hvl;obtain ⟨A2,c2,rfl,_,_,hr2⟩:=za9 hvh;obtain ⟨A,cA,rfl⟩:=znt hvk
  refine zxi ⟨hb,hr1,hr2,hvk,hp,hl,hok,fun q hq=>yen (zgz hkids q hq),fun q hq l' vs' W hW hau hbu hlen=>
   zpe (n - 1) q B b l' vs' W k (by have:=QT.sz_kid (kd:=k) (oc:=o) (f:=f) (t:=t) (u:=u) (lo:=lo) (hi:=hi) (b:=bo) (op:=op) hq;omega) (zgz hkids q hq) (zxn hw.2 q hq) (hkk q hq) hau hbu (fun V hV=>hp V (hW.trans hV)) hlen⟩ ?_
  have h2:=hw.1;simp only[Bool.or_eq_true,beq_iff_eq] at h2;rcases h2 with ((((h | h) | h) | h) | h) | h
  ·exact .inl (.inl h)
  ·exact .inl (.inr h)
  ·exact .inr (.inl ⟨.inl h,zmy (F1 (by omega))⟩)
  ·exact .inr (.inl ⟨.inr h,zmy (F1 (by omega))⟩)
  ·exact .inr (.inr (.inl ⟨h,F2 (by omega)⟩))
  ·exact .inr (.inr (.inr ⟨h,F2 (by omega)⟩))
def StrB (s:ByteArray) (w:World) (e:Ending) (w':World):Prop:=e = .returned (.string s)∧Below w.heap.size w w'
theorem yba (q:QT) (vs:List Value) (w:World) (hfew:yf1 q=true) (hok:Ok q) (ha:T.AtL bare w (fun g=>g<w.heap.size) (cells q) vs) (hp:∀W,Below w.heap.size w W→Lib.TabIs Tryz.prog W "internal/strconv.uint64pow10" .u64 Lib.pow10Tab) (hl:(zbw zap q).length+100≤zfx) :
 Calls Tryz.prog 33 #[.agg vs.toArray] w (StrB (str (ziv zap q)) w):=by
 have HF:=hX (fun (W:World) (hW:Below w.heap.size w W)=>zu1 q vs W hok (zbd ha hW));have HWR:=hX (fun (hf:za0 0 q=true) (b:Nat) (W:World) (hW:Below w.heap.size w W) (hb:Buf w.heap.size b [] W)=>zpe q.sz q w.heap.size b [] vs W 0 (Nat.le_refl _) hf hfew hok (AtL.below ha hW (fun g hg=>hg)) hb (fun V hV=>hp V (hW.trans hV)) (by simpa using hl))
 obtain ⟨r,hr⟩:∃r,za0 0 q=r:=⟨_,rfl⟩
 have HQ:Hid (ziv zap q=if r then zbw zap q else []):=hX (by rw[ziv,hr]);rw[hr] at HF HWR;generalize ziv zap q=tq at *;generalize zbw zap q=wq at *;clear hr;obtain ⟨kd,oc,f,t,u,lo,hi,b,op,ks⟩:=q;obtain ⟨vl,vh,vk,rfl,hvl,hvh,hvk⟩:=zao ha;obtain ⟨A1,c1,rfl,_⟩:=za9 hvl;obtain ⟨A2,c2,rfl,_⟩:=za9 hvh;obtain ⟨A,cA,rfl⟩:=znt hvk;clear ha hvl hvh hvk hok hp hl hfew;go_enter Tryz.func33,Tryz.ntmps33;go_wp2_with fail;have hb0:Below w.heap.size w (w.alloc (.cells #[.int .i64 kd,.int .i64 oc,.string f,.string t,.string u,.slice A1 lo.length c1,.slice A2 hi.length c2,.int .i64 b,.int .i64 op,.slice A ks.length cA] 28)):=(Below.refl _ w).alloc (Nat.le_refl _) _;refine (HF.out _ hb0).mono ?_;rintro e W1 ⟨rfl,hb⟩;have HB1:=hX (hb0.trans (hb.mono hb0.size));have hlt:w.heap.size<W1.heap.size:=by have:=hb.size;simp at this;omega
 have hne:w.heap.size≠W1.heap.size:=by omega
 obtain ⟨c0,c1',c2',c3,c4,c5,c6,c7,c8,c9⟩:=zmw ((Blk.new w _ _).below hb (by simp));clear hb hb0
 cases r with
 | false=>
  obtain rfl:tq=[]:=by have:=HQ.out;simpa using this
  go_wp2_with fail;go_ret;exact ⟨rfl,HB1.out⟩
 | true=>
  obtain rfl:wq=tq:=by have:=HQ.out;simpa using this.symm
  have HN:Hid (Buf w.heap.size W1.heap.size [] (W1.alloc (.cells #[.pointer none,.slice none 0 0] 110))):=hX (.inl ⟨HB1.out.size,.slice none 0 0,Blk.new W1 _ _,⟨rfl,.inl ⟨rfl,rfl⟩⟩,by simp[Value.ownBlock]⟩);have HBA:=hX (HB1.out.alloc HB1.out.size (.cells #[.pointer none,.slice none 0 0] 110));have HWA:=hX (HWR.out rfl _ _ HBA.out HN.out);go_wp2_with fail;refine HWA.out.mono ?_;rintro e W2 ⟨rfl,hb,hw⟩;have HB2:=hX hb;have HS:=hX (Tryz.Builder_String_any_k w.heap.size W1.heap.size _ W2 hb (Nat.le_trans HBA.out.size hw.below.size));have HBW:=hX (HBA.out.trans hw.below);clear hb hw c0 c1' c2' c3 c4 c5 c6 c7 c8 c9;go_wp2_with fail;refine HS.out.mono ?_;rintro e W3 ⟨rfl,_,hb3,_⟩;have HB3:=hX (HBW.out.trans hb3);clear hb3;go_wp2_with fail;go_ret;exact ⟨by simp[str],HB3.out⟩
end Go.Proofs.YtplkbdncgkgppaaGreatDoor.Qry
end
section
namespace Go.Proofs.YtplkbdncgkgppaaGreatDoor.Qry
open Go.RowKit Words Tree QryP Kit Owned RewP
def zrp (n:Int) (i:Nat):UInt8:=UInt8.ofNat (((n % 18446744073709551616).toNat / 256 ^ i) % 256)
theorem zxo {k:Nat} (n:Int) (h:k<8):(zdx n).take (k+1)=(zdx n).take k++[zrp n k]:=by
 unfold zdx;rw[List.take_succ_eq_append_getElem (by simpa using h)];simp[zrp]
theorem zc1 (n:Int):(zdx n).length=8:=by simp[zdx]
theorem zu2 (n:Int) (k:Nat) (h:k<8):IntKind.u64.wrap n / 2 ^ (8*k) % 256=((zrp n k).toNat:Int):=by
 have e1:∀m:Int,IntKind.u64.wrap m=m % 18446744073709551616:=fun m=>by simp[IntKind.wrap,IntKind.signed,IntKind.bits]
 rw[e1]
 have e4:(2:Int) ^ (8*k)=((256 ^ k:Nat):Int):=(by rw[Int.natCast_pow,Int.pow_mul];rfl)
 rw[e4];unfold zrp;generalize hm:n % 18446744073709551616=m;have hm0:0≤m:=by omega
 obtain ⟨a,rfl⟩:=Int.eq_ofNat_of_zero_le hm0;rw[Int.toNat_natCast,UInt8.toNat_ofNat'];have:(a / 256 ^ k % 256) % 2 ^ 8=a / 256 ^ k % 256:=by omega
 rw[this];rfl
theorem zia (n:Int) (w:World):Calls Tryz.prog 27 #[.int .i64 n] w (StrB (str (zdx n)) w):=by
 obtain ⟨i0,hi1,hi2,hi3,hi4⟩:=info_parts ygg;have HI:=hX (And.intro hi1 (And.intro hi2 (And.intro hi3 hi4)));clear hi1 hi2 hi3 hi4;have H0:Hid (w.ownsRow w.heap.size 5 1 (.slice none 0 0) ((zdx n).take 0).length (Lib.byteCells ((zdx n).take 0))∧Below w.heap.size w w):=hX ⟨⟨rfl,.inl ⟨rfl,rfl⟩⟩,Below.refl _ _⟩;go_enter Tryz.func27,Tryz.ntmps27;go_wp2_with fail;go_loopw [3,4] (fun v i wr=>∃k:Nat,k≤8∧i = .int .i64 k∧Hid (wr.ownsRow w.heap.size 5 1 v ((zdx n).take k).length (Lib.byteCells ((zdx n).take k))∧Below w.heap.size w wr)) (fun _ i _=>8 - (intOf i).toNat);case atStart=>exact ⟨0,by omega,rfl,H0⟩
 case round=>
  obtain ⟨k,hk,rfl,HP⟩:=hrel;obtain ⟨ao,ca,hao⟩:=zav HP.out.1;subst hao;by_cases hlt:k<8
  ·have hlt2:(k:Int)<8:=by omega
   have HT:=hX (zxo n hlt);have HC:=zu2 n k hlt
   have hsh0:0≤IntKind.u64.wrap (8*(k:Int)):=by
    have e1:∀m:Int,IntKind.u64.wrap m=m % 18446744073709551616:=fun m=>by simp[IntKind.wrap,IntKind.signed,IntKind.bits]
    rw[e1];omega
   have hsh1:IntKind.u64.wrap (8*(k:Int))≤64:=by
    have e1:∀m:Int,IntKind.u64.wrap m=m % 18446744073709551616:=fun m=>by simp[IntKind.wrap,IntKind.signed,IntKind.bits]
    rw[e1];omega
   have hw8:wrap64 (8*(k:Int))=8*(k:Int):=by unfold wrap64;omega
   have hlen:((zdx n).take k).length≤8:=by rw[List.length_take,zc1];omega
   have HNX:Hid (∀W v,(W.ownsRow w.heap.size 5 1 v ((zdx n).take k++[zrp n k]).length (Lib.byteCells ((zdx n).take k++[zrp n k]))∧Below w.heap.size w W)→(W.ownsRow w.heap.size 5 1 v ((zdx n).take (k+1)).length (Lib.byteCells ((zdx n).take (k+1)))∧Below w.heap.size w W)):=hX (fun W v hW=>by rw[HT.out];exact hW);clear HT;have HBS:=hX HP.out.2.size;have hbs:=HBS.out;generalize (zdx n).take k=Ld at *;generalize zrp n k=c at *;have hown:=za2 HP.out.1 ((Below.refl _ wr).alloc (Nat.le_refl _) (.cells #[.int .u8 c.toNat] 5));obtain ⟨hi1,hi2,hi3,hi4⟩:=HI.out;go_wp2_with (at_builtin;refine wpList_append_own _ rfl (.tmp 9) (.tmp 17) 93 rfl w.heap.size 5 i0 (.int .u8 0) 1 1 Tryz.underlying93 hi1 hi2 hi3 hi4 rfl (by decide) _ _ _ rfl hown ⟨wr.heap.size,0,none⟩ 1 1 [.int .u8 c.toNat] rfl rfl (World.news_of_block (Blk.new wr _ _)) (by intro u hu;simp only[List.mem_cons,List.not_mem_nil,or_false] at hu;subst hu;rfl) (by unfold maxLen;omega) (by omega) (by simp;omega) ?_);intro v' w' ho hg _;have HN:=hX (HNX.out w' v' (ya4 (x:=[c]) HP.out.2 HP.out.1 ((Below.refl _ wr).mono hbs |>.alloc (by omega) _) ho hg));clear ho hg hown hi1 hi2 hi3 hi4;go_wp2_with fail;go_roundw;case rel=>exact ⟨k+1,by omega,by go_num,HN⟩
   case measure=>simp[intOf];omega
  ·obtain rfl:k=8:=by omega
   have e:(zdx n).take 8=zdx n:=List.take_of_length_le (by rw[zc1];omega);rw[e] at HP;have e8:(List.take 8 (zdx n)).length=8:=by rw[e,zc1]
   have hconv:=zkc (P:=Tryz.prog) wr 93 9 5 Tryz.underlying93 Tryz.underlying5 Tryz.underlying9 rfl HP.out.1;go_wp2_with fail;go_ret;exact ⟨rfl,HP.out.2⟩
end Go.Proofs.YtplkbdncgkgppaaGreatDoor.Qry
end
