/- Lemmas that the last text leans on. -/
import Derived.Test.YtplkbdncgkgppaaGreatDoorTake
import Derived.Test.YtplkbdncgkgppaaGreatDoorPack45
import Derived.Test.YtplkbdncgkgppaaGreatDoorPack21
import Derived.Deep.CutRange
import Derived.Deep.DeepCutAuto
import Derived.Laws.EntriesVeiled
import Derived.Deep.CutBlock
set_option linter.all false
set_option maxHeartbeats 4000000
section
namespace Go.Proofs.YtplkbdncgkgppaaGreatDoor.Qck
open Go.RowKit Words Tree SchP QckP Kit Owned Sch Qry QryP FoldNext AnaP Ana
theorem yc9 (l:List FT) (q:QT):ya1 l q=if (fd q).size=0 then 0 else if (zc6 l (fd q)).2=0 then zoq q (zc6 l (fd q)).1 else (zc6 l (fd q)).2:=by
 rw[ya1,zc6];cases zbw l (fd q) <;> simp
theorem znk (l:List FT) (kd oc:Int) (f t u:ByteArray) (lo hi:List Int) (b op:Int) (ks:List QT) (under:Int) (above:Nat):zzi l (.mk kd oc f t u lo hi b op ks) under above=if 6≤above then 182 else if 32<ks.length then 84 else if zja (.mk kd oc f t u lo hi b op ks) under then ya1 l (.mk kd oc f t u lo hi b op ks) else 181:=rfl
theorem zug (l:List FT) (u:Int) (a:Nat) (ks:List QT) (k:Nat) (h:k<ks.length):ze7 l u a (ks.drop k)=orE (zg6 l u a ks[k]) (ze7 l u a (ks.drop (k+1))):=by
 rw[List.drop_eq_getElem_cons h,ze7]
theorem zuh (q:QT) (f:FT):zoq q f=0∨zoq q f=82∨zoq q f=181:=by
 unfold zoq;split
 ·split
  ·split <;> simp
  ·simp
 ·simp
set_option maxRecDepth 100000 in
theorem part_step (ga:Nat) (l:List FT) (n:Nat) (IHn:∀(q:QT) (vs:List Value) (under:Int) (above:Nat) (w:World),q.sz≤n→above≤6→Ok q→T.AtL bare w (fun g=>g<w.heap.size) (cells q) vs→Sk w ga l→zdi w→
 Calls Tryz.prog 37 #[.pointer (some ⟨ga,0,none⟩),.agg vs.toArray,.int .i64 under,.int .i64 above] w (Sch.IntB (zg6 l under above q) w)) :
 ∀(q:QT) (vs:List Value) (under:Int) (above:Nat) (w:World),q.sz≤n+1→above≤6→Ok q→T.AtL bare w (fun g=>g<w.heap.size) (cells q) vs→Sk w ga l→zdi w→
 Calls Tryz.prog 37 #[.pointer (some ⟨ga,0,none⟩),.agg vs.toArray,.int .i64 under,.int .i64 above] w (Sch.IntB (zg6 l under above q) w)
 | .mk kd oc f t u lo hi b op ks,vs,under,above,w,hn,hab,hok,ha,hS,hT=>by
  cases hok with
  | mk hkd hoc hf ht hu hlo hhi hb hop hks hkk=>
  obtain ⟨r,hr⟩:∃r,zg6 l under above (.mk kd oc f t u lo hi b op ks)=r:=⟨_,rfl⟩
  have HR:Hid (orE (zzi l (.mk kd oc f t u lo hi b op ks) under above) (ze7 l kd (above+1) ks)=r):=hX (by rw[←hr,zg6]);rw[hr];clear hr;have IH:=hX (fun (k:QT) (hk:k∈ks) (us:List Value) (un:Int) (W:World) (hW:Below w.heap.size w W) (ha6:above+1≤6) (hu:T.AtL bare W (fun g=>g<W.heap.size) (cells k) us)=>IHn k us un (above+1) W (by have:=QT.sz_kid (kd:=kd) (oc:=oc) (f:=f) (t:=t) (u:=u) (lo:=lo) (hi:=hi) (b:=b) (op:=op) hk;omega) ha6 (hkk k hk) hu (hS.below hW) (hT.next hW));have HF:=hX (fun (W:World) (hW:Below w.heap.size w W)=>zxf ga l f W (hS.below hW));have HTT:=hX (fun (W:World) (hW:Below w.heap.size w W)=>hT.next hW);obtain ⟨vl,vh,vk,rfl,hl,hh,hk⟩:=zal ha;obtain ⟨A1,c1,rfl,_⟩:=zau hl;obtain ⟨A2,c2,rfl,_⟩:=zau hh;obtain ⟨A,cA,rfl,hcA,hmA,hel⟩:=zc9 hk;have EL:=hX hel;have HO:=hX (fun W=>zvv kd oc f t u lo hi b op ks A1 A2 A c1 c2 cA under W hf)
  have HM:=hX (fun (f0:ByteArray) (f1:Int) (f2:List Int) (f3 f4:Int) (f5 f6:Bool) (X:Option Addr) (z:Nat) (W:World) (hW:Below w.heap.size w W) (hx:Reads W W.heap.size 1 X f2.length (zbi f2)) (hxc:f2.length≤z) (hxm:z≤maxLen)=>
   yak kd oc f t u lo hi b op ks A1 A2 A c1 c2 cA f0 f1 f2 f3 f4 f5 f6 X z W hx hxc hxm ht (HTT.out W hW))
  have hkm:ks.length≤9223372036854775807:=by unfold maxLen at hmA;omega
  clear ha hl hh hk hel hkk hkd hoc hu hlo hhi hb hop hks hf hn hT ht HTT IHn;have hga:=hS.1;clear hS;by_cases h6:6≤above
  ·obtain rfl:above=6:=by omega
   have HR2:Hid (r=182):=hX (by rw[←HR.out,znk,if_pos h6];rfl);clear h6 hab;go_enter Tryz.func37,Tryz.ntmps37;go_wp2_with fail;go_ret;rw[HR2.out];exact ⟨rfl,(Below.refl _ w).alloc (Nat.le_refl _) _⟩
  have hd6:decide (6≤(above:Int))=false:=decide_eq_false (by omega);by_cases h32:32<ks.length
  ·have HR2:Hid (r=84):=hX (by rw[←HR.out,znk,if_neg h6,if_pos h32];rfl);have hd2:decide (32<(ks.length:Int))=true:=decide_eq_true (by omega);go_enter Tryz.func37,Tryz.ntmps37;go_wp2_with fail;go_ret;rw[HR2.out];exact ⟨rfl,(Below.refl _ w).alloc (Nat.le_refl _) _⟩
  have hd2:decide (32<(ks.length:Int))=false:=decide_eq_false (by omega);have HR2:Hid (orE (if zja (.mk kd oc f t u lo hi b op ks) under then ya1 l (.mk kd oc f t u lo hi b op ks) else 181) (ze7 l kd (above+1) ks)=r):=hX (by rw[←HR.out,znk,if_neg h6,if_neg h32]);clear HR;generalize zja (.mk kd oc f t u lo hi b op ks) under=p at *;go_enter Tryz.func37,Tryz.ntmps37;go_wp2_with fail;refine (HO.out _).mono ?_;rintro e w2 ⟨rfl,hb⟩;have HB:=hX (((Below.refl _ w).alloc (Nat.le_refl _) _).trans (hb.mono (by simp)));have BQ:=hX ((Blk.new w 28 _).below hb (by simp));clear hb
  cases p with
  | false=>
   have HR3:Hid (r=181):=hX (HR2.out.symm);go_wp2_with fail;go_ret;rw[HR3.out];exact ⟨rfl,HB.out⟩
  | true=>
   have HR3:Hid (orE (ya1 l (.mk kd oc f t u lo hi b op ks)) (ze7 l kd (above+1) ks)=r):=hX (HR2.out);have HAE:=hX (yc9 l (.mk kd oc f t u lo hi b op ks));have HG:=hX (zuf l f);have HMC:=hX (fun x=>zuh (.mk kd oc f t u lo hi b op ks) x);have hgq:w.heap.size<w2.heap.size:=BQ.out.lt;have q0:w2.cell? ⟨w.heap.size,0,none⟩=some (.int .i64 kd):=BQ.out.cell 0;have q2:w2.cell? ⟨w.heap.size,2,none⟩=some (.string f):=BQ.out.cell 2;go_upto_region 7 with fail
   obtain ⟨fb,hfb⟩:∃fb:Bool,fb = !decide (f.size=0):=⟨_,rfl⟩
   have HFB:=hX hfb;clear hfb;go_cut [29] (fun c wx=>c = .bool fb∧w2=wx)
   case first=>
    rcases zrf f with rfl | ⟨hne,hn2,hn3,hn4,hn5⟩
    ·obtain rfl:fb=false:=HFB.out;go_wp2_with fail;go_meet;exact ⟨rfl,rfl⟩
    ·obtain rfl:fb=true:=by rw[HFB.out,decide_eq_false hn5];rfl
     clear hn5;go_wp2_with fail;go_meet;exact ⟨rfl,rfl⟩
   case rest=>
   obtain ⟨rfl,rfl⟩:=hcut;go_upto_if 29 with fail;go_cut [9,10] (fun _ _ wx=>Hid (Below w.heap.size w wx)∧Hid (Blk wx w.heap.size 28 #[.int .i64 kd,.int .i64 oc,.string f,.string t,.string u,.slice A1 lo.length c1,.slice A2 hi.length c2,.int .i64 b,.int .i64 op,.slice A ks.length cA])∧Hid (ze7 l kd (above+1) ks=r))
   case first=>
    cases fb with
    | false=>
     have HZ:Hid (ze7 l kd (above+1) ks=r):=hX (by
      have h0:f.size=0:=by have:=HFB.out;simpa using this
      rw[←HR3.out,HAE.out,fd,if_pos h0];rfl)
     go_wp2_with fail;go_meet;exact ⟨HB,BQ,HZ⟩
    | true=>
     have hn5:¬f.size=0:=by have:=HFB.out;simpa using this
     have HAE2:Hid (ya1 l (.mk kd oc f t u lo hi b op ks)=if (zc6 l f).2=0 then zoq (.mk kd oc f t u lo hi b op ks) (zc6 l f).1 else (zc6 l f).2):=hX (by rw[HAE.out,fd,if_neg hn5]);clear HAE hn5 HFB;go_wp2_with fail;refine (HF.out _ HB.out).mono ?_;rintro e w3 ⟨vs,rfl,hb,hat⟩;generalize zc6 l f=fe at *;obtain ⟨⟨f0,f1,f2,f3,f4,f5,f6⟩,m⟩:=fe;obtain ⟨vc,rfl,gc⟩:=zdx hat;obtain ⟨X,z,rfl,hxc,hxm,hx⟩:=zmi gc;dsimp only at *;have HB3:=hX (HB.out.trans (hb.mono HB.out.size));have BQ3:=hX (BQ.out.below hb hgq);have HX:=hX hx;have hz3:=hb.size;clear hb hat gc hx q0 q2;rcases HG.out with h1 | h1
     ·subst h1;have HME:Hid (orE (zoq (.mk kd oc f t u lo hi b op ks) ⟨f0,f1,f2,f3,f4,f5,f6⟩) (ze7 l kd (above+1) ks)=r):=hX (by rw[←HR3.out,HAE2.out,if_pos rfl]);clear HAE2;have HMM:=hX (HM.out f0 f1 f2 f3 f4 f5 f6 X z);generalize zoq (.mk kd oc f t u lo hi b op ks) ⟨f0,f1,f2,f3,f4,f5,f6⟩=me at *;have hz:(w3.alloc (Obj.cells #[.string f0,.int .i64 f1,.slice X f2.length z,.int .i64 f3,.int .i64 f4,.bool f5,.bool f6] 61)).heap.size=w3.heap.size+1:=by simp
      have HB4:=hX (HB3.out.alloc HB3.out.size (Obj.cells #[.string f0,.int .i64 f1,.slice X f2.length z,.int .i64 f3,.int .i64 f4,.bool f5,.bool f6] 61));have BQ4:=hX (BQ3.out.alloc (Obj.cells #[.string f0,.int .i64 f1,.slice X f2.length z,.int .i64 f3,.int .i64 f4,.bool f5,.bool f6] 61));have BF4:=hX (Blk.new w3 61 #[.string f0,.int .i64 f1,.slice X f2.length z,.int .i64 f3,.int .i64 f4,.bool f5,.bool f6]);have HX4:=hX ((HX.out.alloc (by omega) (Obj.cells #[.string f0,.int .i64 f1,.slice X f2.length z,.int .i64 f3,.int .i64 f4,.bool f5,.bool f6] 61)).more (B':=(w3.alloc (Obj.cells #[.string f0,.int .i64 f1,.slice X f2.length z,.int .i64 f3,.int .i64 f4,.bool f5,.bool f6] 61)).heap.size) (by omega));go_upto_region 10 with fail;generalize w3.alloc (Obj.cells #[.string f0,.int .i64 f1,.slice X f2.length z,.int .i64 f3,.int .i64 f4,.bool f5,.bool f6] 61)=w4 at *;generalize w3.heap.size=gf at *;obtain ⟨p0,p1,p2,p3,p4,p5,p6⟩:=zwn BF4.out;obtain ⟨q0,q1,q2,q3,q4,q5,q6,q7,q8,q9⟩:=b10 BQ4.out;go_wp2_with fail;refine (HMM.out w4 HB4.out HX4.out hxc hxm).mono ?_;rintro e w5 ⟨rfl,hb⟩;have HB5:=hX (HB4.out.trans (hb.mono HB4.out.size));have BQ5:=hX (BQ4.out.below hb BQ4.out.lt);clear hb q0 q1 q2 q3 q4 q5 q6 q7 q8 q9 p0 p1 p2 p3 p4 p5 p6;by_cases hm0:me=0
      ·subst hm0;have HZ:Hid (ze7 l kd (above+1) ks=r):=hX HME.out;go_wp2_with fail;go_meet;exact ⟨HB5,BQ5,HZ⟩
      ·have hme:(me != (0:Int))=true:=by rw[bne_iff_ne];exact hm0
       have HZ:Hid (r=me):=hX (by rw[←HME.out,orE,if_neg hm0]);clear hm0;go_wp2_with fail;go_ret;rw[HZ.out];exact ⟨rfl,HB5.out⟩
     ·subst h1;have HR4:Hid (r=81):=hX (by rw[←HR3.out,HAE2.out];rfl);go_wp2_with fail;go_ret;rw[HR4.out];exact ⟨rfl,HB3.out.alloc HB3.out.size _⟩
   case rest=>
    obtain ⟨HBc,BQc,HPL⟩:=hcut;have HR0:Hid (ze7 l kd (above+1) (ks.drop 0)=r):=hX (by rw[List.drop_zero];exact HPL.out);have q9:wc.cell? ⟨w.heap.size,9,none⟩=some (.slice A ks.length cA):=BQc.out.cell 9;have hk32:ks.length≤32:=by omega
    have hab5:above+1≤6:=by omega
    clear q0 q2 HAE HR2 HR3 HM HF HG HMC HPL BQ HB HO;go_wp2_with fail;go_loopw [48] (fun i wr=>∃k:Nat,k≤ks.length∧i = .int .i64 k∧Hid (ze7 l kd (above+1) (ks.drop k)=r)∧Hid (Below w.heap.size w wr)∧Hid (Blk wr w.heap.size 28 #[.int .i64 kd,.int .i64 oc,.string f,.string t,.string u,.slice A1 lo.length c1,.slice A2 hi.length c2,.int .i64 b,.int .i64 op,.slice A ks.length cA])) (fun i _=>ks.length - (intOf i).toNat);case atStart=>exact ⟨0,by omega,rfl,HR0,HBc,BQc⟩
    case round=>
     clear q9 HBc BQc HR0;obtain ⟨k,hkk,rfl,HK,HW,BW⟩:=hrel;by_cases hlt:k<ks.length
     ·obtain ⟨ad,us,rfl,hba,au,lu,cu⟩:=EL.out k hlt;replace cu:=cu.keep (w':=wr) (fun p hp=>HW.out.cell (by rw[hp,zab];exact hba));have hab2:(ad.add (k*10)).block<wr.heap.size:=by rw[zab];have:=HW.out.size;omega
      have HAU:=hX (fun (W:World) (hW:Below w.heap.size w W)=>IH.out ks[k] (List.getElem_mem _) us kd W hW hab5 (zch au hW));have HD:=hX ((zug l kd (above+1) ks k hlt).symm.trans HK.out);generalize hq:ks[k]=q at *;obtain ⟨kd',oc',f',t',u',lo',hi',b',op',ks'⟩:=q;obtain ⟨vl,vh,vk,rfl,hl,hh,hkk2⟩:=zal au;obtain ⟨B1,d1,rfl,_⟩:=zau hl;obtain ⟨B2,d2,rfl,_⟩:=zau hh;obtain ⟨B3,d3,rfl⟩:=zms hkk2;obtain ⟨a0,a1,a2,a3,a4,a5,a6,a7,a8,a9⟩:=ten cu;have HBG:=hX (HW.out.alloc HW.out.size (Obj.cells #[.int .i64 kd',.int .i64 oc',.string f',.string t',.string u',.slice B1 lo'.length d1,.slice B2 hi'.length d2,.int .i64 b',.int .i64 op',.slice B3 ks'.length d3] 28));have BWG:=hX (BW.out.alloc (Obj.cells #[.int .i64 kd',.int .i64 oc',.string f',.string t',.string u',.slice B1 lo'.length d1,.slice B2 hi'.length d2,.int .i64 b',.int .i64 op',.slice B3 ks'.length d3] 28));have c0:wr.cell? ⟨w.heap.size,0,none⟩=some (.int .i64 kd):=BW.out.cell 0;have hgw:w.heap.size<wr.heap.size:=BW.out.lt;have hw1:IntKind.i64.wrap ((above:Int)+1)=(above:Int)+1:=IntWalk.i64_in _ (by omega);have HPF:Hid (Calls Tryz.prog 37 #[.pointer (some ⟨ga,0,none⟩),.agg #[.int .i64 kd',.int .i64 oc',.string f',.string t',.string u',.slice B1 lo'.length d1,.slice B2 hi'.length d2,.int .i64 b',.int .i64 op',.slice B3 ks'.length d3],.int .i64 kd,.int .i64 ((above:Int)+1)] _ (Sch.IntB _ _)):=hX (HAU.out _ HBG.out);clear hq au hl hh hkk2 cu lu HAU
      generalize zg6 l kd (above+1) (.mk kd' oc' f' t' u' lo' hi' b' op' ks')=pf at *;go_wp2_with fail;refine HPF.out.mono ?_;rintro e w3 ⟨rfl,hb⟩;have HB3:=hX (HBG.out.trans (hb.mono HBG.out.size));have BW3:=hX (BWG.out.below hb (by simp;omega));clear hb a0 a1 a2 a3 a4 a5 a6 a7 a8 a9 c0;by_cases hp0:pf=0
      ·subst hp0;have HK2:Hid (ze7 l kd (above+1) (ks.drop (k+1))=r):=hX HD.out;go_wp2_with fail;go_roundw;case rel=>exact ⟨k+1,by omega,by go_num,HK2,HB3,BW3⟩
       case measure=>simp[intOf];omega
      ·have hpe:(pf != (0:Int))=true:=by rw[bne_iff_ne];exact hp0
       have HZ:Hid (r=pf):=hX (by rw[←HD.out,orE,if_neg hp0]);clear hp0;go_wp2_with fail;go_ret;rw[HZ.out];exact ⟨rfl,HB3.out⟩
     ·obtain rfl:k=ks.length:=by omega
      have HZ:Hid (r=0):=hX (by rw[←HK.out,List.drop_length,ze7]);go_wp2_with fail;go_ret;rw[HZ.out];exact ⟨rfl,HW.out⟩
theorem part_any (ga:Nat) (l:List FT) (n:Nat):∀(q:QT) (vs:List Value) (under:Int) (above:Nat) (w:World),q.sz≤n→above≤6→Ok q→T.AtL bare w (fun g=>g<w.heap.size) (cells q) vs→Sk w ga l→zdi w→
 Calls Tryz.prog 37 #[.pointer (some ⟨ga,0,none⟩),.agg vs.toArray,.int .i64 under,.int .i64 above] w (Sch.IntB (zg6 l under above q) w):=by
 induction n with
 | zero=>intro q vs under above w hn;have:=QT.sz_pos q;omega
 | succ n ih=>exact part_step ga l n ih
end Go.Proofs.YtplkbdncgkgppaaGreatDoor.Qck
end
section
namespace Go.Proofs.YtplkbdncgkgppaaGreatDoor.Qck
open Go.RowKit Words Tree SchP QckP Kit Owned Sch Qry QryP FoldNext AnaP Ana
section
variable (ga:Nat) (w:World) (hga:ga<w.heap.size)
include hga
theorem zx1 (h:w.cell? ⟨ga,11,none⟩=some (.slice none 0 0)):Calls Tryz.prog 16 #[.pointer (some ⟨ga,0,none⟩)] w (Sch.IntB 0 w):=by
 go_enter Tryz.func16,Tryz.ntmps16;go_wp2_with fail;go_loopw [20] (fun v wr=>v = .int .i64 0∧wr=w) (fun _ _=>0);case atStart=>exact ⟨rfl,rfl⟩
 case round=>
  obtain ⟨rfl,rfl⟩:=hrel;go_wp2_with fail;go_ret;exact ⟨rfl,Below.refl _ _⟩
theorem znl (h:w.cell? ⟨ga,14,none⟩=some (.string ⟨#[]⟩)):Calls Tryz.prog 17 #[.pointer (some ⟨ga,0,none⟩)] w (Sch.IntB 0 w):=by
 go_enter Tryz.func17,Tryz.ntmps17;go_wp2_with fail;go_ret;exact ⟨rfl,Below.refl _ _⟩
theorem zx2 (h:w.cell? ⟨ga,13,none⟩=some (.int .i64 0)) (h1:w.cell? ⟨ga,12,none⟩=some (.slice none 0 0)) (h2:w.cell? ⟨ga,11,none⟩=some (.slice none 0 0)):Calls Tryz.prog 18 #[.pointer (some ⟨ga,0,none⟩)] w (Sch.IntB 0 w):=by
 go_enter Tryz.func18,Tryz.ntmps18;go_wp2_with fail;go_loopw [35] (fun v wr=>v = .int .i64 0∧wr=w) (fun _ _=>0);case atStart=>exact ⟨rfl,rfl⟩
 case round=>
  obtain ⟨rfl,rfl⟩:=hrel;go_wp2_with fail;go_ret;exact ⟨rfl,Below.refl _ _⟩
theorem zrg (h:w.cell? ⟨ga,16,none⟩=some (.slice none 0 0)):Calls Tryz.prog 20 #[.pointer (some ⟨ga,0,none⟩)] w (Sch.IntB 0 w):=by
 go_enter Tryz.func20,Tryz.ntmps20;go_wp2_with fail;go_loopw [13] (fun v wr=>v = .int .i64 0∧wr=w) (fun _ _=>0);case atStart=>exact ⟨rfl,rfl⟩
 case round=>
  obtain ⟨rfl,rfl⟩:=hrel;go_wp2_with fail;go_ret;exact ⟨rfl,Below.refl _ _⟩
theorem yal (h:w.cell? ⟨ga,15,none⟩=some (.slice none 0 0)):Calls Tryz.prog 19 #[.pointer (some ⟨ga,0,none⟩)] w (Sch.IntB 0 w):=by
 have HA:Calls Tryz.prog 44 #[.pointer (some ⟨ga,0,none⟩),.slice none 0 0,.int .i64 0] w (Sch.IntB 0 w):=by
  go_enter Tryz.func44,Tryz.ntmps44;go_wp2_with fail;go_loopw [13] (fun v wr=>v = .int .i64 0∧wr=w) (fun _ _=>0);case atStart=>exact ⟨rfl,rfl⟩
  case round=>
   obtain ⟨rfl,rfl⟩:=hrel;go_wp2_with fail;go_ret;exact ⟨rfl,Below.refl _ _⟩
 have HB:=hX HA;clear HA;go_enter Tryz.func19,Tryz.ntmps19;go_wp2_with fail;refine HB.out.mono ?_;rintro e w2 ⟨rfl,hb⟩;have HW:=hX hb;clear hb;go_wp2_with fail;go_ret;exact ⟨rfl,HW.out⟩
end
end Go.Proofs.YtplkbdncgkgppaaGreatDoor.Qck
end
