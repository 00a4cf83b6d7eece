/- Lemmas that the last text leans on. -/
import Derived.Test.YtplkbdncgkgppaaGreatDoorTake
import Derived.Test.YtplkbdncgkgppaaGreatDoorPack34
import Derived.Test.YtplkbdncgkgppaaGreatDoorPack46
set_option linter.all false
set_option maxRecDepth 100000
set_option maxHeartbeats 8000000
section
namespace Go.Proofs.YtplkbdncgkgppaaGreatDoor.Sch
open Go.RowKit Words Tree SchP Kit Owned AnaP
theorem zx3 {l:List FT} {k:Nat} (h:k<l.length):∃j:Nat,j≤k∧zjc l l[k].name=j∧zi4 l k=decide (j=k):=by
 cases hf:zcv l l[k].name with
 | none=>exact absurd rfl (zik hf _ (List.getElem_mem h))
 | some j=>
  obtain ⟨h1,h2,h3⟩:=zcw hf;refine ⟨j,?_,by rw[zgl,hf];rfl,?_⟩
  ·rcases Nat.lt_or_ge k j with h4 | h4
   ·exact absurd rfl (h3 k h4)
   ·exact h4
  ·rw[zti h,hf];simp
theorem zui (u:Value) (l:List FT) (w:World) (hu:T.At bare w (fun g=>g<w.heap.size) (zcm l) u) (hl:l.length*72≤140737488351232) (hf:∀f∈l,FOk f) :
 Calls Tryz.prog 14 #[.agg #[u]] w (IntB (yed (zho l)) w):=by
 have HFI:=hX (fun (s:ByteArray) (W:World) (hW:Below w.heap.size w W)=>find_any u l s W (At.below hu hW (fun g hg=>Nat.lt_of_lt_of_le hg hW.size)) hl);obtain ⟨A,cap,rfl,hc,hm,hel⟩:=zry zem hu;have EL:=hX hel;have HF:=hX hf
 obtain ⟨r,hr⟩:∃r,zho l=r:=⟨_,rfl⟩
 have HR:=hX hr;rw[hr];clear hel hu hf hr
 rcases (show l.length=0∨16<l.length∨(1≤l.length∧l.length≤16) by omega) with h0 | h0 | ⟨h0,h1⟩
 ·have HRF:Hid (r=false):=hX (by rw[←HR.out,zho,h0];simp);rw[h0];clear EL HFI HF HR;go_enter Tryz.func14,Tryz.ntmps14;go_wp2_with fail;go_ret;rw[HRF.out];exact ⟨rfl,(Below.refl _ _).alloc (Nat.le_refl _) _⟩
 ·have HRF:Hid (r=false):=hX (by rw[←HR.out,zho];simp;omega);have h2:¬l.length<1:=by omega
  have a1:decide ((l.length:Int)<1)=false:=by rw[decide_eq_false_iff_not];omega
  have a2:decide ((16:Int)<l.length)=true:=by rw[decide_eq_true_iff];omega
  go_enter Tryz.func14,Tryz.ntmps14;go_wp2_with fail;go_ret;rw[HRF.out];exact ⟨rfl,(Below.refl _ _).alloc (Nat.le_refl _) _⟩
 have HRQ:Hid (r=zyc l l.length):=hX (by rw[←HR.out,zho,decide_eq_true h0,decide_eq_true h1];simp);have a1:decide ((l.length:Int)<1)=false:=by rw[decide_eq_false_iff_not];omega
 have a2:decide ((16:Int)<l.length)=false:=by rw[decide_eq_false_iff_not];omega
 clear HR;go_enter Tryz.func14,Tryz.ntmps14;go_wp2_with fail;have HB:=hX ((Below.refl _ w).alloc (Nat.le_refl _) (Obj.cells #[.slice A l.length cap] 24));have BA:=hX (Blk.new w 24 #[.slice A l.length cap]);have hzW:(w.alloc (Obj.cells #[.slice A l.length cap] 24)).heap.size=w.heap.size+1:=by simp
 generalize w.alloc (Obj.cells #[.slice A l.length cap] 24)=W at *;go_loopw [20] (fun i wr=>∃k:Nat,k≤l.length∧i = .int .i64 k∧Hid (zyc l k=true)∧Hid (Below W.heap.size W wr)) (fun i _=>l.length - (intOf i).toNat);case atStart=>exact ⟨0,by omega,rfl,hX (zwe l),hX (Below.refl _ _)⟩
 case round=>
  obtain ⟨k,hkk,rfl,HK,HW⟩:=hrel;have BA2:=hX (BA.out.below HW.out (by omega));have hcA:wr.cell? ⟨w.heap.size,0,none⟩=some (.slice A l.length cap):=BA2.out.cell 0;have hzr:=HW.out.size;have HWW:Hid (Below w.heap.size w wr):=hX (HB.out.trans (HW.out.mono HB.out.size));by_cases hlt:k<l.length
  ·obtain ⟨ad,us,rfl,hba,au,lu,cu⟩:=EL.out k hlt;replace cu:=cu.keep (w':=wr) (fun p hp=>HWW.out.cell (by rw[hp,zab];exact hba));have hab:(ad.add (k*7)).block<wr.heap.size:=by rw[zab];omega
   have hok:=HF.out _ (List.getElem_mem hlt);have HS:Hid (zyc l (k+1)=(zi4 l k && mayB l[k])):=hX (by rw[zwf,HK.out,zwd hlt];simp);have HNO:Hid ((zi4 l k && mayB l[k])=false→r=false):=hX (fun h=>by rw[HRQ.out];exact ycm (by rw[zwd hlt];exact h) hlt);obtain ⟨j,hjk,hfz,hfb⟩:=zx3 hlt;rw[hfb] at HS HNO;generalize l[k]=f at *;obtain ⟨vc,rfl,gc⟩:=zdx au;have HM:=hX (fun (V:World) (hV:Below w.heap.size w V)=>may_any f vc V (At.below gc hV (fun g hg=>Nat.lt_of_lt_of_le hg hV.size)) hok);obtain ⟨X,z,rfl,_,_⟩:=zbg gc;have HFC:=hX (fun (V:World) (hV:Below w.heap.size w V)=>HFI.out f.name V hV);rw[hfz] at HFC;obtain ⟨a0,a1',a2',a3,a4,a5,a6⟩:=zzo cu;clear cu au lu gc hok hfz hfb;obtain ⟨f0,f1,f2,f3,f4,f5,f6⟩:=f;dsimp only at *;have hw1:w.heap.size<wr.heap.size:=by omega
   obtain ⟨b,hb⟩:∃b,mayB ⟨f0,f1,f2,f3,f4,f5,f6⟩=b:=⟨_,rfl⟩
   rw[hb] at HM HS HNO;clear hb;go_wp2_with fail;refine (HFC.out _ (HWW.out.alloc HWW.out.size _)).mono ?_;rintro e W1 ⟨rfl,b1⟩;have HB1:=hX (((Below.refl _ wr).alloc (Nat.le_refl _) _).trans (b1.mono (by simp)):Below wr.heap.size wr W1);have BF:=hX ((Blk.new wr _ _).below b1 (by simp));obtain ⟨p0,p1,p2,p3,p4,p5,p6⟩:=zwn BF.out;have hmx:max 0 (j:Int)=j:=by omega
   have hdx:decide (0≤(j:Int))=true:=decide_eq_true (by omega);rw[hmx,hdx];clear b1 a0 a1' a2' a3 a4 a5 a6 hcA hmx hdx;by_cases hj:j=k
   ·subst hj;have hbk:((j:Int) != (j:Int))=false:=by simp
    go_wp2_with fail;refine (HM.out _ (HWW.out.trans (HB1.out.mono HWW.out.size))).mono ?_;rintro e W2 ⟨rfl,b2⟩;have HB2:=hX (HB1.out.trans (b2.mono HB1.out.size));clear b2
    cases b with
    | true=>
     go_wp2_with fail;go_roundw;case rel=>exact ⟨j+1,by omega,by go_num,hX (by rw[HS.out];simp),hX (HW.out.trans (HB2.out.mono HW.out.size))⟩
     case measure=>simp[intOf];omega
    | false=>
     have HN:Hid (r=false):=hX (HNO.out (by simp));go_wp2_with fail;go_ret;rw[HN.out];exact ⟨rfl,HWW.out.trans (HB2.out.mono HWW.out.size)⟩
   ·have hbk:((j:Int) != (k:Int))=true:=by rw[bne_iff_ne];omega
    have HN:Hid (r=false):=hX (HNO.out (by rw[decide_eq_false hj];rfl));go_wp2_with fail;go_ret;rw[HN.out];exact ⟨rfl,HWW.out.trans (HB1.out.mono HWW.out.size)⟩
  ·obtain rfl:k=l.length:=by omega
   have HT:Hid (r=true):=hX (by rw[HRQ.out,HK.out]);go_wp2_with fail;go_ret;rw[HT.out];exact ⟨rfl,HWW.out⟩
end Go.Proofs.YtplkbdncgkgppaaGreatDoor.Sch
end
section
namespace Go.Proofs.YtplkbdncgkgppaaGreatDoor.Qck
open Go.RowKit Words Tree SchP QckP Kit Owned Sch Qry QryP FoldNext AnaP Ana
theorem zx4 (ga:Nat) (pe:Int) (A:Option Addr) (n cap:Nat) (k o b op:Int) (f t p:ByteArray) (n1 n2 n3 c1 c2 c3:Nat) (A1 A2 A3:Option Addr) (w:World) (hb:Blk w ga 53 #[.slice A n cap,.int .i64 k,.int .i64 o,.string f,.string t,.string p,.slice A1 n1 c1,.slice A2 n2 c2,.int .i64 b,.int .i64 op,.slice A3 n3 c3,.slice none 0 0,.slice none 0 0,.int .i64 0,.string ⟨#[]⟩,.slice none 0 0,.slice none 0 0])
 (HP:∀W,Below w.heap.size w W→Blk W ga 53 #[.slice A n cap,.int .i64 k,.int .i64 o,.string f,.string t,.string p,.slice A1 n1 c1,.slice A2 n2 c2,.int .i64 b,.int .i64 op,.slice A3 n3 c3,.slice none 0 0,.slice none 0 0,.int .i64 0,.string ⟨#[]⟩,.slice none 0 0,.slice none 0 0]→Calls Tryz.prog 37 #[.pointer (some ⟨ga,0,none⟩),.agg #[.int .i64 k,.int .i64 o,.string f,.string t,.string p,.slice A1 n1 c1,.slice A2 n2 c2,.int .i64 b,.int .i64 op,.slice A3 n3 c3],.int .i64 0,.int .i64 0] W (Sch.IntB pe W)) :
 Calls Tryz.prog 15 #[.pointer (some ⟨ga,0,none⟩)] w (Sch.IntB pe w):=by
 have HC:=hX (HP w (Below.refl _ _) hb);have hga:=hb.lt;have c1:=hb.cell 1;have c2:=hb.cell 2;have c3:=hb.cell 3;have c4:=hb.cell 4;have c5:=hb.cell 5;have c6:=hb.cell 6;have c7:=hb.cell 7;have c8:=hb.cell 8;have c9:=hb.cell 9;have c10:=hb.cell 10;clear HP hb;go_enter Tryz.func15,Tryz.ntmps15;go_wp2_with fail;refine HC.out.mono ?_;rintro e w2 ⟨rfl,hb⟩;have HB:=hX hb;clear hb c1 c2 c3 c4 c5 c6 c7 c8 c9 c10;go_wp2_with fail;go_ret;exact ⟨rfl,HB.out⟩
def zps (l:List FT) (q:QT):Int:=orE (yed (zho l)) (zg6 l 0 0 q)
theorem zuj (u:Value) (l:List FT) (q:QT) (A1 A2 A3:Option Addr) (k o b op:Int) (f t p:ByteArray) (n1 n2 n3 c1 c2 c3:Nat) (w:World) (hu:T.At bare w (fun g=>g<w.heap.size) (zcm l) u) (hl:l.length*72≤140737488351232) (hf:∀f∈l,FOk f)
 (hv:T.AtL bare w (fun g=>g<w.heap.size) (cells q) [.int .i64 k,.int .i64 o,.string f,.string t,.string p,.slice A1 n1 c1,.slice A2 n2 c2,.int .i64 b,.int .i64 op,.slice A3 n3 c3]) (hok:Qry.Ok q) (hT:zdi w) :
 Calls Tryz.prog 6 #[.agg #[u],.agg #[.int .i64 k,.int .i64 o,.string f,.string t,.string p,.slice A1 n1 c1,.slice A2 n2 c2,.int .i64 b,.int .i64 op,.slice A3 n3 c3,.slice none 0 0,.slice none 0 0,.int .i64 0,.string ⟨#[]⟩,.slice none 0 0,.slice none 0 0]] w (Sch.IntB (zps l q) w):=by
 have HS:=hX (fun (W:World) (hW:Below w.heap.size w W)=>zui u l W (At.below hu hW (fun g hg=>Nat.lt_of_lt_of_le hg hW.size)) hl hf);have HQ0:=hX (fun (ga:Nat) (W:World) (hW:Below w.heap.size w W) (hs:Sk W ga l)=>part_any ga l _ q [.int .i64 k,.int .i64 o,.string f,.string t,.string p,.slice A1 n1 c1,.slice A2 n2 c2,.int .i64 b,.int .i64 op,.slice A3 n3 c3] 0 0 W (Nat.le_refl _) (by omega) hok (zch hv hW) hs (hT.next hW));obtain ⟨A,cap,rfl,hc,hm⟩:=zbg hu;have HSK:=hX (fun (ga:Nat) (W:World) (hW:Below w.heap.size w W) (hb:Blk W ga 53 #[.slice A l.length cap,.int .i64 k,.int .i64 o,.string f,.string t,.string p,.slice A1 n1 c1,.slice A2 n2 c2,.int .i64 b,.int .i64 op,.slice A3 n3 c3,.slice none 0 0,.slice none 0 0,.int .i64 0,.string ⟨#[]⟩,.slice none 0 0,.slice none 0 0])=>(⟨hb.lt,hl,_,hb.cell 0,At.below hu hW (fun g hg=>Nat.lt_of_lt_of_le hg hW.size)⟩:Sk W ga l))
 obtain ⟨pe,hpe⟩:∃pe,zg6 l 0 0 q=pe:=⟨_,rfl⟩
 obtain ⟨es,hes⟩:∃es,yed (zho l)=es:=⟨_,rfl⟩
 have HR:Hid (zps l q=orE es pe):=hX (by rw[zps,hpe,hes]);rw[hpe] at HQ0;rw[hes] at HS;generalize zps l q=e0 at *;clear hu hf hv hok hT hpe hes;have HB0:=hX (((Below.refl w.heap.size w).alloc (Nat.le_refl _) (.cells #[.slice A l.length cap] 24)).alloc (by simp) (.cells #[.int .i64 k,.int .i64 o,.string f,.string t,.string p,.slice A1 n1 c1,.slice A2 n2 c2,.int .i64 b,.int .i64 op,.slice A3 n3 c3,.slice none 0 0,.slice none 0 0,.int .i64 0,.string ⟨#[]⟩,.slice none 0 0,.slice none 0 0] 38));have BS0:=hX ((Blk.new w 24 #[.slice A l.length cap]).alloc (.cells #[.int .i64 k,.int .i64 o,.string f,.string t,.string p,.slice A1 n1 c1,.slice A2 n2 c2,.int .i64 b,.int .i64 op,.slice A3 n3 c3,.slice none 0 0,.slice none 0 0,.int .i64 0,.string ⟨#[]⟩,.slice none 0 0,.slice none 0 0] 38));have br0:=Blk.new (w.alloc (.cells #[.slice A l.length cap] 24)) 38 #[.int .i64 k,.int .i64 o,.string f,.string t,.string p,.slice A1 n1 c1,.slice A2 n2 c2,.int .i64 b,.int .i64 op,.slice A3 n3 c3,.slice none 0 0,.slice none 0 0,.int .i64 0,.string ⟨#[]⟩,.slice none 0 0,.slice none 0 0];rw[World.size_alloc] at br0;have BR0:=hX br0;clear br0;have hmf:∀(fn:Fn) (first cap:Array Value) (w:World),(Instr.makeFunc fn first cap).run Tryz.prog w = .ok (.func fn first cap) w:=fun _ _ _ _=>rfl;go_enter Tryz.func6,Tryz.ntmps6;go_upto_region 1 with fail
 generalize ((w.alloc (.cells #[.slice A l.length cap] 24)).alloc (.cells #[.int .i64 k,.int .i64 o,.string f,.string t,.string p,.slice A1 n1 c1,.slice A2 n2 c2,.int .i64 b,.int .i64 op,.slice A3 n3 c3,.slice none 0 0,.slice none 0 0,.int .i64 0,.string ⟨#[]⟩,.slice none 0 0,.slice none 0 0] 38))=w1 at *;have s0:=BS0.out.cell 0;go_wp2_with fail;refine (HS.out _ HB0.out).mono ?_;rintro e w2 ⟨rfl,hb⟩;have HB2:=hX (HB0.out.trans (hb.mono HB0.out.size));have BS2:=hX (BS0.out.below hb BS0.out.lt);have BR2:=hX (BR0.out.below hb BR0.out.lt);clear hb s0 HB0 BS0 BR0 HS;by_cases he:es=0
 ·subst he;have HP:Hid (e0=pe):=hX (HR.out.trans (if_pos rfl));have s0:=BS2.out.cell 0;have hz:=BR2.out.lt;have r0:=BR2.out.cell 0;have r1:=BR2.out.cell 1;have r2:=BR2.out.cell 2;have r3:=BR2.out.cell 3;have r4:=BR2.out.cell 4;have r5:=BR2.out.cell 5;have r6:=BR2.out.cell 6;have r7:=BR2.out.cell 7;have r8:=BR2.out.cell 8;have r9:=BR2.out.cell 9;have r10:=BR2.out.cell 10;have r11:=BR2.out.cell 11;have r12:=BR2.out.cell 12;have r13:=BR2.out.cell 13;have r14:=BR2.out.cell 14;have r15:=BR2.out.cell 15;go_upto_region 5 with fail;have hA:Below w2.heap.size w2 (w2.alloc (.cells #[.slice A l.length cap,.int .i64 k,.int .i64 o,.string f,.string t,.string p,.slice A1 n1 c1,.slice A2 n2 c2,.int .i64 b,.int .i64 op,.slice A3 n3 c3,.slice none 0 0,.slice none 0 0,.int .i64 0,.string ⟨#[]⟩,.slice none 0 0,.slice none 0 0] 53)):=(Below.refl _ _).alloc (Nat.le_refl _) _;have BA3:=hX (Blk.new w2 53 #[.slice A l.length cap,.int .i64 k,.int .i64 o,.string f,.string t,.string p,.slice A1 n1 c1,.slice A2 n2 c2,.int .i64 b,.int .i64 op,.slice A3 n3 c3,.slice none 0 0,.slice none 0 0,.int .i64 0,.string ⟨#[]⟩,.slice none 0 0,.slice none 0 0]);have HB3:=hX (HB2.out.trans (hA.mono HB2.out.size));clear hA r0 r1 r2 r3 r4 r5 r6 r7 r8 r9 r10 r11 r12 r13 r14 r15 s0 hz BS2 BR2
  generalize (w2.alloc (.cells #[.slice A l.length cap,.int .i64 k,.int .i64 o,.string f,.string t,.string p,.slice A1 n1 c1,.slice A2 n2 c2,.int .i64 b,.int .i64 op,.slice A3 n3 c3,.slice none 0 0,.slice none 0 0,.int .i64 0,.string ⟨#[]⟩,.slice none 0 0,.slice none 0 0] 53))=W3 at *;generalize w2.heap.size=ga at *;go_upto_block 0 with fail;have hA:Below W3.heap.size W3 (W3.alloc (.cells #[.func (.func 15) #[.pointer (some ⟨ga,0,none⟩)] #[],.func (.func 16) #[.pointer (some ⟨ga,0,none⟩)] #[],.func (.func 17) #[.pointer (some ⟨ga,0,none⟩)] #[],.func (.func 18) #[.pointer (some ⟨ga,0,none⟩)] #[],.func (.func 19) #[.pointer (some ⟨ga,0,none⟩)] #[],.func (.func 20) #[.pointer (some ⟨ga,0,none⟩)] #[]] 54)):=(Below.refl _ _).alloc (Nat.le_refl _) _;have BF4:=hX (Blk.new W3 54 #[.func (.func 15) #[.pointer (some ⟨ga,0,none⟩)] #[],.func (.func 16) #[.pointer (some ⟨ga,0,none⟩)] #[],.func (.func 17) #[.pointer (some ⟨ga,0,none⟩)] #[],.func (.func 18) #[.pointer (some ⟨ga,0,none⟩)] #[],.func (.func 19) #[.pointer (some ⟨ga,0,none⟩)] #[],.func (.func 20) #[.pointer (some ⟨ga,0,none⟩)] #[]]);have BA4:=hX (BA3.out.below hA BA3.out.lt);have HB4:=hX (HB3.out.trans (hA.mono HB3.out.size));clear hA
  generalize (W3.alloc (.cells #[.func (.func 15) #[.pointer (some ⟨ga,0,none⟩)] #[],.func (.func 16) #[.pointer (some ⟨ga,0,none⟩)] #[],.func (.func 17) #[.pointer (some ⟨ga,0,none⟩)] #[],.func (.func 18) #[.pointer (some ⟨ga,0,none⟩)] #[],.func (.func 19) #[.pointer (some ⟨ga,0,none⟩)] #[],.func (.func 20) #[.pointer (some ⟨ga,0,none⟩)] #[]] 54))=W4 at *;generalize W3.heap.size=gf at *;generalize (Value.agg #[.slice A l.length cap,.int .i64 k,.int .i64 o,.string f,.string t,.string p,.slice A1 n1 c1,.slice A2 n2 c2,.int .i64 b,.int .i64 op,.slice A3 n3 c3,.slice none 0 0,.slice none 0 0,.int .i64 0,.string ⟨#[]⟩,.slice none 0 0,.slice none 0 0])=va;go_wp2_with fail;go_loopw [33] (fun i wr=>∃j:Nat,j≤6∧i = .int .i64 j∧Hid (j≠0→pe=0)∧Hid (Below W4.heap.size W4 wr)) (fun i _=>6 - (intOf i).toNat);case atStart=>exact ⟨0,by omega,rfl,hX (fun h=>absurd rfl h),hX (Below.refl _ _)⟩
  case round=>
   obtain ⟨j,hk6,rfl,HK,HW⟩:=hrel;have HF:=hX (BF4.out.below HW.out BF4.out.lt);have HA:=hX (BA4.out.below HW.out BA4.out.lt);have HBW:=hX (HB4.out.trans (HW.out.mono HB4.out.size));have hgl:=HA.out.lt;by_cases hlt:j<6
   ·rcases (show j=0∨j=1∨j=2∨j=3∨j=4∨j=5 by omega) with rfl | rfl | rfl | rfl | rfl | rfl
    ·have c0:wr.cell? ⟨gf,0,none⟩=some (.func (.func 15) #[.pointer (some ⟨ga,0,none⟩)] #[]):=HF.out.cell 0;have HC:Hid (Calls Tryz.prog 15 #[.pointer (some ⟨ga,0,none⟩)] wr (Sch.IntB pe wr)):=hX (zx4 ga pe A l.length cap k o b op f t p n1 n2 n3 c1 c2 c3 A1 A2 A3 wr HA.out (fun W hW hb=>HQ0.out ga W (HBW.out.trans (hW.mono HBW.out.size)) (HSK.out ga W (HBW.out.trans (hW.mono HBW.out.size)) hb)));go_wp2_with fail;refine HC.out.mono ?_;rintro e w8 ⟨rfl,hb⟩;have HB8:=hX (HW.out.trans (hb.mono HW.out.size));clear hb c0;by_cases hp:pe=0
     ·subst hp;go_wp2_with fail;go_roundw;case rel=>exact ⟨1,by omega,by go_num,hX (by first | exact fun _=>rfl | trivial),HB8⟩
      case measure=>simp[intOf]
     ·have hee:(pe != 0)=true:=by rw[bne_iff_ne];exact hp
      go_wp2_with fail;go_ret;rw[HP.out];exact ⟨rfl,HB4.out.trans (HB8.out.mono HB4.out.size)⟩
    ·have c0:wr.cell? ⟨gf,1,none⟩=some (.func (.func 16) #[.pointer (some ⟨ga,0,none⟩)] #[]):=HF.out.cell 1;have HC:=hX (zx1 ga wr hgl (HA.out.cell 11));go_wp2_with fail;refine HC.out.mono ?_;rintro e w8 ⟨rfl,hb⟩;have HB8:=hX (HW.out.trans (hb.mono HW.out.size));clear hb c0;go_wp2_with fail;go_roundw;case rel=>exact ⟨2,by omega,by go_num,hX (fun _=>HK.out (by omega)),HB8⟩
     case measure=>simp[intOf]
    ·have c0:wr.cell? ⟨gf,2,none⟩=some (.func (.func 17) #[.pointer (some ⟨ga,0,none⟩)] #[]):=HF.out.cell 2;have HC:=hX (znl ga wr hgl (HA.out.cell 14));go_wp2_with fail;refine HC.out.mono ?_;rintro e w8 ⟨rfl,hb⟩;have HB8:=hX (HW.out.trans (hb.mono HW.out.size));clear hb c0;go_wp2_with fail;go_roundw;case rel=>exact ⟨3,by omega,by go_num,hX (fun _=>HK.out (by omega)),HB8⟩
     case measure=>simp[intOf]
    ·have c0:wr.cell? ⟨gf,3,none⟩=some (.func (.func 18) #[.pointer (some ⟨ga,0,none⟩)] #[]):=HF.out.cell 3;have HC:=hX (zx2 ga wr hgl (HA.out.cell 13) (HA.out.cell 12) (HA.out.cell 11));go_wp2_with fail;refine HC.out.mono ?_;rintro e w8 ⟨rfl,hb⟩;have HB8:=hX (HW.out.trans (hb.mono HW.out.size));clear hb c0;go_wp2_with fail;go_roundw;case rel=>exact ⟨4,by omega,by go_num,hX (fun _=>HK.out (by omega)),HB8⟩
     case measure=>simp[intOf]
    ·have c0:wr.cell? ⟨gf,4,none⟩=some (.func (.func 19) #[.pointer (some ⟨ga,0,none⟩)] #[]):=HF.out.cell 4;have HC:=hX (yal ga wr hgl (HA.out.cell 15));go_wp2_with fail;refine HC.out.mono ?_;rintro e w8 ⟨rfl,hb⟩;have HB8:=hX (HW.out.trans (hb.mono HW.out.size));clear hb c0;go_wp2_with fail;go_roundw;case rel=>exact ⟨5,by omega,by go_num,hX (fun _=>HK.out (by omega)),HB8⟩
     case measure=>simp[intOf]
    ·have c0:wr.cell? ⟨gf,5,none⟩=some (.func (.func 20) #[.pointer (some ⟨ga,0,none⟩)] #[]):=HF.out.cell 5;have HC:=hX (zrg ga wr hgl (HA.out.cell 16));go_wp2_with fail;refine HC.out.mono ?_;rintro e w8 ⟨rfl,hb⟩;have HB8:=hX (HW.out.trans (hb.mono HW.out.size));clear hb c0;go_wp2_with fail;go_roundw;case rel=>exact ⟨6,by omega,by go_num,hX (fun _=>HK.out (by omega)),HB8⟩
     case measure=>simp[intOf]
   ·obtain rfl:j=6:=by omega
    have HZ:Hid (e0=0):=hX (HP.out.trans (HK.out (by omega)));go_wp2_with fail;go_ret;rw[HZ.out];exact ⟨rfl,HB4.out.trans (HW.out.mono HB4.out.size)⟩
 ·have hee:(es != 0)=true:=by rw[bne_iff_ne];exact he
  have HZ:Hid (e0=es):=hX (HR.out.trans (if_neg he));go_wp2_with fail;go_ret;rw[HZ.out];exact ⟨rfl,HB2.out⟩
end Go.Proofs.YtplkbdncgkgppaaGreatDoor.Qck
end
