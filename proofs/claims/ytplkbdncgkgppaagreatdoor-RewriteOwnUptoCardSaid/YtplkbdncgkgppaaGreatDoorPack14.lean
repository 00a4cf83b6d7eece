/- Lemmas that the last text leans on. -/
import Derived.Test.YtplkbdncgkgppaaGreatDoorTake
import Derived.Test.YtplkbdncgkgppaaGreatDoorPack13
import Derived.Test.YtplkbdncgkgppaaGreatDoorPack5
import Derived.Orders
import Derived.Test.YtplkbdncgkgppaaGreatDoorPack11
set_option linter.all false
set_option maxRecDepth 100000
set_option maxHeartbeats 4000000
section
namespace Go.Proofs.YtplkbdncgkgppaaGreatDoor.Qry
open Go.RowKit Words Tree QryP Kit Owned
theorem zs1 (w:World) (o:Obj) (l:List Value) (t:TypeId) (j:Nat) (u:Value) (h:l[j]?=some u):((w.alloc o).alloc (.cells l.toArray t)).cell? ((⟨w.heap.size+1,0,none⟩:Addr).add j)=some u:=by
 have:=cells_new (w.alloc o) l t j u h;rwa [World.size_alloc] at this
theorem zic (W:World) (g:Nat) (v0 v1 v2 v3 v4 v5 v6 v7 v8 v9:Value) (p:Addr) (hp:p.block≠g):((((((((((W.setCell ⟨g,0,none⟩ v0).setCell ⟨g,1,none⟩ v1).setCell ⟨g,2,none⟩ v2).setCell ⟨g,3,none⟩ v3).setCell ⟨g,4,none⟩ v4).setCell ⟨g,5,none⟩ v5).setCell ⟨g,6,none⟩ v6).setCell ⟨g,7,none⟩ v7).setCell ⟨g,8,none⟩ v8).setCell ⟨g,9,none⟩ v9).cell? p=W.cell? p:=by
 have h:∀(V:World) (i:Nat) (v:Value),(V.setCell ⟨g,i,none⟩ v).cell? p=V.cell? p:=fun V i v=>World.cell?_setCell_other _ _ _ _ (by intro e;subst e;exact hp rfl);rw[h,h,h,h,h,h,h,h,h,h]
theorem zs2 (W:World) (g:Nat) (v0 v1 v2 v3 v4 v5 v6 v7 v8 v9:Value):((((((((((W.setCell ⟨g,0,none⟩ v0).setCell ⟨g,1,none⟩ v1).setCell ⟨g,2,none⟩ v2).setCell ⟨g,3,none⟩ v3).setCell ⟨g,4,none⟩ v4).setCell ⟨g,5,none⟩ v5).setCell ⟨g,6,none⟩ v6).setCell ⟨g,7,none⟩ v7).setCell ⟨g,8,none⟩ v8).setCell ⟨g,9,none⟩ v9).heap.size=W.heap.size:=by simp[World.setCell]
theorem zp9 {B:Nat} {w W:World} (h:Below B w W) (g:Nat) (hg:B≤g) (v0 v1 v2 v3 v4 v5 v6 v7 v8 v9:Value):Below B w ((((((((((W.setCell ⟨g,0,none⟩ v0).setCell ⟨g,1,none⟩ v1).setCell ⟨g,2,none⟩ v2).setCell ⟨g,3,none⟩ v3).setCell ⟨g,4,none⟩ v4).setCell ⟨g,5,none⟩ v5).setCell ⟨g,6,none⟩ v6).setCell ⟨g,7,none⟩ v7).setCell ⟨g,8,none⟩ v8).setCell ⟨g,9,none⟩ v9):=
 ((((((((((h.setCell (p:=⟨g,0,none⟩) hg v0).setCell (p:=⟨g,1,none⟩) hg v1).setCell (p:=⟨g,2,none⟩) hg v2).setCell (p:=⟨g,3,none⟩) hg v3).setCell (p:=⟨g,4,none⟩) hg v4).setCell (p:=⟨g,5,none⟩) hg v5).setCell (p:=⟨g,6,none⟩) hg v6).setCell (p:=⟨g,7,none⟩) hg v7).setCell (p:=⟨g,8,none⟩) hg v8).setCell (p:=⟨g,9,none⟩) hg v9)
def zyx (q:QT) (w:World) (e:Ending) (w':World):Prop:=∃us,e = .returned (.agg us.toArray)∧T.AtL lent w' (fun g=>w.heap.size≤g∧g<w'.heap.size) (cells q) us∧Below w.heap.size w w'
theorem zar {sent:Nat→List (List Value)} {w:World} {S:Nat→Prop} {s n:Nat} {xs:List T} {v:Value} (h:T.At sent w S (.arr s n xs) v):∃A cap,v = .slice A n cap:=by
 simp only[T.At] at h;obtain ⟨A,cap,_,hv,_⟩:=h;exact ⟨A,cap,hv⟩
theorem zqa (l:List QT) (q:QT):zaw (l++[q])=zaw l++cells q:=by rw[zdq,zdq,List.flatMap_append];simp
def zyy (W wr:World) (v:Value) (ks:List QT) (k:Nat):Prop:=
 ∃xs,wr.ownsRow W.heap.size 28 10 v k xs∧T.AtL lent wr (fun g=>W.heap.size≤g∧g<wr.heap.size∧v.ownBlock≠some g) (zaw (ks.take k)) xs∧Below W.heap.size W wr
theorem zs3 (W:World) (ks:List QT):zyy W W (.slice none 0 0) ks 0:=⟨[],World.ownsRow_nil _ _ _ _,by simp[zaw,T.AtL],Below.refl _ _⟩
theorem zs4 {W wr w3 w4:World} {v v':Value} {ks:List QT} {k:Nat} {us xs:List Value} {q:QT} {o1 o2:Obj} (hk:k<ks.length) (hq:ks[k]=q)
 (hx:wr.ownsRow W.heap.size 28 10 v k xs) (ha:T.AtL lent wr (fun g=>W.heap.size≤g∧g<wr.heap.size∧v.ownBlock≠some g) (zaw (ks.take k)) xs) (hB:Below W.heap.size W wr)
 (hu:T.AtL lent w3 (fun g=>wr.heap.size≤g∧g<w3.heap.size) (cells q) us) (hb:Below wr.heap.size wr w3)
 (ho:w4.ownsRow W.heap.size 28 10 v' (k+1) (xs++us)) (hg:((w3.alloc o1).alloc o2).grownBy w4 v.ownBlock) (hv:v'.ownBlock=v.ownBlock∨v'.ownBlock=some (w3.heap.size+1+1)):zyy W w4 v' ks (k+1):=by
 have hlt:∀r,v.ownBlock=some r→r<wr.heap.size:=fun r e=>(hx.lt r e).2;have hz3:=hb.size;have hz4:=hg.size;simp only[World.size_alloc] at hz4
 have hbl:∀p:Addr,p.block<w3.heap.size→v.ownBlock≠some p.block→w4.cell? p=w3.cell? p:=fun p hp hne=>
  (World.cell?_of_block (hg.block p.block (by simp;omega) (fun e=>hne e.symm))).trans ((World.cell?_alloc_lt _ _ _ (by simp;omega)).trans (World.cell?_alloc_lt _ _ _ hp))
 refine ⟨xs++us,ho,?_,?_⟩
 ·rw[zbc hk,zqa,hq];refine AtL.append (AtL.keep (fun p hp=>?_) (fun g hg'=>?_) ha) (AtL.keep (fun p hp=>?_) (fun g hg'=>?_) hu)
  ·exact (hbl p (by omega) hp.2.2).trans (hb.cell hp.2.1)
  ·refine ⟨hg'.1,by omega,?_⟩;rcases hv with hv | hv <;> rw[hv]
   ·exact hg'.2.2
   ·intro e;injection e with e;omega
  ·exact hbl p hp.2 (fun e=>by have:=hlt _ e;omega)
  ·refine ⟨by have:=hB.size;omega,by omega,?_⟩;rcases hv with hv | hv <;> rw[hv]
   ·intro e;have:=hlt _ e;omega
   ·intro e;injection e with e;omega
 ·refine (((hB.trans (hb.mono hB.size)).alloc (by have:=hB.size;omega) o1).alloc (by have:=hB.size;simp;omega) o2).grown hg (by have:=hB.size;simp;omega) (fun r e=>(hx.lt r e).1)
theorem zvk {W wr w4:World} {v:Value} {ks:List QT} {xs:List Value} {g cap:Nat} {o:Obj}
 (hx:wr.ownsRow W.heap.size 28 10 v ks.length xs) (ha:T.AtL lent wr (fun g=>W.heap.size≤g∧g<wr.heap.size∧v.ownBlock≠some g) (zaw (ks.take ks.length)) xs) (hB:Below W.heap.size W wr)
 (ho:w4.ownsRow W.heap.size 28 10 (.slice (some ⟨g,0,none⟩) (ks.length+1) cap) (ks.length+1) (xs++zsz)) (hcap:ks.length+1≤cap) (hm:cap≤maxLen) (hg:(wr.alloc o).grownBy w4 v.ownBlock) :
 T.At lent w4 (fun g=>W.heap.size≤g∧g<w4.heap.size) (.arr 10 ks.length (zaw ks)) (.slice (some ⟨g,0,none⟩) ks.length cap)∧Below W.heap.size W w4:=by
 have hz4:=hg.size;simp only[World.size_alloc] at hz4;have hlt:=ho.lt g rfl;refine ⟨?_,(hB.alloc hB.size o).grown hg (by have:=hB.size;simp;omega) (fun r e=>(hx.lt r e).1)⟩;simp only[T.At];rw[List.take_length] at ha;refine ⟨_,cap,xs,rfl,by rw[zmm];simpa using hcap,hm,zga ks,fun _=>⟨_,rfl,hlt,?_⟩,AtL.keep (fun p hp=>?_) (fun g' hg'=>⟨hg'.1,by omega⟩) ha⟩
 ·rw[zmm];exact ho.cells (g:=g) rfl
 ·exact (World.cell?_of_block (hg.block p.block (by simp;omega) (fun e=>hp.2.2 e.symm))).trans (World.cell?_alloc_lt _ _ _ hp.2.1)
theorem zoc:∀(n:Nat) (q:QT) (vs:List Value) (w:World),q.sz≤n→Ok q→T.AtL bare w (fun g=>g<w.heap.size) (cells q) vs→Calls Tryz.prog 9 #[.agg vs.toArray] w (zyx q w):=by
 intro n
 induction n with
 | zero=>intro q vs w hs;have:=q.sz_pos;omega
 | succ n ih=>
 intro q vs w hs hq hv
 cases hq with
 | @mk kd oc f t u lo hi b op ks hkd hoc hf ht hu' hlo hhi hb hop hks hk=>
 obtain ⟨vl,vh,vk,rfl,hvl,hvh,hvk⟩:=zal hv;obtain ⟨A1,c1,rfl,_,_,r1⟩:=zau hvl;obtain ⟨A2,c2,rfl,_,_,r2⟩:=zau hvh;obtain ⟨AK,cK,rfl,_,hmK,eK⟩:=zc9 hvk;have hLO:∀W,Below w.heap.size w W→Calls Tryz.prog 24 #[.slice A1 lo.length c1] W (LentT (zc8 .i64 lo) W):=fun W hW=>zlm _ _ _ W ((r1.below hW).more hW.size) hlo.1;have hHI:∀W,Below w.heap.size w W→Calls Tryz.prog 24 #[.slice A2 hi.length c2] W (LentT (zc8 .i64 hi) W):=fun W hW=>zlm _ _ _ W ((r2.below hW).more hW.size) hhi.1;have hIH:∀(i:Nat) (h:i<ks.length) (us:List Value) (W:World),T.AtL bare W (fun g=>g<W.heap.size) (cells ks[i]) us→Calls Tryz.prog 9 #[.agg us.toArray] W (zyx ks[i] W):=fun i h us W hW=>by refine ih _ us W ?_ (hk _ (List.getElem_mem h)) hW;have:=QT.sz_kid (kd:=kd) (oc:=oc) (f:=f) (t:=t) (u:=u) (lo:=lo) (hi:=hi) (b:=b) (op:=op) (List.getElem_mem h);omega
 have LO:=hX hLO;have HI:=hX hHI;have EK:=hX eK;have IH:=hX hIH;obtain ⟨i0,hi0,hz0,hz1,hz2⟩:=info_parts zs0;have HI0:=hX hi0;have HZ0:=hX hz0;have HZ1:=hX hz1;have HZ2:=hX hz2;clear ih hLO hHI hIH eK hk hv hvl hvh hvk r1 r2 hkd hoc hf ht hu' hlo hhi hb hop hs hi0 hz0 hz1 hz2;go_enter Tryz.func9,Tryz.ntmps9;go_wp2_with fail;refine (LO.out _ (below2 _ _)).mono ?_;rintro e w1 ⟨vl1,rfl,al1,b1⟩;obtain ⟨L1,m1,rfl⟩:=zar al1;have HB1:=hX ((below2 _ _).trans (b1.mono (by simp;omega)):Below w.heap.size w w1);have BA1:=hX ((zg0 _ _ _ _ _).below b1 (by simp;omega));have BB1:=hX ((blk_b _ _ _ _ _).below b1 (by simp));have hz:=b1.size;simp only[World.size_alloc] at hz;have AL1:Hid (T.At lent w1 (fun g=>w.heap.size+2≤g∧g<w1.heap.size) (zc8 .i64 lo) (.slice L1 lo.length m1)):=hX (At.keep (fun _ _=>rfl) (fun g hg=>by simpa using hg) al1);have c5:w1.cell? ⟨w.heap.size,5,none⟩=some (.slice A1 lo.length c1):=BA1.out.cell 5;have f5:w1.frozen? ⟨w.heap.size,5,none⟩=false:=BA1.out.frozen 5;have c6:w1.cell? ⟨w.heap.size,6,none⟩=some (.slice A2 hi.length c2):=BA1.out.cell 6;clear al1 b1;go_wp2_with fail;have BA2:Hid (Blk (w1.setCell ⟨w.heap.size,5,none⟩ (.slice L1 lo.length m1)) w.heap.size 28 #[.int .i64 kd,.int .i64 oc,.string f,.string t,.string u,.slice L1 lo.length m1,.slice A2 hi.length c2,.int .i64 b,.int .i64 op,.slice AK ks.length cK]):=hX (BA1.out.set_ 5 _);have BB2:=hX (BB1.out.far (p:=⟨w.heap.size,5,none⟩) (by simp) (.slice L1 lo.length m1))
 have HB2:Hid (Below w.heap.size w (w1.setCell ⟨w.heap.size,5,none⟩ (.slice L1 lo.length m1))):=hX (HB1.out.setCell (Nat.le_refl _) _);have AL2:Hid (T.At lent (w1.setCell ⟨w.heap.size,5,none⟩ (.slice L1 lo.length m1)) (fun g=>w.heap.size+2≤g∧g<w1.heap.size) (zc8 .i64 lo) (.slice L1 lo.length m1)):=hX (At.keep (fun p hp=>World.cell?_setCell_other _ _ _ _ (by intro e;subst e;have:=hp.1;simp at this;omega)) (fun _ h=>h) AL1.out);have hs2:(w1.setCell ⟨w.heap.size,5,none⟩ (.slice L1 lo.length m1)).heap.size=w1.heap.size:=by simp[World.setCell]
 have HS2:=hX hs2;clear c5 f5 c6 AL1 BA1 BB1 HB1 hs2;generalize w1.setCell ⟨w.heap.size,5,none⟩ (.slice L1 lo.length m1)=wA at *;refine (HI.out _ HB2.out).mono ?_;rintro e w2 ⟨vh1,rfl,al2,b2⟩;obtain ⟨L2,m2,rfl⟩:=zar al2;have hz2:=b2.size;rw[HS2.out] at hz2;have BA3:=hX (BA2.out.below b2 BA2.out.lt);have BB3:=hX (BB2.out.below b2 BB2.out.lt);have HB3:=hX (HB2.out.trans (b2.mono HB2.out.size));have AL3:Hid (T.At lent w2 (fun g=>w.heap.size+2≤g∧g<w2.heap.size) (zc8 .i64 lo) (.slice L1 lo.length m1)):=hX (At.keep (fun p hp=>b2.cell (by rw[HS2.out];exact hp.2)) (fun g h=>⟨h.1,by omega⟩) AL2.out);have AH3:Hid (T.At lent w2 (fun g=>w.heap.size+2≤g∧g<w2.heap.size) (zc8 .i64 hi) (.slice L2 hi.length m2)):=hX (At.keep (fun _ _=>rfl) (fun g h=>⟨by have:=h.1;rw[HS2.out] at this;omega,h.2⟩) al2);have c6:w2.cell? ⟨w.heap.size,6,none⟩=some (.slice A2 hi.length c2):=BA3.out.cell 6;have f6:w2.frozen? ⟨w.heap.size,6,none⟩=false:=BA3.out.frozen 6;clear al2 b2 AL2 BA2 BB2 HB2 HS2;go_wp2_with fail;have BA4:Hid (Blk (w2.setCell ⟨w.heap.size,6,none⟩ (.slice L2 hi.length m2)) w.heap.size 28 #[.int .i64 kd,.int .i64 oc,.string f,.string t,.string u,.slice L1 lo.length m1,.slice L2 hi.length m2,.int .i64 b,.int .i64 op,.slice AK ks.length cK]):=hX (BA3.out.set_ 6 _);have BB4:=hX (BB3.out.far (p:=⟨w.heap.size,6,none⟩) (by simp) (.slice L2 hi.length m2))
 have HB4:Hid (Below w.heap.size w (w2.setCell ⟨w.heap.size,6,none⟩ (.slice L2 hi.length m2))):=hX (HB3.out.setCell (Nat.le_refl _) _);have hs4:(w2.setCell ⟨w.heap.size,6,none⟩ (.slice L2 hi.length m2)).heap.size=w2.heap.size:=by simp[World.setCell]
 have AL4:Hid (T.At lent (w2.setCell ⟨w.heap.size,6,none⟩ (.slice L2 hi.length m2)) (fun g=>w.heap.size+2≤g∧g<(w2.setCell ⟨w.heap.size,6,none⟩ (.slice L2 hi.length m2)).heap.size) (zc8 .i64 lo) (.slice L1 lo.length m1)):=hX (At.keep (fun p hp=>World.cell?_setCell_other _ _ _ _ (by intro e;subst e;have:=hp.1;simp at this;omega)) (fun _ h=>by rw[hs4];exact h) AL3.out);have AH4:Hid (T.At lent (w2.setCell ⟨w.heap.size,6,none⟩ (.slice L2 hi.length m2)) (fun g=>w.heap.size+2≤g∧g<(w2.setCell ⟨w.heap.size,6,none⟩ (.slice L2 hi.length m2)).heap.size) (zc8 .i64 hi) (.slice L2 hi.length m2)):=hX (At.keep (fun p hp=>World.cell?_setCell_other _ _ _ _ (by intro e;subst e;have:=hp.1;simp at this;omega)) (fun _ h=>by rw[hs4];exact h) AH3.out);have hzw:w.heap.size+2≤(w2.setCell ⟨w.heap.size,6,none⟩ (.slice L2 hi.length m2)).heap.size:=by omega
 clear c6 f6 AL3 AH3 BA3 BB3 HB3 hs4 hz2 hz;generalize w2.setCell ⟨w.heap.size,6,none⟩ (.slice L2 hi.length m2)=W at *;go_loopw [3,4] (fun v i wr=>∃k:Nat,k≤ks.length∧i = .int .i64 k∧Hid (zyy W wr v ks k)) (fun _ i _=>ks.length - (intOf i).toNat);case atStart=>exact ⟨0,by omega,rfl,hX (zs3 W ks)⟩
 case round=>
  obtain ⟨k,hkk,rfl,HK⟩:=hrel;have HKB:Hid (Below W.heap.size W wr):=hX (by obtain ⟨_,_,_,h⟩:=HK.out;exact h);have BW:=hX (BA4.out.below HKB.out (by omega));have BV:=hX (BB4.out.below HKB.out (by omega));have hzr:=HKB.out.size;have c9:wr.cell? ⟨w.heap.size,9,none⟩=some (.slice AK ks.length cK):=BW.out.cell 9;by_cases hlt:k<ks.length
  ·obtain ⟨ad,us,rfl,hba,au,lu,cu⟩:=EK.out k hlt;have HWR:Hid (Below w.heap.size w wr):=hX (HB4.out.trans (HKB.out.mono HB4.out.size));replace cu:=cu.keep (w':=wr) (fun p hp=>HWR.out.cell (by rw[hp,zab];exact hba));have HC:Hid (Calls Tryz.prog 9 #[.agg us.toArray] wr (zyx ks[k] wr)):=hX (IH.out k hlt us wr (AtL.below au HWR.out (fun g hg=>Nat.lt_of_lt_of_le hg HWR.out.size)));have HQ:Hid (∃q,ks[k]=q):=hX ⟨_,rfl⟩;have hab:(ad.add (k*10)).block<wr.heap.size:=by rw[zab];omega
   obtain ⟨q,hq⟩:=HQ.out;rw[hq] at au;have HC2:Hid (Calls Tryz.prog 9 #[.agg us.toArray] wr (zyx q wr)):=hX (by rw[←hq];exact HC.out);have HQK:=hX hq;clear hq HQ HC;obtain ⟨k1,o1,f1,t1,u1,l1,h1,b1,p1,e1⟩:=q;obtain ⟨x5,x6,x9,rfl,g5,g6,g9⟩:=zal au;obtain ⟨X5,z5,rfl⟩:=zar g5;obtain ⟨X6,z6,rfl⟩:=zar g6;obtain ⟨X9,z9,rfl⟩:=zar g9;obtain ⟨a0,a1,a2,a3,a4,a5,a6,a7,a8,a9⟩:=ten cu;clear cu au lu g5 g6 g9;go_wp2_with fail;refine HC2.out.mono ?_;rintro e w3 ⟨us',rfl,au',bu⟩;have HU:=hX au';obtain ⟨y5,y6,y9,rfl,g5,g6,g9⟩:=zal au';obtain ⟨Y5,z5',rfl⟩:=zar g5;obtain ⟨Y6,z6',rfl⟩:=zar g6;obtain ⟨Y9,z9',rfl⟩:=zar g9;have HBU:=hX bu;have hz3:=bu.size;have c9':w3.cell? ⟨w.heap.size,9,none⟩=some (.slice (some ad) ks.length cK):=(BW.out.below bu BW.out.lt).cell 9;obtain ⟨xs,hx,ha,hB⟩:=HK.out;have hown:=zbb hx bu;have HX:=hX hx;have HA:=hX ha;have HI1:=HI0.out;have HI2:=HZ0.out;have HI3:=HZ1.out;have HI4:=HZ2.out;clear a0 a1 a2 a3 a4 a5 a6 a7 a8 a9 c9 g5 g6 g9 au' bu hx ha hB
   go_wp2_with (at_builtin;refine zao _ rfl (.tmp 27) (.tmp 29) 26 rfl W.heap.size 28 i0 _ 10 152 Tryz.underlying26 HI1 HI2 HI3 HI4 rfl (by decide) _ k xs rfl ((hown.alloc _).alloc _) (w3.heap.size+1+1) (some ⟨w3.heap.size+1,0,none⟩) 1 1 [.int .i64 k1,.int .i64 o1,.string f1,.string t1,.string u1,.slice Y5 l1.length z5',.slice Y6 h1.length z6',.int .i64 b1,.int .i64 p1,.slice Y9 e1.length z9'] rfl ?d1 ?d2 ?d3 ?d4 ?d5 ?_);case d1=>exact ⟨rfl,fun _=>⟨_,rfl,Nat.lt_succ_self _,fun j u hu=>zs1 w3 _ _ _ j u hu⟩⟩
   case d2=>intro u hu;simp only[List.mem_cons,List.not_mem_nil,or_false] at hu;rcases hu with rfl | rfl | rfl | rfl | rfl | rfl | rfl | rfl | rfl | rfl <;> rfl
   case d3=>unfold maxLen;omega
   case d4=>omega
   case d5=>simp;omega
   intro v' w4 ho hg hv;have HST:Hid (zyy W w4 v' ks (k+1)):=hX (zs4 hlt HQK.out HX.out HA.out HKB.out HU.out HBU.out ho hg hv);clear ho hg hv hown HI1 HI2 HI3 HI4 c9';go_wp2_with fail;go_roundw;case rel=>exact ⟨k+1,by omega,by go_num,HST⟩
   case measure=>simp[intOf];omega
  ·obtain rfl:k=ks.length:=by omega
   obtain ⟨xs,hx,ha,hB⟩:=HK.out;have HX:=hX hx;have HA:=hX ha;have HI1:=HI0.out;have HI2:=HZ0.out;have HI3:=HZ1.out;have HI4:=HZ2.out;clear ha hB;go_wp2_with (at_builtin;refine wpList_append_own _ rfl (.tmp 31) (.tmp 33) 26 rfl W.heap.size 28 i0 _ 10 152 Tryz.underlying26 HI1 HI2 HI3 HI4 rfl (by decide) _ ks.length xs rfl (hx.alloc _) ⟨wr.heap.size,0,none⟩ 1 1 zsz rfl rfl ?d6 ?d7 ?d8 ?d9 ?d10 ?_);case d6=>intro j u hu;exact cells_new wr zsz _ j u hu
   case d7=>intro u hu;simp only[zsz,List.mem_cons,List.not_mem_nil,or_false] at hu;rcases hu with rfl | rfl | rfl | rfl | rfl | rfl | rfl | rfl | rfl | rfl <;> rfl
   case d8=>unfold maxLen;omega
   case d9=>omega
   case d10=>simp;omega
   intro v' w4 ho hg _
   rcases ho.2 with ⟨_,h0⟩ | ⟨g,cap,cur,rfl,hB',hgg,hn,hm,hcs,ht⟩
   ·omega
   have HE:=hX (zvk HX.out HA.out HKB.out ho hn hm hg);have hne:∀b,b<W.heap.size→some b≠u3.ownBlock:=fun b hb e=>by have:=(HX.out.lt b e.symm).1;omega
   have BX:=hX ((BW.out.alloc (.cells #[.int .i64 (-71),.int .i64 0,.string ⟨#[]⟩,.string ⟨#[]⟩,.string ⟨#[]⟩,.slice none 0 0,.slice none 0 0,.int .i64 0,.int .i64 0,.slice none 0 0] 28)).grown hg (hne _ (by omega)));have BY:=hX ((BV.out.alloc (.cells #[.int .i64 (-71),.int .i64 0,.string ⟨#[]⟩,.string ⟨#[]⟩,.string ⟨#[]⟩,.slice none 0 0,.slice none 0 0,.int .i64 0,.int .i64 0,.slice none 0 0] 28)).grown hg (hne _ (by omega)));have c9':w4.cell? ⟨w.heap.size,9,none⟩=some (.slice AK ks.length cK):=BX.out.cell 9;have f9:w4.frozen? ⟨w.heap.size,9,none⟩=false:=BX.out.frozen 9;have hm':=hm;unfold maxLen at hm';clear ho hg hgg hcs ht hx HI1 HI2 HI3 HI4 hB' hm c9 hne;go_upto_region 11 with fail;have BX2:Hid (Blk (w4.setCell ⟨w.heap.size,9,none⟩ (.slice (some ⟨g,0,none⟩) ks.length cap)) w.heap.size 28 #[.int .i64 kd,.int .i64 oc,.string f,.string t,.string u,.slice L1 lo.length m1,.slice L2 hi.length m2,.int .i64 b,.int .i64 op,.slice (some ⟨g,0,none⟩) ks.length cap]):=hX (BX.out.set_ 9 _);have BY2:=hX (BY.out.far (p:=⟨w.heap.size,9,none⟩) (by simp) (.slice (some ⟨g,0,none⟩) ks.length cap))
   have HA2:Hid (T.At lent (w4.setCell ⟨w.heap.size,9,none⟩ (.slice (some ⟨g,0,none⟩) ks.length cap)) (fun r=>w.heap.size+2≤r∧r<w4.heap.size) (.arr 10 ks.length (zaw ks)) (.slice (some ⟨g,0,none⟩) ks.length cap)):=
    hX (At.keep (fun p hp=>World.cell?_setCell_other _ _ _ _ (by intro e;subst e;have:=hp.1;simp at this;omega)) (fun r h=>⟨by omega,h.2⟩) HE.out.1)
   have hlt4:=HE.out.2.size
   have AL5:Hid (T.At lent (w4.setCell ⟨w.heap.size,9,none⟩ (.slice (some ⟨g,0,none⟩) ks.length cap)) (fun r=>w.heap.size+2≤r∧r<w4.heap.size) (zc8 .i64 lo) (.slice L1 lo.length m1)):=
    hX (At.keep (fun p hp=>(World.cell?_setCell_other _ _ _ _ (by intro e;subst e;have:=hp.1;simp at this;omega)).trans (HE.out.2.cell hp.2)) (fun r h=>⟨h.1,by omega⟩) AL4.out)
   have AH5:Hid (T.At lent (w4.setCell ⟨w.heap.size,9,none⟩ (.slice (some ⟨g,0,none⟩) ks.length cap)) (fun r=>w.heap.size+2≤r∧r<w4.heap.size) (zc8 .i64 hi) (.slice L2 hi.length m2)):=
    hX (At.keep (fun p hp=>(World.cell?_setCell_other _ _ _ _ (by intro e;subst e;have:=hp.1;simp at this;omega)).trans (HE.out.2.cell hp.2)) (fun r h=>⟨h.1,by omega⟩) AH4.out)
   have HB5:Hid (Below w.heap.size w (w4.setCell ⟨w.heap.size,9,none⟩ (.slice (some ⟨g,0,none⟩) ks.length cap))):=hX ((HB4.out.trans (HE.out.2.mono HB4.out.size)).setCell (Nat.le_refl _) _);have hs5:(w4.setCell ⟨w.heap.size,9,none⟩ (.slice (some ⟨g,0,none⟩) ks.length cap)).heap.size=w4.heap.size:=by simp[World.setCell]
   rw[←hs5] at HA2 AL5 AH5;clear hs5 c9' f9 BX BY HE BA4 BB4 HB4 AL4 AH4 HKB BW BV HX HA hlt4 hzr hzw;generalize w4.setCell ⟨w.heap.size,9,none⟩ (.slice (some ⟨g,0,none⟩) ks.length cap)=W5 at *;obtain ⟨p0,p1,p2,p3,p4,p5,p6,p7,p8,p9⟩:=zas BX2.out;obtain ⟨q0,q1,q2,q3,q4,q5,q6,q7,q8,q9⟩:=zas BY2.out;have z0:=BY2.out.frozen 0;have z1:=BY2.out.frozen 1;have z2:=BY2.out.frozen 2;have z3:=BY2.out.frozen 3;have z4:=BY2.out.frozen 4;have z5:=BY2.out.frozen 5;have z6:=BY2.out.frozen 6;have z7:=BY2.out.frozen 7;have z8:=BY2.out.frozen 8;have z9:=BY2.out.frozen 9;go_wp2_with fail;refine bodyPost_ret (v:=.agg #[.int .i64 kd,.int .i64 oc,.string f,.string t,.string u,.slice L1 lo.length m1,.slice L2 hi.length m2,.int .i64 b,.int .i64 op,.slice (some ⟨g,0,none⟩) ks.length cap]) (by simp[results,Tryz.results9,go_sem,q0,q1,q2,q3,q4,q5,q6,q7,q8,q9]) rfl ⟨_,rfl,?_,zp9 HB5.out _ (by omega) _ _ _ _ _ _ _ _ _ _⟩;refine zrs (At.keep (fun p hp=>zic _ _ _ _ _ _ _ _ _ _ _ _ p (by have:=hp.1;omega)) (fun r hr=>?_) AL5.out) (At.keep (fun p hp=>zic _ _ _ _ _ _ _ _ _ _ _ _ p (by have:=hp.1;omega)) (fun r hr=>?_) AH5.out) (At.keep (fun p hp=>zic _ _ _ _ _ _ _ _ _ _ _ _ p (by have:=hp.1;omega)) (fun r hr=>?_) HA2.out)
   all_goals
    rw[zs2];exact ⟨by omega,hr.2⟩
end Go.Proofs.YtplkbdncgkgppaaGreatDoor.Qry
end
section
namespace Go.Proofs.YtplkbdncgkgppaaGreatDoor.Qry
open Go.RowKit Words Tree QryP Kit Owned
theorem ziw {w:World} {S:Nat→Prop} {ks:List QT} {v:Value} (h:T.At lent w S (.arr 10 ks.length (zaw ks)) v) :
 ∃ad cap,v = .slice (some ad) ks.length cap∧ks.length+1≤cap∧cap≤maxLen∧S ad.block∧w.cell? (ad.add (ks.length*10))=some (.int .i64 (-71))∧
  ∀(i:Nat) (hi:i<ks.length),∃us,T.AtL lent w S (cells ks[i]) us∧us.length=10∧zbv w (ad.add (i*10)) us:=by
 simp only[T.At] at h;obtain ⟨A,cap,vs,hv,hc,hm,hl,ha,hx⟩:=h;rw[zmm] at hc ha;obtain ⟨ad,rfl,hs,hcs⟩:=ha (by simp);refine ⟨ad,cap,hv,hc,hm,hs,?_,fun i hi=>?_⟩
 ·have:=hcs.right;rw[AtL.length hx,zga] at this;exact this.zero
 ·rw[zdq] at hx;obtain ⟨us,hul,hus,hj⟩:=AtL.elem cells_len hx i hi;exact ⟨us,hus,hul,(hcs.left).elem hj hul⟩
theorem zvl:∀(n:Nat) (q:QT) (vs us:List Value) (w:World),q.sz≤n→Ok q→T.AtL lent w (fun g=>g<w.heap.size) (cells q) vs→T.AtL bare w (fun g=>g<w.heap.size) (cells q) us→Calls Tryz.prog 12 #[.agg vs.toArray,.agg us.toArray] w (BoolB true w):=by
 intro n
 induction n with
 | zero=>intro q vs us w hs;have:=q.sz_pos;omega
 | succ n ih=>
 intro q vs us w hs hq hv hu
 have hQ:∀W,Below w.heap.size w W→Calls Tryz.prog 30 #[.agg vs.toArray,.agg us.toArray] W (BoolB true W):=fun W hW=>
  zob _ q q vs us W (Nat.le_refl _) hq hq (AtL.below (AtL.bare hv) hW (fun g hg=>Nat.lt_of_lt_of_le hg hW.size)) (AtL.below hu hW (fun g hg=>Nat.lt_of_lt_of_le hg hW.size)) true (by simp)
 cases hq with
 | @mk kd oc f t u lo hi b op ks hkd hoc hf ht hu' hlo hhi hb hop hks hk=>
 obtain ⟨vl,vh,vk,rfl,hvl,hvh,hvk⟩:=zal hv;obtain ⟨ul,uh,uk,rfl,hul,huh,huk⟩:=zal hu;obtain ⟨B1,d1,rfl,_,_,s1⟩:=zau hul;obtain ⟨B2,d2,rfl,_,_,s2⟩:=zau huh;obtain ⟨BK,dK,rfl,_,hmB,eB⟩:=zc9 huk;obtain ⟨A1,c1,rfl⟩:=zar hvl;obtain ⟨A2,c2,rfl⟩:=zar hvh;obtain ⟨ad,cK,rfl,hcap,hmK,hadb,hmark,eK⟩:=ziw hvk
 have hLO:∀W,Below w.heap.size w W→Calls Tryz.prog 31 #[.slice A1 lo.length c1,.slice B1 lo.length d1] W (BoolB true W):=fun W hW=>
  zln _ _ _ _ _ W (At.below hvl hW (fun g hg=>Nat.lt_of_lt_of_le hg hW.size)) ((s1.below hW).more hW.size) hlo.1 hlo.1 true (by simp)
 have hHI:∀W,Below w.heap.size w W→Calls Tryz.prog 31 #[.slice A2 hi.length c2,.slice B2 hi.length d2] W (BoolB true W):=fun W hW=>
  zln _ _ _ _ _ W (At.below hvh hW (fun g hg=>Nat.lt_of_lt_of_le hg hW.size)) ((s2.below hW).more hW.size) hhi.1 hhi.1 true (by simp)
 have hIH:∀(i:Nat) (h:i<ks.length) (us us2:List Value) (W:World),T.AtL lent W (fun g=>g<W.heap.size) (cells ks[i]) us→T.AtL bare W (fun g=>g<W.heap.size) (cells ks[i]) us2→Calls Tryz.prog 12 #[.agg us.toArray,.agg us2.toArray] W (BoolB true W):=fun i h us us2 W h1 h2=>by refine ih _ us us2 W ?_ (hk _ (List.getElem_mem h)) h1 h2;have:=QT.sz_kid (kd:=kd) (oc:=oc) (f:=f) (t:=t) (u:=u) (lo:=lo) (hi:=hi) (b:=b) (op:=op) (List.getElem_mem h);omega
 have LO:=hX hLO;have HI:=hX hHI;have EK:=hX eK;have EB:=hX eB;have IH:=hX hIH;have QQ:=hX hQ;have MK:=hX hmark;have hmK':=hmK;unfold maxLen at hmK';clear ih hLO hHI hIH hQ eK eB hk hv hu hvl hvh hvk hul huh huk s1 s2 hkd hoc hf ht hu' hlo hhi hb hop hs hmark;go_enter Tryz.func12,Tryz.ntmps12;go_wp2_with fail;refine (QQ.out _ (below2 _ _)).mono ?_;rintro e W0 ⟨rfl,b0⟩;have HB0:=hX ((below2 _ _).trans (b0.mono (by simp;omega)):Below w.heap.size w W0);have BA0:=hX ((zg0 _ _ _ _ _).below b0 (by simp;omega));have BB0:=hX ((blk_b _ _ _ _ _).below b0 (by simp));have p5:W0.cell? ⟨w.heap.size,5,none⟩=some (.slice A1 lo.length c1):=BA0.out.cell 5;have q5:W0.cell? ⟨w.heap.size+1,5,none⟩=some (.slice B1 lo.length d1):=BB0.out.cell 5;clear b0;go_wp2_with fail;refine (LO.out _ HB0.out).mono ?_;rintro e W1 ⟨rfl,b1⟩;have HB1:=hX (HB0.out.trans (b1.mono HB0.out.size));have BA1:=hX (BA0.out.below b1 BA0.out.lt);have BB1:=hX (BB0.out.below b1 BB0.out.lt);have p6:W1.cell? ⟨w.heap.size,6,none⟩=some (.slice A2 hi.length c2):=BA1.out.cell 6;have q6:W1.cell? ⟨w.heap.size+1,6,none⟩=some (.slice B2 hi.length d2):=BB1.out.cell 6;clear b1 p5 q5;go_wp2_with fail;refine (HI.out _ HB1.out).mono ?_;rintro e W2 ⟨rfl,b2⟩;have HB2:=hX (HB1.out.trans (b2.mono HB1.out.size));have BA2:=hX (BA1.out.below b2 BA1.out.lt);have BB2:=hX (BB1.out.below b2 BB1.out.lt);have hzz:w.heap.size+2≤W2.heap.size:=BB2.out.lt;clear b2 p6 q6 BA0 BB0 BA1 BB1 HB0 HB1;go_wp2_with fail
 go_loopw [5] (fun i wr=>∃k:Nat,k≤ks.length∧i = .int .i64 k∧Hid (Below W2.heap.size W2 wr)) (fun i _=>ks.length - (intOf i).toNat);case atStart=>exact ⟨0,by omega,rfl,hX (Below.refl _ _)⟩
 case round=>
  obtain ⟨k,hkk,rfl,HW⟩:=hrel;have hcA:wr.cell? ⟨w.heap.size,9,none⟩=some (.slice (some ad) ks.length cK):=(BA2.out.below HW.out BA2.out.lt).cell 9;have hcB:wr.cell? ⟨w.heap.size+1,9,none⟩=some (.slice BK ks.length dK):=(BB2.out.below HW.out BB2.out.lt).cell 9;have hwz:=HW.out.size;have HWW:Hid (Below w.heap.size w wr):=hX (HB2.out.trans (HW.out.mono HB2.out.size));by_cases hlt:k<ks.length
  ·obtain ⟨us,au,lu,cu⟩:=EK.out k hlt;obtain ⟨bd,us2,rfl,hbb,au2,lu2,cu2⟩:=EB.out k hlt;replace cu:=cu.keep (w':=wr) (fun p hp=>HWW.out.cell (by rw[hp,zab];exact hadb));replace cu2:=cu2.keep (w':=wr) (fun p hp=>HWW.out.cell (by rw[hp,zab];exact hbb))
   have hC:∀(W:World),Below w.heap.size w W→Calls Tryz.prog 12 #[.agg us.toArray,.agg us2.toArray] W (BoolB true W):=fun W hW=>
    IH.out k hlt us us2 W (AtL.below au hW (fun g hg=>Nat.lt_of_lt_of_le hg hW.size)) (AtL.below au2 hW (fun g hg=>Nat.lt_of_lt_of_le hg hW.size))
   have HC:=hX hC;clear hC;generalize hx1:ks[k]=q1 at *;clear hx1;obtain ⟨k1,o1,f1,t1,u1,l1,h1,b1,p1,e1⟩:=q1;obtain ⟨x5,x6,x9,rfl,-,-,-⟩:=zal au;obtain ⟨y5,y6,y9,rfl,-,-,-⟩:=zal au2;obtain ⟨a0,a1,a2,a3,a4,a5,a6,a7,a8,a9⟩:=ten cu;obtain ⟨b0,b1'',b2'',b3,b4,b5,b6,b7,b8,b9⟩:=ten cu2;clear cu cu2 au au2 lu lu2;go_upto_region 6 with fail;have hBW:Below w.heap.size w ({ wr with drawn:=wr.drawn+1 }:World):=HWW.out.trans ⟨rfl,rfl,rfl,Nat.le_refl _,fun _ _=>rfl⟩;have hBV:Below W2.heap.size W2 ({ wr with drawn:=wr.drawn+1 }:World):=HW.out.trans ⟨rfl,rfl,rfl,Nat.le_refl _,fun _ _=>rfl⟩;change ({ wr with drawn:=wr.drawn+1 }:World).cell? _=_ at hcA hcB a0 a1 a2 a3 a4 a5 a6 a7 a8 a9 b0 b1'' b2'' b3 b4 b5 b6 b7 b8 b9;refine wp_region_still_tail 10 (by kernel_rfl) (by kernel_rfl) ?_;simp only[List.take_succ_cons,List.take_zero,List.drop_succ_cons,List.drop_zero];clear HW HWW hwz;generalize ({ wr with drawn:=wr.drawn+1 }:World)=W at *;repeat still_step
   refine wpStill_nil ?_;change wpList _ _ _ _ _ _;have HBW:=hX hBW;have HBV:=hX hBV;clear hBW hBV;clear hcA hcB a0 a1 a2 a3 a4 a5 a6 a7 a8 a9 b0 b1'' b2'' b3 b4 b5 b6 b7 b8 b9;go_wp2_with fail;refine (HC.out _ HBW.out).mono ?_;rintro e W3 ⟨rfl,bW⟩;have BV:=hX (HBV.out.trans (bW.mono HBV.out.size));clear bW;go_wp2_with fail;go_roundw;case rel=>exact ⟨k+1,by omega,by go_num,BV⟩
   case measure=>simp[intOf];omega
  ·obtain rfl:k=ks.length:=by omega
   have hmk:wr.cell? (ad.add (ks.length*10))=some (.int .i64 (-71)):=(HWW.out.cell (by rw[zab];exact hadb)).trans MK.out;go_wp2_with fail;go_ret;exact ⟨rfl,HWW.out⟩
end Go.Proofs.YtplkbdncgkgppaaGreatDoor.Qry
end
section
namespace Go.Proofs.YtplkbdncgkgppaaGreatDoor.Two
open Go.RowKit Words Tree
section
variable {a:Act} {s5 s6 s7 s8 s9 s10:Nat} {v5 v6 v7 v8 v9 v10:Value}
structure Six (a:Act) (s5 s6 s7 s8 s9 s10:Nat):Prop where
 n56:s5≠s6
 n57:s5≠s7
 n58:s5≠s8
 n59:s5≠s9
 n50:s5≠s10
 n67:s6≠s7
 n68:s6≠s8
 n69:s6≠s9
 n60:s6≠s10
 n78:s7≠s8
 n79:s7≠s9
 n70:s7≠s10
 n89:s8≠s9
 n80:s8≠s10
 n90:s9≠s10
 lt:s5<a.tmps.size∧s6<a.tmps.size∧s7<a.tmps.size∧s8<a.tmps.size∧s9<a.tmps.size∧s10<a.tmps.size
variable (h:Six a s5 s6 s7 s8 s9 s10)
include h
end
section
variable (P:Program) (A1 A2 T1 T2:TypeId) (f1 f2:FuncId) (s2 s3 s5 s6 s7 s8 s9 s10:Nat) (p:String)
variable {P A1 A2 T1 T2 f1 f2 s2 s3 s5 s6 s7 s8 s9 s10 p}
variable {a:Act} {w:World} {x1 x2:Value} {z1 z2:Array Value} {m1 m2:Nat→List (List Value)} {ts1 ts2:List T}
end
end Go.Proofs.YtplkbdncgkgppaaGreatDoor.Two
end
section
namespace Go.Proofs.YtplkbdncgkgppaaGreatDoor.Qry
open Go.RowKit Words Tree QryP Kit Owned Two
theorem zcg {W:World} {g:Nat} {t:TypeId} {c0 c1 c2 c3 c4 c5 c6 c7 c8 c9:Value} (h:Blk W g t #[c0,c1,c2,c3,c4,c5,c6,c7,c8,c9]) (v0 v1 v2 v3 v4 v5 v6 v7 v8 v9:Value):Blk ((((((((((W.setCell ⟨g,0,none⟩ v0).setCell ⟨g,1,none⟩ v1).setCell ⟨g,2,none⟩ v2).setCell ⟨g,3,none⟩ v3).setCell ⟨g,4,none⟩ v4).setCell ⟨g,5,none⟩ v5).setCell ⟨g,6,none⟩ v6).setCell ⟨g,7,none⟩ v7).setCell ⟨g,8,none⟩ v8).setCell ⟨g,9,none⟩ v9) g t #[v0,v1,v2,v3,v4,v5,v6,v7,v8,v9]:=by
 have b0:Blk (W.setCell ⟨g,0,none⟩ v0) g t #[v0,c1,c2,c3,c4,c5,c6,c7,c8,c9]:=h.set_ 0 v0;have b1:Blk ((W.setCell ⟨g,0,none⟩ v0).setCell ⟨g,1,none⟩ v1) g t #[v0,v1,c2,c3,c4,c5,c6,c7,c8,c9]:=b0.set_ 1 v1;have b2:Blk (((W.setCell ⟨g,0,none⟩ v0).setCell ⟨g,1,none⟩ v1).setCell ⟨g,2,none⟩ v2) g t #[v0,v1,v2,c3,c4,c5,c6,c7,c8,c9]:=b1.set_ 2 v2;have b3:Blk ((((W.setCell ⟨g,0,none⟩ v0).setCell ⟨g,1,none⟩ v1).setCell ⟨g,2,none⟩ v2).setCell ⟨g,3,none⟩ v3) g t #[v0,v1,v2,v3,c4,c5,c6,c7,c8,c9]:=b2.set_ 3 v3;have b4:Blk (((((W.setCell ⟨g,0,none⟩ v0).setCell ⟨g,1,none⟩ v1).setCell ⟨g,2,none⟩ v2).setCell ⟨g,3,none⟩ v3).setCell ⟨g,4,none⟩ v4) g t #[v0,v1,v2,v3,v4,c5,c6,c7,c8,c9]:=b3.set_ 4 v4;have b5:Blk ((((((W.setCell ⟨g,0,none⟩ v0).setCell ⟨g,1,none⟩ v1).setCell ⟨g,2,none⟩ v2).setCell ⟨g,3,none⟩ v3).setCell ⟨g,4,none⟩ v4).setCell ⟨g,5,none⟩ v5) g t #[v0,v1,v2,v3,v4,v5,c6,c7,c8,c9]:=b4.set_ 5 v5;have b6:Blk (((((((W.setCell ⟨g,0,none⟩ v0).setCell ⟨g,1,none⟩ v1).setCell ⟨g,2,none⟩ v2).setCell ⟨g,3,none⟩ v3).setCell ⟨g,4,none⟩ v4).setCell ⟨g,5,none⟩ v5).setCell ⟨g,6,none⟩ v6) g t #[v0,v1,v2,v3,v4,v5,v6,c7,c8,c9]:=b5.set_ 6 v6
 have b7:Blk ((((((((W.setCell ⟨g,0,none⟩ v0).setCell ⟨g,1,none⟩ v1).setCell ⟨g,2,none⟩ v2).setCell ⟨g,3,none⟩ v3).setCell ⟨g,4,none⟩ v4).setCell ⟨g,5,none⟩ v5).setCell ⟨g,6,none⟩ v6).setCell ⟨g,7,none⟩ v7) g t #[v0,v1,v2,v3,v4,v5,v6,v7,c8,c9]:=b6.set_ 7 v7;have b8:Blk (((((((((W.setCell ⟨g,0,none⟩ v0).setCell ⟨g,1,none⟩ v1).setCell ⟨g,2,none⟩ v2).setCell ⟨g,3,none⟩ v3).setCell ⟨g,4,none⟩ v4).setCell ⟨g,5,none⟩ v5).setCell ⟨g,6,none⟩ v6).setCell ⟨g,7,none⟩ v7).setCell ⟨g,8,none⟩ v8) g t #[v0,v1,v2,v3,v4,v5,v6,v7,v8,c9]:=b7.set_ 8 v8;have b9:Blk ((((((((((W.setCell ⟨g,0,none⟩ v0).setCell ⟨g,1,none⟩ v1).setCell ⟨g,2,none⟩ v2).setCell ⟨g,3,none⟩ v3).setCell ⟨g,4,none⟩ v4).setCell ⟨g,5,none⟩ v5).setCell ⟨g,6,none⟩ v6).setCell ⟨g,7,none⟩ v7).setCell ⟨g,8,none⟩ v8).setCell ⟨g,9,none⟩ v9) g t #[v0,v1,v2,v3,v4,v5,v6,v7,v8,v9]:=b8.set_ 9 v9;exact b9
theorem zbn (W:World) (g:Nat) (v0 v1 v2 v3 v4 v5 v6 v7 v8 v9:Value):W.grownBy ((((((((((W.setCell ⟨g,0,none⟩ v0).setCell ⟨g,1,none⟩ v1).setCell ⟨g,2,none⟩ v2).setCell ⟨g,3,none⟩ v3).setCell ⟨g,4,none⟩ v4).setCell ⟨g,5,none⟩ v5).setCell ⟨g,6,none⟩ v6).setCell ⟨g,7,none⟩ v7).setCell ⟨g,8,none⟩ v8).setCell ⟨g,9,none⟩ v9) (some g):=by
 have b0:W.grownBy (W.setCell ⟨g,0,none⟩ v0) (some g):=zac (World.grownBy.refl W _) (.inl rfl) v0;have b1:W.grownBy ((W.setCell ⟨g,0,none⟩ v0).setCell ⟨g,1,none⟩ v1) (some g):=zac b0 (.inl rfl) v1;have b2:W.grownBy (((W.setCell ⟨g,0,none⟩ v0).setCell ⟨g,1,none⟩ v1).setCell ⟨g,2,none⟩ v2) (some g):=zac b1 (.inl rfl) v2;have b3:W.grownBy ((((W.setCell ⟨g,0,none⟩ v0).setCell ⟨g,1,none⟩ v1).setCell ⟨g,2,none⟩ v2).setCell ⟨g,3,none⟩ v3) (some g):=zac b2 (.inl rfl) v3;have b4:W.grownBy (((((W.setCell ⟨g,0,none⟩ v0).setCell ⟨g,1,none⟩ v1).setCell ⟨g,2,none⟩ v2).setCell ⟨g,3,none⟩ v3).setCell ⟨g,4,none⟩ v4) (some g):=zac b3 (.inl rfl) v4;have b5:W.grownBy ((((((W.setCell ⟨g,0,none⟩ v0).setCell ⟨g,1,none⟩ v1).setCell ⟨g,2,none⟩ v2).setCell ⟨g,3,none⟩ v3).setCell ⟨g,4,none⟩ v4).setCell ⟨g,5,none⟩ v5) (some g):=zac b4 (.inl rfl) v5;have b6:W.grownBy (((((((W.setCell ⟨g,0,none⟩ v0).setCell ⟨g,1,none⟩ v1).setCell ⟨g,2,none⟩ v2).setCell ⟨g,3,none⟩ v3).setCell ⟨g,4,none⟩ v4).setCell ⟨g,5,none⟩ v5).setCell ⟨g,6,none⟩ v6) (some g):=zac b5 (.inl rfl) v6
 have b7:W.grownBy ((((((((W.setCell ⟨g,0,none⟩ v0).setCell ⟨g,1,none⟩ v1).setCell ⟨g,2,none⟩ v2).setCell ⟨g,3,none⟩ v3).setCell ⟨g,4,none⟩ v4).setCell ⟨g,5,none⟩ v5).setCell ⟨g,6,none⟩ v6).setCell ⟨g,7,none⟩ v7) (some g):=zac b6 (.inl rfl) v7;have b8:W.grownBy (((((((((W.setCell ⟨g,0,none⟩ v0).setCell ⟨g,1,none⟩ v1).setCell ⟨g,2,none⟩ v2).setCell ⟨g,3,none⟩ v3).setCell ⟨g,4,none⟩ v4).setCell ⟨g,5,none⟩ v5).setCell ⟨g,6,none⟩ v6).setCell ⟨g,7,none⟩ v7).setCell ⟨g,8,none⟩ v8) (some g):=zac b7 (.inl rfl) v8;have b9:W.grownBy ((((((((((W.setCell ⟨g,0,none⟩ v0).setCell ⟨g,1,none⟩ v1).setCell ⟨g,2,none⟩ v2).setCell ⟨g,3,none⟩ v3).setCell ⟨g,4,none⟩ v4).setCell ⟨g,5,none⟩ v5).setCell ⟨g,6,none⟩ v6).setCell ⟨g,7,none⟩ v7).setCell ⟨g,8,none⟩ v8).setCell ⟨g,9,none⟩ v9) (some g):=zac b8 (.inl rfl) v9;exact b9
end Go.Proofs.YtplkbdncgkgppaaGreatDoor.Qry
end
section
namespace Go.Proofs.YtplkbdncgkgppaaGreatDoor.Qry
open QryP SchP
def zhi (d:Nat) (n:Int) (r1:R):E (QT × R):=match zaj 40 r1 with
 | .error e=>.error e
 | .ok r2=>ze6 zan zbm (zaz zan zbm d) n r2
theorem ydv (qs:R→E (QT × R)) (n:Int) (r:R) (h:3≤n∧n≤7):ze6 zan zbm qs n r=match zdo r with
 | .error e=>.error e
 | .ok (f,r1)=>match zaj 44 r1 with
   | .error e=>.error e
   | .ok r2=>match zgz n f r2 with
    | .error e=>.error e
    | .ok (q,r3)=>match zaj 41 r3 with
      | .error e=>.error e
      | .ok r4=>.ok (q,r4):=by
 unfold ze6;rw[if_neg (by omega),if_neg (by omega),if_neg (by omega)];by_cases h7:n=7
 ·subst h7;rw[if_pos rfl];unfold zgz
  cases zdo r with
  | error e=>rfl
  | ok p=>
   obtain ⟨f,r1⟩:=p;dsimp only[bind,Except.bind]
   cases zaj 44 r1 with
   | error e=>rfl
   | ok r2=>
    dsimp only;rw[if_pos rfl]
    cases zgw zan zbm (r2.length+1) r2 with
    | error e=>rfl
    | ok p=>
     obtain ⟨lo,r3⟩:=p;dsimp only
     cases zaj 44 r3 with
     | error e=>rfl
     | ok r4=>
      dsimp only
      cases zgw zan zbm (r4.length+1) r4 with
      | error e=>rfl
      | ok p=>
       obtain ⟨hi,r5⟩:=p;dsimp only;by_cases hb:lo.length≠hi.length∨4<lo.length
       ·rw[if_pos hb,if_pos hb]
       ·rw[if_neg hb,if_neg hb];dsimp only;rw[zn3]
        cases zaj 41 r5 with
        | error e=>rfl
        | ok r6=>rfl
 ·rw[if_neg h7];unfold zgz
  cases zdo r with
  | error e=>rfl
  | ok p=>
   obtain ⟨f,r1⟩:=p;dsimp only[bind,Except.bind]
   cases zaj 44 r1 with
   | error e=>rfl
   | ok r2=>
    dsimp only;rw[if_neg h7]
    cases zee r2 with
    | error e=>rfl
    | ok p=>
     obtain ⟨t,r3⟩:=p;dsimp only;by_cases h6:n=6
     ·subst h6;rw[if_pos rfl,if_pos rfl]
      cases zaj 44 r3 with
      | error e=>rfl
      | ok r4=>
       dsimp only
       cases zee r4 with
       | error e=>rfl
       | ok p=>
        obtain ⟨u,r5⟩:=p;dsimp only
        cases zaj 41 r5 with
        | error e=>rfl
        | ok r6=>rfl
     ·rw[if_neg h6,if_neg h6];dsimp only
      cases zaj 41 r3 with
      | error e=>rfl
      | ok r6=>rfl
theorem ydw (qs:R→E (QT × R)) (r:R):ze6 zan zbm qs 9 r=match zgp zan zbm r with
 | .error e=>.error e
 | .ok (b,r1)=>if b<0∨1048576<b then .error ((zaf r).length,180) else match zaj 44 r1 with
   | .error e=>.error e
   | .ok r2=>match qs r2 with
    | .error e=>.error e
    | .ok (q,r3)=>match zaj 41 r3 with
      | .error e=>.error e
      | .ok r4=>.ok (.mk 9 0 emp emp emp [] [] b 0 [q],r4):=by
 unfold ze6;rw[if_neg (by decide),if_pos rfl]
 cases zgp zan zbm r with
 | error e=>rfl
 | ok p=>
  obtain ⟨b,r1⟩:=p;dsimp only[bind,Except.bind];by_cases hb:b<0∨1048576<b
  ·rw[if_pos hb,if_pos hb]
  ·rw[if_neg hb,if_neg hb]
   cases zaj 44 r1 with
   | error e=>rfl
   | ok r2=>
    dsimp only
    cases qs r2 with
    | error e=>rfl
    | ok p=>
     obtain ⟨q,r3⟩:=p;dsimp only
     cases zaj 41 r3 with
     | error e=>rfl
     | ok r4=>rfl
end Go.Proofs.YtplkbdncgkgppaaGreatDoor.Qry
end
