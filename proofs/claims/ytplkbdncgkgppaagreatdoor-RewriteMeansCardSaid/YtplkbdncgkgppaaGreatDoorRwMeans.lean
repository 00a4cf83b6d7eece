/- Lemmas that the last text leans on. -/
import Derived.Test.YtplkbdncgkgppaaGreatDoorTake
import Derived.Test.YtplkbdncgkgppaaGreatDoorRwLeaf
set_option linter.all false
set_option maxRecDepth 100000
set_option maxHeartbeats 16000000
namespace Go.Proofs.YtplkbdncgkgppaaGreatDoor.Qry
open Go.RowKit Words Tree QryP Kit Owned Sch SchP RewP Ana AnaP Qck QckP FoldNext
def zlp (r:Bool × Int) (w:World) (e:Ending) (w':World):Prop:=∃n,e = .returned (.tuple #[.bool r.1,.int .i64 n])∧zes n∧(r.1=true→n=r.2)∧Below w.heap.size w w'
def MC (l:List FT) (u:Value) (n:Nat):Prop:=∀(q:QT) (vs:List Value) (seed:Int) (w:World),q.sz≤n→Lfs l q→Qry.Ok q→T.At bare w (fun g=>g<w.heap.size) (zbg l) u→T.AtL bare w (fun g=>g<w.heap.size) (cells q) vs→zc9 w→
 Calls Tryz.prog 10 #[.agg #[u],.agg vs.toArray,.int .u64 seed] w (zlp (zae (zbn l (zbx seed)) (wvM (zbx seed)) q) w)
theorem yhn {a b:Int} (ha:zes a) (hb:zes b):zes (max a b):=by unfold zes at *;omega
theorem ycg {p:QT→Bool} {ks:List QT} {i:Nat} (h:i<ks.length):(ks.take (i+1)).any p=((ks.take i).any p || p ks[i]):=by
 rw[List.take_succ_eq_append_getElem h,List.any_append];simp
section
variable {leaf:QT→Bool × Int} {wv:QT→Int→Int} {ks:List QT} {i:Nat}
theorem zzh (h:i<ks.length):ze3 leaf wv (ks.take (i+1))=(ze3 leaf wv (ks.take i) || (!zac ks[i] && decide (oc ks[i]≠3) && (zae leaf wv ks[i]).1)):=by
 rw[List.take_succ_eq_append_getElem h,zfl,ze3,ze3,Bool.or_false]
theorem ych (h:i<ks.length) (s:Int):scM leaf wv s (ks.take (i+1))=if (zae leaf wv ks[i]).1 && (decide (oc ks[i]=1) || decide (oc ks[i]=2)) then zd4 (scM leaf wv s (ks.take i)+(zae leaf wv ks[i]).2) else scM leaf wv s (ks.take i):=by
 rw[List.take_succ_eq_append_getElem h,zdf,scM,scM]
def good (leaf:QT→Bool × Int) (wv:QT→Int→Int) (l:List QT):Bool:=zds leaf wv l && zdt leaf wv l
def zzi (leaf:QT→Bool × Int) (wv:QT→Int→Int) (q:QT):Bool:=(!zac q || (zae leaf wv q).1) && (decide (oc q≠3) || !(zae leaf wv q).1)
theorem zog (a b:List QT):good leaf wv (a++b)=(good leaf wv a && good leaf wv b):=by
 unfold good;rw[zcm,zcn];cases zds leaf wv a <;> cases zdt leaf wv a <;> cases zds leaf wv b <;> cases zdt leaf wv b <;> rfl
theorem zt2 (q:QT):good leaf wv [q]=zzi leaf wv q:=by
 simp only[good,zzi,zds,RewP.zdt,Bool.and_true]
theorem zzj (h:i<ks.length):good leaf wv (ks.take (i+1))=(good leaf wv (ks.take i) && zzi leaf wv ks[i]):=by
 rw[List.take_succ_eq_append_getElem h,zog,zt2]
theorem yci (h:i<ks.length) (hk:zzi leaf wv ks[i]=false):okM leaf wv ks=false:=by
 have e:ks=ks.take i++([ks[i]]++ks.drop (i+1)):=(by rw[List.singleton_append,←List.drop_eq_getElem_cons h,List.take_append_drop])
 have hg:good leaf wv ks=false:=(by rw[e,zog,zog,zt2,hk];cases good leaf wv (ks.take i) <;> rfl)
 unfold good at hg;rw[okM,hg];rfl
end
section
variable {l:List FT} {u:Value}
theorem ye6 (o:Int) (f t p:ByteArray) (lo hi:List Int) (b op:Int) (ks:List QT) (vs:List Value) (seed:Int) (w:World) (hl:l.length*72≤140737488351232) (hlf:Lfs l (.mk 1 o f t p lo hi b op ks)) (hok:Qry.Ok (.mk 1 o f t p lo hi b op ks)) (hu:T.At bare w (fun g=>g<w.heap.size) (zbg l) u) (hv:T.AtL bare w (fun g=>g<w.heap.size) (cells (.mk 1 o f t p lo hi b op ks)) vs) (hT:zc9 w) :
 Calls Tryz.prog 10 #[.agg #[u],.agg vs.toArray,.int .u64 seed] w (zlp (zae (zbn l (zbx seed)) (wvM (zbx seed)) (.mk 1 o f t p lo hi b op ks)) w):=by
 obtain ⟨vl,vh,vk,rfl,hlo,hhi,hks⟩:=zao hv;obtain ⟨A1,c1,hvl,hlc,hlm,HLO⟩:=zc2 hlo;obtain rfl:vl = .slice A1 lo.length c1:=hvl;obtain ⟨A2,c2,rfl,_,_⟩:=zar hhi;obtain ⟨A3,c3,hvk,_,_,hel⟩:=zco hks;obtain rfl:vk = .slice A3 ks.length c3:=hvk;have HLO:=hX HLO;have EL:=hX hel;have HU:=hX hu;have HV:=hX hv;have HT0:=hX hT;have HLF:=hX hlf;have HOK:=hX hok;obtain ⟨hb0,hsz0,bs0,bq0⟩:=zgp w #[u] #[.int .i64 1,.int .i64 o,.string f,.string t,.string p,.slice A1 lo.length c1,.slice A2 hi.length c2,.int .i64 b,.int .i64 op,.slice A3 ks.length c3] 24 28;have HB0:=hX hb0;have HSZ:=hX hsz0;have HBS:=hX bs0;have HBQ:=hX bq0;clear hb0 hsz0 bs0 bq0 hlo hhi hks hel hu hv hT hlf hok;have HMM:Hid (zae (zbn l (zbx seed)) (wvM (zbx seed)) (.mk 1 o f t p lo hi b op ks)=(true,65536)):=hX (by rw[zae];rfl)
 obtain ⟨MM,hMM⟩:∃MM,zae (zbn l (zbx seed)) (wvM (zbx seed)) (.mk 1 o f t p lo hi b op ks)=MM:=⟨_,rfl⟩
 rw[hMM] at HMM ⊢;clear hMM;go_enter Tryz.func10,Tryz.ntmps10;go_upto_region 1 with fail;generalize ((w.alloc (.cells #[u] 24)).alloc (.cells #[.int .i64 1,.int .i64 o,.string f,.string t,.string p,.slice A1 lo.length c1,.slice A2 hi.length c2,.int .i64 b,.int .i64 op,.slice A3 ks.length c3] 28))=wb at *;have hgz:w.heap.size+1<wb.heap.size:=by have:=HSZ.out;omega
 have m0:=HBS.out.cell 0;have q0:=HBQ.out.cell 0;go_wp2_with fail;go_ret2;rw[HMM.out];exact ⟨_,rfl,⟨by decide,by decide⟩,fun h=>(by first | rfl | cases h),HB0.out⟩
theorem ye7 (o:Int) (f t p:ByteArray) (lo hi:List Int) (b op:Int) (ks:List QT) (vs:List Value) (seed:Int) (w:World) (hl:l.length*72≤140737488351232) (hlf:Lfs l (.mk 2 o f t p lo hi b op ks)) (hok:Qry.Ok (.mk 2 o f t p lo hi b op ks)) (hu:T.At bare w (fun g=>g<w.heap.size) (zbg l) u) (hv:T.AtL bare w (fun g=>g<w.heap.size) (cells (.mk 2 o f t p lo hi b op ks)) vs) (hT:zc9 w) :
 Calls Tryz.prog 10 #[.agg #[u],.agg vs.toArray,.int .u64 seed] w (zlp (zae (zbn l (zbx seed)) (wvM (zbx seed)) (.mk 2 o f t p lo hi b op ks)) w):=by
 obtain ⟨vl,vh,vk,rfl,hlo,hhi,hks⟩:=zao hv;obtain ⟨A1,c1,hvl,hlc,hlm,HLO⟩:=zc2 hlo;obtain rfl:vl = .slice A1 lo.length c1:=hvl;obtain ⟨A2,c2,rfl,_,_⟩:=zar hhi;obtain ⟨A3,c3,hvk,_,_,hel⟩:=zco hks;obtain rfl:vk = .slice A3 ks.length c3:=hvk;have HLO:=hX HLO;have EL:=hX hel;have HU:=hX hu;have HV:=hX hv;have HT0:=hX hT;have HLF:=hX hlf;have HOK:=hX hok;obtain ⟨hb0,hsz0,bs0,bq0⟩:=zgp w #[u] #[.int .i64 2,.int .i64 o,.string f,.string t,.string p,.slice A1 lo.length c1,.slice A2 hi.length c2,.int .i64 b,.int .i64 op,.slice A3 ks.length c3] 24 28;have HB0:=hX hb0;have HSZ:=hX hsz0;have HBS:=hX bs0;have HBQ:=hX bq0;clear hb0 hsz0 bs0 bq0 hlo hhi hks hel hu hv hT hlf hok;have HMM:Hid (zae (zbn l (zbx seed)) (wvM (zbx seed)) (.mk 2 o f t p lo hi b op ks)=(false,0)):=hX (by rw[zae];rfl)
 obtain ⟨MM,hMM⟩:∃MM,zae (zbn l (zbx seed)) (wvM (zbx seed)) (.mk 2 o f t p lo hi b op ks)=MM:=⟨_,rfl⟩
 rw[hMM] at HMM ⊢;clear hMM;go_enter Tryz.func10,Tryz.ntmps10;go_upto_region 1 with fail;generalize ((w.alloc (.cells #[u] 24)).alloc (.cells #[.int .i64 2,.int .i64 o,.string f,.string t,.string p,.slice A1 lo.length c1,.slice A2 hi.length c2,.int .i64 b,.int .i64 op,.slice A3 ks.length c3] 28))=wb at *;have hgz:w.heap.size+1<wb.heap.size:=by have:=HSZ.out;omega
 have m0:=HBS.out.cell 0;have q0:=HBQ.out.cell 0;go_wp2_with fail;go_ret2;rw[HMM.out];exact ⟨_,rfl,⟨by decide,by decide⟩,fun h=>(by first | rfl | cases h),HB0.out⟩
theorem ye8 (n:Nat) (IH:MC l u n) (o:Int) (f t p:ByteArray) (lo hi:List Int) (b op:Int) (x:QT) (hsz:x.sz≤n) (vs:List Value) (seed:Int) (w:World) (hl:l.length*72≤140737488351232) (hlf:Lfs l (.mk 9 o f t p lo hi b op [x])) (hok:Qry.Ok (.mk 9 o f t p lo hi b op [x])) (hu:T.At bare w (fun g=>g<w.heap.size) (zbg l) u) (hv:T.AtL bare w (fun g=>g<w.heap.size) (cells (.mk 9 o f t p lo hi b op [x])) vs) (hT:zc9 w) :
 Calls Tryz.prog 10 #[.agg #[u],.agg vs.toArray,.int .u64 seed] w (zlp (zae (zbn l (zbx seed)) (wvM (zbx seed)) (.mk 9 o f t p lo hi b op [x])) w):=by
 obtain ⟨vl,vh,vk,rfl,hlo,hhi,hks⟩:=zao hv;obtain ⟨A1,c1,hvl,hlc,hlm,HLO⟩:=zc2 hlo;obtain rfl:vl = .slice A1 lo.length c1:=hvl;obtain ⟨A2,c2,rfl,_,_⟩:=zar hhi;obtain ⟨A3,c3,hvk,_,_,hel⟩:=zco hks;obtain rfl:vk = .slice A3 1 c3:=hvk;have HLO:=hX HLO;have EL:=hX hel;have HU:=hX hu;have HV:=hX hv;have HT0:=hX hT;have HLF:=hX hlf;have HOK:=hX hok;obtain ⟨hb0,hsz0,bs0,bq0⟩:=zgp w #[u] #[.int .i64 9,.int .i64 o,.string f,.string t,.string p,.slice A1 lo.length c1,.slice A2 hi.length c2,.int .i64 b,.int .i64 op,.slice A3 1 c3] 24 28;have HB0:=hX hb0;have HSZ:=hX hsz0;have HBS:=hX bs0;have HBQ:=hX bq0;clear hb0 hsz0 bs0 bq0 hlo hhi hks hel hu hv hT hlf hok;obtain ⟨ad,us,rfl,hba,hkx,hlen,hkc⟩:=EL.out 0 (by simp);rw[show ad.add (0*10)=ad from rfl] at hkc;obtain ⟨k0,k1,k2,k3,k4,k5,k6,k7,k8,k9⟩:=x;have hkx':T.AtL bare w (fun g=>g<w.heap.size) (cells (.mk k0 k1 k2 k3 k4 k5 k6 k7 k8 k9)) us:=hkx;obtain ⟨vl2,vh2,vk2,rfl,e5,e6,e9⟩:=zao hkx';obtain ⟨Y5,y5,rfl,_,_⟩:=zar e5;obtain ⟨Y6,y6,rfl,_,_⟩:=zar e6;obtain ⟨Y9,y9,rfl,_,_⟩:=zar e9;have HKC:Hid (∀V,Below w.heap.size w V→zb6 V ad [.int .i64 k0,.int .i64 k1,.string k2,.string k3,.string k4,.slice Y5 k5.length y5,.slice Y6 k6.length y6,.int .i64 k7,.int .i64 k8,.slice Y9 k9.length y9]):=hX (fun V hV=>hkc.keep (fun p hp=>hV.cell (by rw[hp];exact hba)))
 have HIK:=hX (fun (V:World) (hV:Below w.heap.size w V)=>IH (.mk k0 k1 k2 k3 k4 k5 k6 k7 k8 k9) [.int .i64 k0,.int .i64 k1,.string k2,.string k3,.string k4,.slice Y5 k5.length y5,.slice Y6 k6.length y6,.int .i64 k7,.int .i64 k8,.slice Y9 k9.length y9] seed V hsz (HLF.out.kids_ _ (by simp[kids])) (zlc _ HOK.out _ (by simp[kids])) (At.below HU.out hV (fun g hg=>Nat.lt_of_lt_of_le hg hV.size)) (zbd hkx' hV) (HT0.out.next hV));clear hkx hkx' hkc hlen EL e5 e6 e9;have HMM:Hid (zae (zbn l (zbx seed)) (wvM (zbx seed)) (.mk 9 o f t p lo hi b op [(.mk k0 k1 k2 k3 k4 k5 k6 k7 k8 k9)])=((zae (zbn l (zbx seed)) (wvM (zbx seed)) (.mk k0 k1 k2 k3 k4 k5 k6 k7 k8 k9)).1,zd4 ((zae (zbn l (zbx seed)) (wvM (zbx seed)) (.mk k0 k1 k2 k3 k4 k5 k6 k7 k8 k9)).2*b))):=hX (by rw[zae,zg9];rfl);have hb64:zes b:=by cases HOK.out with | mk _ _ _ _ _ _ _ hb=>exact hb
 obtain ⟨MM,hMM⟩:∃MM,zae (zbn l (zbx seed)) (wvM (zbx seed)) (.mk 9 o f t p lo hi b op [(.mk k0 k1 k2 k3 k4 k5 k6 k7 k8 k9)])=MM:=⟨_,rfl⟩
 rw[hMM] at HMM ⊢;clear hMM;generalize zae (zbn l (zbx seed)) (wvM (zbx seed)) (.mk k0 k1 k2 k3 k4 k5 k6 k7 k8 k9)=r at *;obtain ⟨r1,r2⟩:=r;dsimp only at HMM HIK;go_enter Tryz.func10,Tryz.ntmps10;go_upto_region 1 with fail;generalize ((w.alloc (.cells #[u] 24)).alloc (.cells #[.int .i64 9,.int .i64 o,.string f,.string t,.string p,.slice A1 lo.length c1,.slice A2 hi.length c2,.int .i64 b,.int .i64 op,.slice (some ad) 1 c3] 28))=wb at *;have hgz:w.heap.size+1<wb.heap.size:=by have:=HSZ.out;omega
 have m0:=HBS.out.cell 0;have q0:=HBQ.out.cell 0;have h01:(0:Int)<1:=by omega
 go_upto_region 7 with fail;clear m0 q0;refine wp_region_held_drew (S:=fun V=>Below wb.heap.size wb V) (by kernel_rfl) (Below.refl _ _).drew (fun hSa0=>?_);refine' tk 0 (by simp only[tkD,tkE,tkG];rfl) (by kernel_rfl) (by exact fun _ _ _ h=>h) (by rfl) hSa0 (by intro V hSw;have c0:V.cell? ⟨w.heap.size,0,none⟩=some u:=(HBS.out.below hSw HBS.out.lt).cell 0;clear hSw;go_simp;try with_reducible rfl) ?_;try simp only[Act.put,tkA,tkB,tkC]
 refine' tk 1 (by simp only[tkD,tkE,tkG];rfl) (by kernel_rfl) (by exact fun _ _ _ h=>h) (by rfl) hSa0 (by intro V hSw;clear hSw;go_simp;try with_reducible rfl) ?_;try simp only[Act.put,tkA,tkB,tkC]
 refine' tk 2 (by simp only[tkD,tkE,tkG];rfl) (by kernel_rfl) (by exact fun _ _ _ h=>h) (by rfl) hSa0 (by intro V hSw;have c0:V.cell? ⟨w.heap.size+1,9,none⟩=some (.slice (some ad) 1 c3):=(HBQ.out.below hSw HBQ.out.lt).cell 9;clear hSw;go_simp;try with_reducible rfl) ?_;try simp only[Act.put,tkA,tkB,tkC]
 refine' tk 3 (by simp only[tkD,tkE,tkG];rfl) (by kernel_rfl) (by exact fun _ _ _ h=>h) (by rfl) hSa0 (by intro V hSw;clear hSw;go_simp;try with_reducible rfl) ?_;try simp only[Act.put,tkA,tkB,tkC]
 refine' tk 4 (by simp only[tkD,tkE,tkG];rfl) (by kernel_rfl) (by exact fun _ _ _ h=>h) (by rfl) hSa0 (by intro V hSw;have hC:=HKC.out V (HB0.out.trans (hSw.mono HB0.out.size));have c0:=hC.zero;have c1:=hC.at_ 1 _ rfl (by omega);have c2:=hC.at_ 2 _ rfl (by omega);have c3:=hC.at_ 3 _ rfl (by omega);have c4:=hC.at_ 4 _ rfl (by omega);have c5:=hC.at_ 5 _ rfl (by omega);have c6:=hC.at_ 6 _ rfl (by omega);have c7:=hC.at_ 7 _ rfl (by omega);have c8:=hC.at_ 8 _ rfl (by omega);have c9:=hC.at_ 9 _ rfl (by omega);clear hC;clear hSw;go_simp;try with_reducible rfl) ?_;try simp only[Act.put,tkA,tkB,tkC]
 refine' tk 5 (by simp only[tkD,tkE,tkG];rfl) (by kernel_rfl) (by exact fun _ _ _ h=>h) (by rfl) hSa0 (by intro V hSw;clear hSw;go_simp;try with_reducible rfl) ?_;try simp only[Act.put,tkA,tkB,tkC]
 refine wpAnyH_ready (rs:=[6]) (by kernel_rfl) (by simp) ?_;refine' AllReadyH.cons (by simp only[tkD,tkE,tkG];rfl) (fun K hK=>?_) AllReadyH.nil;go_simp;refine (HIK.out _ (HB0.out.trans (hSa0.mono HB0.out.size))).mono ?_;rintro e Va1 ⟨n1,rfl,hn1,hn2,hb⟩;have Ba1:=hX (Below.trans hSa0 (hb.mono (hSa0).size));have HN1:=hX hn1;have HN2:=hX hn2;clear hn1 hn2;clear hb;go_simp;refine hK.out _ _ Ba1.out (fun hSa1=>?_);try simp only[Act.put,tkA,tkB,tkC]
 refine' tk 7 (by simp only[tkD,tkE,tkG];rfl) (by kernel_rfl) (by exact fun _ _ _ h=>h) (by rfl) hSa1 (by intro V hSw;clear hSw;go_simp;try with_reducible rfl) ?_;try simp only[Act.put,tkA,tkB,tkC]
 refine' tk 8 (by simp only[tkD,tkE,tkG];rfl) (by kernel_rfl) (by exact fun _ _ _ h=>h) (by rfl) hSa1 (by intro V hSw;clear hSw;go_simp;try with_reducible rfl) ?_;try simp only[Act.put,tkA,tkB,tkC]
 refine' tk 9 (by simp only[tkD,tkE,tkG];rfl) (by kernel_rfl) (by exact fun _ _ _ h=>h) (by rfl) hSa1 (by intro V hSw;clear hSw;go_simp;try with_reducible rfl) ?_;try simp only[Act.put,tkA,tkB,tkC]
 refine' tk 10 (by simp only[tkD,tkE,tkG];rfl) (by kernel_rfl) (by exact fun _ _ _ h=>h) (by rfl) hSa1 (by intro V hSw;clear hSw;go_simp;try with_reducible rfl) ?_;try simp only[Act.put,tkA,tkB,tkC]
 refine' tk 11 (by simp only[tkD,tkE,tkG];rfl) (by kernel_rfl) (by exact fun _ _ _ h=>h) (by rfl) hSa1 (by intro V hSw;clear hSw;go_simp;try with_reducible rfl) ?_;try simp only[Act.put,tkA,tkB,tkC]
 refine wpAnyH_done (by kernel_rfl) ?_ _;have HB1:=hX (HB0.out.trans (hSa1.mono HB0.out.size));have HQ1:=hX (HBQ.out.below hSa1 HBQ.out.lt);have q7:Va1.cell? ⟨w.heap.size+1,7,none⟩=some (.int .i64 b):=HQ1.out.cell 7;go_wp2_with fail;refine (zo8 n1 b _ HN1.out hb64).mono ?_;rintro e w3 ⟨rfl,hb3⟩;go_wp2_with fail;go_ret2;rw[HMM.out];exact ⟨_,rfl,zef _,fun h=>by rw[HN2.out h],HB1.out.trans (hb3.mono HB1.out.size)⟩
theorem ycj (n:Nat) (IH:MC l u n) (o:Int) (f t p:ByteArray) (z0:Int) (hi:List Int) (b op:Int) (x:QT) (hsz:x.sz≤n) (vs:List Value) (seed:Int) (w:World) (hl:l.length*72≤140737488351232) (hlf:Lfs l (.mk 10 o f t p [z0] hi b op [x])) (hok:Qry.Ok (.mk 10 o f t p [z0] hi b op [x])) (hu:T.At bare w (fun g=>g<w.heap.size) (zbg l) u) (hv:T.AtL bare w (fun g=>g<w.heap.size) (cells (.mk 10 o f t p [z0] hi b op [x])) vs) (hT:zc9 w) :
 Calls Tryz.prog 10 #[.agg #[u],.agg vs.toArray,.int .u64 seed] w (zlp (zae (zbn l (zbx seed)) (wvM (zbx seed)) (.mk 10 o f t p [z0] hi b op [x])) w):=by
 obtain ⟨vl,vh,vk,rfl,hlo,hhi,hks⟩:=zao hv;obtain ⟨A1,c1,hvl,hlc,hlm,HLO⟩:=zc2 hlo;obtain rfl:vl = .slice A1 1 c1:=hvl;obtain ⟨A2,c2,rfl,_,_⟩:=zar hhi;obtain ⟨A3,c3,hvk,_,_,hel⟩:=zco hks;obtain rfl:vk = .slice A3 1 c3:=hvk;have HLO:=hX HLO;have EL:=hX hel;have HU:=hX hu;have HV:=hX hv;have HT0:=hX hT;have HLF:=hX hlf;have HOK:=hX hok;obtain ⟨hb0,hsz0,bs0,bq0⟩:=zgp w #[u] #[.int .i64 10,.int .i64 o,.string f,.string t,.string p,.slice A1 1 c1,.slice A2 hi.length c2,.int .i64 b,.int .i64 op,.slice A3 1 c3] 24 28;have HB0:=hX hb0;have HSZ:=hX hsz0;have HBS:=hX bs0;have HBQ:=hX bq0;clear hb0 hsz0 bs0 bq0 hlo hhi hks hel hu hv hT hlf hok;obtain ⟨ad,us,rfl,hba,hkx,hlen,hkc⟩:=EL.out 0 (by simp);rw[show ad.add (0*10)=ad from rfl] at hkc;obtain ⟨k0,k1,k2,k3,k4,k5,k6,k7,k8,k9⟩:=x;have hkx':T.AtL bare w (fun g=>g<w.heap.size) (cells (.mk k0 k1 k2 k3 k4 k5 k6 k7 k8 k9)) us:=hkx;obtain ⟨vl2,vh2,vk2,rfl,e5,e6,e9⟩:=zao hkx';obtain ⟨Y5,y5,rfl,_,_⟩:=zar e5;obtain ⟨Y6,y6,rfl,_,_⟩:=zar e6;obtain ⟨Y9,y9,rfl,_,_⟩:=zar e9;have HKC:Hid (∀V,Below w.heap.size w V→zb6 V ad [.int .i64 k0,.int .i64 k1,.string k2,.string k3,.string k4,.slice Y5 k5.length y5,.slice Y6 k6.length y6,.int .i64 k7,.int .i64 k8,.slice Y9 k9.length y9]):=hX (fun V hV=>hkc.keep (fun p hp=>hV.cell (by rw[hp];exact hba)))
 have HIK:=hX (fun (V:World) (hV:Below w.heap.size w V)=>IH (.mk k0 k1 k2 k3 k4 k5 k6 k7 k8 k9) [.int .i64 k0,.int .i64 k1,.string k2,.string k3,.string k4,.slice Y5 k5.length y5,.slice Y6 k6.length y6,.int .i64 k7,.int .i64 k8,.slice Y9 k9.length y9] seed V hsz (HLF.out.kids_ _ (by simp[kids])) (zlc _ HOK.out _ (by simp[kids])) (At.below HU.out hV (fun g hg=>Nat.lt_of_lt_of_le hg hV.size)) (zbd hkx' hV) (HT0.out.next hV));clear hkx hkx' hkc hlen EL e5 e6 e9;have HMM:Hid (zae (zbn l (zbx seed)) (wvM (zbx seed)) (.mk 10 o f t p [z0] hi b op [(.mk k0 k1 k2 k3 k4 k5 k6 k7 k8 k9)])=((zae (zbn l (zbx seed)) (wvM (zbx seed)) (.mk k0 k1 k2 k3 k4 k5 k6 k7 k8 k9)).1,wvM (zbx seed) (.mk 10 0 f t p [z0] hi b op []) (zae (zbn l (zbx seed)) (wvM (zbx seed)) (.mk k0 k1 k2 k3 k4 k5 k6 k7 k8 k9)).2)):=hX (by rw[zae,zg9];rfl);obtain ⟨ax,rfl,hbx,hcx⟩:=Qry.reads_int HLO.out (k:=0) (by simp);have HZX:Hid (∀V,Below w.heap.size w V→V.cell? ax=some (.int .i64 z0)):=hX (fun V hV=>(hV.cell hbx).trans hcx);have hfs:f.size≤140737488351232:=by cases HOK.out with | mk _ _ hf=>exact hf
 clear hcx HLO
 obtain ⟨MM,hMM⟩:∃MM,zae (zbn l (zbx seed)) (wvM (zbx seed)) (.mk 10 o f t p [z0] hi b op [(.mk k0 k1 k2 k3 k4 k5 k6 k7 k8 k9)])=MM:=⟨_,rfl⟩
 rw[hMM] at HMM ⊢;clear hMM;generalize zae (zbn l (zbx seed)) (wvM (zbx seed)) (.mk k0 k1 k2 k3 k4 k5 k6 k7 k8 k9)=r at *;obtain ⟨r1,r2⟩:=r;dsimp only at HMM HIK;go_enter Tryz.func10,Tryz.ntmps10;go_upto_region 1 with fail;generalize ((w.alloc (.cells #[u] 24)).alloc (.cells #[.int .i64 10,.int .i64 o,.string f,.string t,.string p,.slice (some ax) 1 c1,.slice A2 hi.length c2,.int .i64 b,.int .i64 op,.slice (some ad) 1 c3] 28))=wb at *;have hgz:w.heap.size+1<wb.heap.size:=by have:=HSZ.out;omega
 have m0:=HBS.out.cell 0;have q0:=HBQ.out.cell 0;have h01:(0:Int)<1:=by omega
 go_upto_region 10 with fail;clear m0 q0;refine wp_region_held_drew (S:=fun V=>Below wb.heap.size wb V) (by kernel_rfl) (Below.refl _ _).drew (fun hSb0=>?_);refine' tk 0 (by simp only[tkD,tkE,tkG];rfl) (by kernel_rfl) (by exact fun _ _ _ h=>h) (by rfl) hSb0 (by intro V hSw;have c0:V.cell? ⟨w.heap.size,0,none⟩=some u:=(HBS.out.below hSw HBS.out.lt).cell 0;clear hSw;go_simp;try with_reducible rfl) ?_;try simp only[Act.put,tkA,tkB,tkC]
 refine' tk 1 (by simp only[tkD,tkE,tkG];rfl) (by kernel_rfl) (by exact fun _ _ _ h=>h) (by rfl) hSb0 (by intro V hSw;clear hSw;go_simp;try with_reducible rfl) ?_;try simp only[Act.put,tkA,tkB,tkC]
 refine' tk 2 (by simp only[tkD,tkE,tkG];rfl) (by kernel_rfl) (by exact fun _ _ _ h=>h) (by rfl) hSb0 (by intro V hSw;have c0:V.cell? ⟨w.heap.size+1,9,none⟩=some (.slice (some ad) 1 c3):=(HBQ.out.below hSw HBQ.out.lt).cell 9;clear hSw;go_simp;try with_reducible rfl) ?_;try simp only[Act.put,tkA,tkB,tkC]
 refine' tk 3 (by simp only[tkD,tkE,tkG];rfl) (by kernel_rfl) (by exact fun _ _ _ h=>h) (by rfl) hSb0 (by intro V hSw;clear hSw;go_simp;try with_reducible rfl) ?_;try simp only[Act.put,tkA,tkB,tkC]
 refine' tk 4 (by simp only[tkD,tkE,tkG];rfl) (by kernel_rfl) (by exact fun _ _ _ h=>h) (by rfl) hSb0 (by intro V hSw;have hC:=HKC.out V (HB0.out.trans (hSw.mono HB0.out.size));have c0:=hC.zero;have c1:=hC.at_ 1 _ rfl (by omega);have c2:=hC.at_ 2 _ rfl (by omega);have c3:=hC.at_ 3 _ rfl (by omega);have c4:=hC.at_ 4 _ rfl (by omega);have c5:=hC.at_ 5 _ rfl (by omega);have c6:=hC.at_ 6 _ rfl (by omega);have c7:=hC.at_ 7 _ rfl (by omega);have c8:=hC.at_ 8 _ rfl (by omega);have c9:=hC.at_ 9 _ rfl (by omega);clear hC;clear hSw;go_simp;try with_reducible rfl) ?_;try simp only[Act.put,tkA,tkB,tkC]
 refine' tk 5 (by simp only[tkD,tkE,tkG];rfl) (by kernel_rfl) (by exact fun _ _ _ h=>h) (by rfl) hSb0 (by intro V hSw;clear hSw;go_simp;try with_reducible rfl) ?_;try simp only[Act.put,tkA,tkB,tkC]
 refine wpAnyH_ready (rs:=[6]) (by kernel_rfl) (by simp) ?_;refine' AllReadyH.cons (by simp only[tkD,tkE,tkG];rfl) (fun K hK=>?_) AllReadyH.nil;go_simp;refine (HIK.out _ (HB0.out.trans (hSb0.mono HB0.out.size))).mono ?_;rintro e Vb1 ⟨n1,rfl,hn1,hn2,hb⟩;have Bb1:=hX (Below.trans hSb0 (hb.mono (hSb0).size));have HN1:=hX hn1;have HN2:=hX hn2;clear hn1 hn2;clear hb;go_simp;refine hK.out _ _ Bb1.out (fun hSb1=>?_);try simp only[Act.put,tkA,tkB,tkC]
 refine' tk 7 (by simp only[tkD,tkE,tkG];rfl) (by kernel_rfl) (by exact fun _ _ _ h=>h) (by rfl) hSb1 (by intro V hSw;clear hSw;go_simp;try with_reducible rfl) ?_;try simp only[Act.put,tkA,tkB,tkC]
 refine' tk 8 (by simp only[tkD,tkE,tkG];rfl) (by kernel_rfl) (by exact fun _ _ _ h=>h) (by rfl) hSb1 (by intro V hSw;clear hSw;go_simp;try with_reducible rfl) ?_;try simp only[Act.put,tkA,tkB,tkC]
 refine' tk 9 (by simp only[tkD,tkE,tkG];rfl) (by kernel_rfl) (by exact fun _ _ _ h=>h) (by rfl) hSb1 (by intro V hSw;clear hSw;go_simp;try with_reducible rfl) ?_;try simp only[Act.put,tkA,tkB,tkC]
 refine' tk 10 (by simp only[tkD,tkE,tkG];rfl) (by kernel_rfl) (by exact fun _ _ _ h=>h) (by rfl) hSb1 (by intro V hSw;clear hSw;go_simp;try with_reducible rfl) ?_;try simp only[Act.put,tkA,tkB,tkC]
 refine' tk 11 (by simp only[tkD,tkE,tkG];rfl) (by kernel_rfl) (by exact fun _ _ _ h=>h) (by rfl) hSb1 (by intro V hSw;clear hSw;go_simp;try with_reducible rfl) ?_;try simp only[Act.put,tkA,tkB,tkC]
 refine wpAnyH_done (by kernel_rfl) ?_ _;have HB1:=hX (HB0.out.trans (hSb1.mono HB0.out.size));have HQ1:=hX (HBQ.out.below hSb1 HBQ.out.lt);go_upto_region 11 with fail;refine wp_region_held_drew (S:=fun V=>Below Vb1.heap.size Vb1 V) (by kernel_rfl) (Below.refl _ _).drew (fun hSc0=>?_);refine' tk 0 (by simp only[tkD,tkE,tkG];rfl) (by kernel_rfl) (by exact fun _ _ _ h=>h) (by rfl) hSc0 (by intro V hSw;clear hSw;go_simp;try with_reducible rfl) ?_;try simp only[Act.put,tkA,tkB,tkC]
 refine' tk 1 (by simp only[tkD,tkE,tkG];rfl) (by kernel_rfl) (by exact fun _ _ _ h=>h) (by rfl) hSc0 (by intro V hSw;clear hSw;go_simp;try with_reducible rfl) ?_;try simp only[Act.put,tkA,tkB,tkC]
 refine' tk 2 (by simp only[tkD,tkE,tkG];rfl) (by kernel_rfl) (by exact fun _ _ _ h=>h) (by rfl) hSc0 (by intro V hSw;have c0:V.cell? ⟨w.heap.size+1,2,none⟩=some (.string f):=(HQ1.out.below hSw HQ1.out.lt).cell 2;clear hSw;go_simp;try with_reducible rfl) ?_;try simp only[Act.put,tkA,tkB,tkC]
 refine' wpAnyH_take (i:=3) (v:=_) (by simp only[tkD,tkE,tkG];rfl) (by kernel_rfl) (by kernel_rfl) (by kernel_rfl) (by exact fun _ _ _ h=>h) (Or.inl ⟨by rfl,?hyc3⟩) hSc0 ?restc3;case hyc3=>intro V hSw;clear hSw;go_simp;try rw[if_neg (by omega)];try with_reducible rfl
 try simp only[Act.put,tkA,tkB,tkC]
 refine' tk 4 (by simp only[tkD,tkE,tkG];rfl) (by kernel_rfl) (by exact fun _ _ _ h=>h) (by rfl) hSc0 (by intro V hSw;clear hSw;go_simp;try with_reducible rfl) ?_;try simp only[Act.put,tkA,tkB,tkC]
 refine' tk 5 (by simp only[tkD,tkE,tkG];rfl) (by kernel_rfl) (by exact fun _ _ _ h=>h) (by rfl) hSc0 (by intro V hSw;have c0:V.cell? ⟨w.heap.size+1,5,none⟩=some (.slice (some ax) 1 c1):=(HQ1.out.below hSw HQ1.out.lt).cell 5;clear hSw;go_simp;try with_reducible rfl) ?_;try simp only[Act.put,tkA,tkB,tkC]
 refine' tk 6 (by simp only[tkD,tkE,tkG];rfl) (by kernel_rfl) (by exact fun _ _ _ h=>h) (by rfl) hSc0 (by intro V hSw;clear hSw;go_simp;try with_reducible rfl) ?_;try simp only[Act.put,tkA,tkB,tkC]
 refine' tk 7 (by simp only[tkD,tkE,tkG];rfl) (by kernel_rfl) (by exact fun _ _ _ h=>h) (by rfl) hSc0 (by intro V hSw;have c0:V.cell? ax=some (.int .i64 z0):=HZX.out V (HB1.out.trans (hSw.mono HB1.out.size));clear hSw;go_simp;try with_reducible rfl) ?_;try simp only[Act.put,tkA,tkB,tkC]
 refine wpAnyH_ready (rs:=[8]) (by kernel_rfl) (by simp) ?_;refine' AllReadyH.cons (by simp only[tkD,tkE,tkG];rfl) (fun K hK=>?_) AllReadyH.nil;go_simp;refine (zia z0 _).mono ?_;rintro e Vc1 ⟨rfl,hb⟩;have Bc1:=hX (Below.trans hSc0 (hb.mono (hSc0).size));clear hb;go_simp;refine hK.out _ _ Bc1.out (fun hSc1=>?_);try simp only[Act.put,tkA,tkB,tkC]
 refine' wpAnyH_take (i:=9) (v:=_) (by simp only[tkD,tkE,tkG];rfl) (by kernel_rfl) (by kernel_rfl) (by kernel_rfl) (by exact fun _ _ _ h=>h) (Or.inl ⟨by rfl,?hyc9⟩) hSc1 ?restc9;case hyc9=>intro V hSw;clear hSw;go_simp;try rw[if_neg (by rw[show (str (zdx z0)).size=8 from (zfu _).trans (zc1 _)];omega)];try with_reducible rfl
 try simp only[Act.put,tkA,tkB,tkC]
 rw[yi6];refine wpAnyH_ready (rs:=[10]) (by kernel_rfl) (by simp) ?_;refine' AllReadyH.cons (by simp only[tkD,tkE,tkG];rfl) (fun K hK=>?_) AllReadyH.nil;go_simp;refine (zo9 seed (str (118::(f.data.toList++zdx z0))) _ (by have e:f.data.toList.length=f.size:=(by simp);rw[zfu,List.length_cons,List.length_append,zc1];omega)).mono ?_;rintro e Vc2 ⟨rfl,hb⟩;have Bc2:=hX (Below.trans hSc1 (hb.mono (hSc1).size));clear hb;go_simp;refine hK.out _ _ Bc2.out (fun hSc2=>?_);try simp only[Act.put,tkA,tkB,tkC]
 refine' tk 11 (by simp only[tkD,tkE,tkG];rfl) (by kernel_rfl) (by exact fun _ _ _ h=>h) (by rfl) hSc2 (by intro V hSw;clear hSw;go_simp;try with_reducible rfl) ?_;try simp only[Act.put,tkA,tkB,tkC]
 refine wpAnyH_done (by kernel_rfl) ?_ _;have HB2:=hX (HB1.out.trans (hSc2.mono HB1.out.size));have HQ2:=hX (HQ1.out.below hSc2 HQ1.out.lt);have HWV:Hid (wvM (zbx seed) (.mk 10 0 f t p [z0] hi b op []) r2=wvH op (zbx seed (118::(f.data.toList++zdx z0))) r2):=hX rfl;have HWI:=hX (fun n=>ydh (zbx seed) (.mk 10 0 f t p [z0] hi b op []) n);rw[zce,←zw7];have hN:=zw8 seed (118::(f.data.toList++zdx z0));generalize zbx seed (118::(f.data.toList++zdx z0))=N at *;have q8:Vc2.cell? ⟨w.heap.size+1,8,none⟩=some (.int .i64 op):=HQ2.out.cell 8;by_cases h1:op=1
 ·subst h1;have HW1:=hX (HWV.out.trans (if_pos rfl));go_wp2_with fail;refine (znp n1 (wrap64 N) _ HN1.out (zkv _)).mono ?_;rintro e w3 ⟨rfl,hb3⟩;go_wp2_with fail;go_ret2;rw[HMM.out];refine ⟨_,rfl,zef _,?_,HB2.out.trans (hb3.mono HB2.out.size)⟩;intro h;have h':n1=r2:=HN2.out h;rw[h'];exact HW1.out.symm
 have d1:(op == 1)=false:=zdz h1;by_cases h2:op=2
 ·subst h2;have HW1:=hX (HWV.out.trans ((if_neg (show ¬(2:Int)=1 by decide)).trans (if_pos rfl)));have htm:(N:Int).tmod 1000=(N:Int) % 1000:=Int.tmod_eq_emod_of_nonneg (by omega);go_wp2_with fail;refine (zo8 n1 ((N:Int) % 1000) _ HN1.out ⟨by omega,by omega⟩).mono ?_;rintro e w3 ⟨rfl,hb3⟩;go_wp2_with fail;go_ret2;rw[HMM.out];refine ⟨_,rfl,zef _,?_,HB2.out.trans (hb3.mono HB2.out.size)⟩;intro h;have h':n1=r2:=HN2.out h;rw[h'];exact HW1.out.symm
 have d2:(op == 2)=false:=zdz h2;go_wp2_with fail;go_ret2;rw[HMM.out];have hwi:=zkv (N:Int);have hm:zes (max n1 (wrap64 (N:Int))):=yhn HN1.out hwi;have HW1:=hX (HWV.out.trans ((if_neg h1).trans (if_neg h2)));refine ⟨_,rfl,hm,?_,HB2.out⟩;intro h;have h':n1=r2:=HN2.out h;rw[h'] at hm ⊢;exact (ztb hm).symm.trans HW1.out.symm
theorem ye9 (n:Nat) (IH:MC l u n) (o:Int) (f t p:ByteArray) (lo hi:List Int) (b op:Int) (ks:List QT) (hsz:∀x∈ks,x.sz≤n) (vs:List Value) (seed:Int) (w:World) (hl:l.length*72≤140737488351232) (hlf:Lfs l (.mk 8 o f t p lo hi b op ks)) (hok:Qry.Ok (.mk 8 o f t p lo hi b op ks)) (hu:T.At bare w (fun g=>g<w.heap.size) (zbg l) u) (hv:T.AtL bare w (fun g=>g<w.heap.size) (cells (.mk 8 o f t p lo hi b op ks)) vs) (hT:zc9 w) :
 Calls Tryz.prog 10 #[.agg #[u],.agg vs.toArray,.int .u64 seed] w (zlp (zae (zbn l (zbx seed)) (wvM (zbx seed)) (.mk 8 o f t p lo hi b op ks)) w):=by
 obtain ⟨vl,vh,vk,rfl,hlo,hhi,hks⟩:=zao hv;obtain ⟨A1,c1,hvl,hlc,hlm,HLO⟩:=zc2 hlo;obtain rfl:vl = .slice A1 lo.length c1:=hvl;obtain ⟨A2,c2,rfl,_,_⟩:=zar hhi;obtain ⟨A3,c3,hvk,_,_,hel⟩:=zco hks;obtain rfl:vk = .slice A3 ks.length c3:=hvk;have HLO:=hX HLO;have EL:=hX hel;have HU:=hX hu;have HV:=hX hv;have HT0:=hX hT;have HLF:=hX hlf;have HOK:=hX hok;obtain ⟨hb0,hsz0,bs0,bq0⟩:=zgp w #[u] #[.int .i64 8,.int .i64 o,.string f,.string t,.string p,.slice A1 lo.length c1,.slice A2 hi.length c2,.int .i64 b,.int .i64 op,.slice A3 ks.length c3] 24 28;have HB0:=hX hb0;have HSZ:=hX hsz0;have HBS:=hX bs0;have HBQ:=hX bq0;clear hb0 hsz0 bs0 bq0 hlo hhi hks hel hu hv hT hlf hok;have hkn:ks.length*152≤140737488351232:=by cases HOK.out with | mk _ _ _ _ _ _ _ _ _ hks=>exact hks
 have HMM:Hid (zae (zbn l (zbx seed)) (wvM (zbx seed)) (.mk 8 o f t p lo hi b op ks)=(okM (zbn l (zbx seed)) (wvM (zbx seed)) ks,scM (zbn l (zbx seed)) (wvM (zbx seed)) 0 ks)):=hX (by rw[zae];rfl);have HIK:=hX (fun (i:Nat) (hi:i<ks.length) (us:List Value) (V:World) (hV:Below w.heap.size w V) (hx:T.AtL bare w (fun g=>g<w.heap.size) (cells ks[i]) us)=>IH ks[i] us seed V (hsz _ (List.getElem_mem hi)) (HLF.out.kids_ _ (List.getElem_mem hi)) (zlc _ HOK.out _ (List.getElem_mem hi)) (At.below HU.out hV (fun g hg=>Nat.lt_of_lt_of_le hg hV.size)) (zbd hx hV) (HT0.out.next hV))
 obtain ⟨leaf,hleaf⟩:∃x,zbn l (zbx seed)=x:=⟨_,rfl⟩
 obtain ⟨wv,hwv⟩:∃x,wvM (zbx seed)=x:=⟨_,rfl⟩
 rw[hleaf,hwv] at HMM HIK ⊢;clear hleaf hwv
 obtain ⟨MM,hMM⟩:∃MM,zae leaf wv (.mk 8 o f t p lo hi b op ks)=MM:=⟨_,rfl⟩
 rw[hMM] at HMM ⊢;clear hMM hsz IH;go_enter Tryz.func10,Tryz.ntmps10;go_upto_region 1 with fail;generalize ((w.alloc (.cells #[u] 24)).alloc (.cells #[.int .i64 8,.int .i64 o,.string f,.string t,.string p,.slice A1 lo.length c1,.slice A2 hi.length c2,.int .i64 b,.int .i64 op,.slice A3 ks.length c3] 28))=wb at *;have hgz:w.heap.size+1<wb.heap.size:=by have:=HSZ.out;omega
 have m0:=HBS.out.cell 0;have q0:=HBQ.out.cell 0;go_upto_region 24 with fail;clear m0 q0;go_loopw [13,14,15,16] (fun nd sh sc iv wr=>∃(i:Nat) (s:Int),i≤ks.length∧iv = .int .i64 i∧nd = .bool ((ks.take i).any zac)∧sh = .bool (ze3 leaf wv (ks.take i))∧sc = .int .i64 s∧zes s∧Hid (s=scM leaf wv 0 (ks.take i))∧Hid (good leaf wv (ks.take i)=true)∧Hid (Below wb.heap.size wb wr)) (fun _ _ _ iv _=>ks.length - (intOf iv).toNat);case atStart=>exact ⟨0,0,by omega,rfl,rfl,by simp[ze3],rfl,⟨by decide,by decide⟩,hX (by simp[scM]),hX (by simp[good,zds,RewP.zdt]),hX (Below.refl _ _)⟩
 case round=>
  obtain ⟨i,s,hi,rfl,rfl,rfl,rfl,hs,HS,HG,HW⟩:=hrel;have HQ1:=hX (HBQ.out.below HW.out HBQ.out.lt);have HM1:=hX (HBS.out.below HW.out HBS.out.lt);have q9:wr.cell? ⟨w.heap.size+1,9,none⟩=some (.slice A3 ks.length c3):=HQ1.out.cell 9;have m0:wr.cell? ⟨w.heap.size,0,none⟩=some u:=HM1.out.cell 0;by_cases hlt:i<ks.length
  ·have HNS:=hX (ycg (p:=zac) hlt);have HAS:=hX (zzh (leaf:=leaf) (wv:=wv) hlt);have HSS:=hX (ych (leaf:=leaf) (wv:=wv) hlt 0);have HGS:=hX (zzj (leaf:=leaf) (wv:=wv) hlt);have HOF:=hX (yci (leaf:=leaf) (wv:=wv) hlt);obtain ⟨ad,us,rfl,hba,hkx,hlen,hkc⟩:=EL.out i hlt;have HIX:=hX (fun (V:World) (hV:Below w.heap.size w V)=>HIK.out i hlt us V hV hkx);rw[HG.out,Bool.true_and] at HGS;rw[←HS.out] at HSS;generalize (ks.take i).any zac=nb at *;generalize ze3 leaf wv (ks.take i)=sb at *;generalize hx:ks[i]=x at *;clear hx;obtain ⟨k0,k1,k2,k3,k4,k5,k6,k7,k8,k9⟩:=x;obtain ⟨vl2,vh2,vk2,rfl,e5,e6,e9⟩:=zao hkx;obtain ⟨Y5,y5,rfl,_,_⟩:=zar e5;obtain ⟨Y6,y6,rfl,_,_⟩:=zar e6;obtain ⟨Y9,y9,rfl,_,_⟩:=zar e9;replace hkc:=hkc.keep (w':=wr) (fun p hp=>(HB0.out.trans (HW.out.mono HB0.out.size)).cell (by rw[hp,zaa];exact hba));have a0:=hkc.zero;have a1:=hkc.at_ 1 _ rfl (by omega);have a2:=hkc.at_ 2 _ rfl (by omega);have a3:=hkc.at_ 3 _ rfl (by omega);have a4:=hkc.at_ 4 _ rfl (by omega);have a5:=hkc.at_ 5 _ rfl (by omega);have a6:=hkc.at_ 6 _ rfl (by omega);have a7:=hkc.at_ 7 _ rfl (by omega);have a8:=hkc.at_ 8 _ rfl (by omega);have a9:=hkc.at_ 9 _ rfl (by omega);have h1:(i:Int)<(ks.length:Int):=by omega
   have h2:(0:Int)≤(i:Int):=by omega
   have hA:Below wr.heap.size wr (wr.alloc (.cells #[.int .i64 k0,.int .i64 k1,.string k2,.string k3,.string k4,.slice Y5 k5.length y5,.slice Y6 k6.length y6,.int .i64 k7,.int .i64 k8,.slice Y9 k9.length y9] 28)):=(Below.refl _ _).alloc (Nat.le_refl _) _;have HQ2:=hX (HQ1.out.below hA HQ1.out.lt);have HM2:=hX (HM1.out.below hA HM1.out.lt);have HK2:=hX (Blk.new wr 28 #[.int .i64 k0,.int .i64 k1,.string k2,.string k3,.string k4,.slice Y5 k5.length y5,.slice Y6 k6.length y6,.int .i64 k7,.int .i64 k8,.slice Y9 k9.length y9]);have HW2:=hX (HW.out.trans (hA.mono HW.out.size));have hgk:w.heap.size+1<wr.heap.size:=HQ1.out.lt;clear hA hkx hlen hkc e5 e6 e9;go_upto_region 27 with fail;clear a0 a1 a2 a3 a4 a5 a6 a7 a8 a9 q9 m0;generalize (wr.alloc (.cells #[.int .i64 k0,.int .i64 k1,.string k2,.string k3,.string k4,.slice Y5 k5.length y5,.slice Y6 k6.length y6,.int .i64 k7,.int .i64 k8,.slice Y9 k9.length y9] 28))=W2 at *;generalize wr.heap.size=gk at *;have m0:W2.cell? ⟨w.heap.size,0,none⟩=some u:=HM2.out.cell 0;obtain ⟨f0,f1,f2,f3,f4,f5,f6,f7,f8,f9⟩:=b10 HK2.out;go_wp2_with fail;refine (HIX.out W2 (HB0.out.trans (HW2.out.mono HB0.out.size))).mono ?_;rintro e w3 ⟨n1,rfl,hn1,hn2,hb3⟩;have HK3:=hX (HK2.out.below hb3 HK2.out.lt);have HW3:=hX (HW2.out.trans (hb3.mono HW2.out.size));have HN1:=hX hn1;have HN2:=hX hn2;clear hb3 hn1 hn2 m0 f0 f1 f2 f3 f4 f5 f6 f7 f8 f9;unfold zzi at HGS HOF
   have hnd:zac (.mk k0 k1 k2 k3 k4 k5 k6 k7 k8 k9)=(decide (k1=1) || decide (k1=4)):=rfl;have hoc:oc (.mk k0 k1 k2 k3 k4 k5 k6 k7 k8 k9)=k1:=rfl;rw[hnd,hoc] at HGS HOF HAS;rw[hnd] at HNS;rw[hoc] at HSS;clear hnd hoc;generalize zae leaf wv (.mk k0 k1 k2 k3 k4 k5 k6 k7 k8 k9)=r at *;obtain ⟨r1,r2⟩:=r;dsimp only at HGS HOF HNS HAS HSS HN2;have f1:w3.cell? ⟨gk,1,none⟩=some (.int .i64 k1):=HK3.out.cell 1;have hio:(i:Int)+1=((i+1:Nat):Int):=by omega
   have HIO:=hX hio;clear hio;by_cases h1:k1=1
   ·subst h1
    cases r1 with
    | false=>
     have HOFF:Hid (okM leaf wv ks=false):=hX (HOF.out (by simp));go_wp2_with fail;go_ret2;rw[HMM.out,HOFF.out];exact ⟨_,rfl,⟨by decide,by decide⟩,fun h=>(by cases h),HB0.out.trans (HW3.out.mono HB0.out.size)⟩
    | true=>
     go_wp2_with fail;refine (znp s n1 _ hs HN1.out).mono ?_;rintro e w4 ⟨rfl,hb4⟩;have HW4:=hX (HW3.out.trans (hb4.mono HW3.out.size));clear hb4;have HSE:Hid (zd4 (s+n1)=scM leaf wv 0 (ks.take (i+1))):=hX (by rw[HSS.out,HN2.out (by first | rfl | trivial)];simp);go_upto_region 25 with fail;go_wp2_with fail;go_roundw;case rel=>exact ⟨i+1,zd4 (s+n1),by omega,by go_num,by (first | trivial | (rw[HNS.out];simp)),by rw[HAS.out];simp,by first | rfl | trivial,zef _,HSE,hX (by rw[HGS.out];simp),HW4⟩
     case measure=>simp[intOf];omega
   have d1:(k1 == 1)=false:=zdz h1;by_cases h4:k1=4
   ·subst h4
    cases r1 with
    | false=>
     have HOFF:Hid (okM leaf wv ks=false):=hX (HOF.out (by simp));go_wp2_with fail;go_ret2;rw[HMM.out,HOFF.out];exact ⟨_,rfl,⟨by decide,by decide⟩,fun h=>(by cases h),HB0.out.trans (HW3.out.mono HB0.out.size)⟩
    | true=>
     have HSE:Hid (s=scM leaf wv 0 (ks.take (i+1))):=hX (by rw[HSS.out];simp[*]);go_wp2_with fail;go_roundw;case rel=>exact ⟨i+1,s,by omega,by go_num,by (first | trivial | (rw[HNS.out];simp[*])),by rw[HAS.out];simp[*],by first | rfl | trivial,hs,HSE,hX (by rw[HGS.out];simp[*]),HW3⟩
     case measure=>simp[intOf];omega
   have d4:(k1 == 4)=false:=zdz h4;by_cases h3:k1=3
   ·subst h3
    cases r1 with
    | true=>
     have HOFF:Hid (okM leaf wv ks=false):=hX (HOF.out (by simp));go_wp2_with fail;go_ret2;rw[HMM.out,HOFF.out];exact ⟨_,rfl,⟨by decide,by decide⟩,fun h=>(by cases h),HB0.out.trans (HW3.out.mono HB0.out.size)⟩
    | false=>
     have HSE:Hid (s=scM leaf wv 0 (ks.take (i+1))):=hX (by rw[HSS.out];simp[*]);go_wp2_with fail;go_roundw;case rel=>exact ⟨i+1,s,by omega,by go_num,by (first | trivial | (rw[HNS.out];simp[*])),by rw[HAS.out];simp[*],by first | rfl | trivial,hs,HSE,hX (by rw[HGS.out];simp[*]),HW3⟩
     case measure=>simp[intOf];omega
   have d3:(k1 == 3)=false:=zdz h3;by_cases h2:k1=2
   ·subst h2
    cases r1 with
    | true=>
     cases sb with
     | true=>
      go_wp2_with fail;refine (znp s n1 _ hs HN1.out).mono ?_;rintro e w4 ⟨rfl,hb4⟩;have HW4:=hX (HW3.out.trans (hb4.mono HW3.out.size));clear hb4;have HSE:Hid (zd4 (s+n1)=scM leaf wv 0 (ks.take (i+1))):=hX (by rw[HSS.out,HN2.out (by first | rfl | trivial)];simp);go_upto_region 25 with fail;go_wp2_with fail;go_roundw;case rel=>exact ⟨i+1,zd4 (s+n1),by omega,by go_num,by (first | trivial | (rw[HNS.out];simp)),by rw[HAS.out];simp,by first | rfl | trivial,zef _,HSE,hX (by rw[HGS.out];simp),HW4⟩
      case measure=>simp[intOf];omega
     | false=>
      go_wp2_with fail;refine (znp s n1 _ hs HN1.out).mono ?_;rintro e w4 ⟨rfl,hb4⟩;have HW4:=hX (HW3.out.trans (hb4.mono HW3.out.size));clear hb4;have HSE:Hid (zd4 (s+n1)=scM leaf wv 0 (ks.take (i+1))):=hX (by rw[HSS.out,HN2.out (by first | rfl | trivial)];simp);go_upto_region 25 with fail;go_wp2_with fail;go_roundw;case rel=>exact ⟨i+1,zd4 (s+n1),by omega,by go_num,by (first | trivial | (rw[HNS.out];simp)),by rw[HAS.out];simp,by first | rfl | trivial,zef _,HSE,hX (by rw[HGS.out];simp),HW4⟩
      case measure=>simp[intOf];omega
    | false=>
     cases sb with
     | true=>
      have HSE:Hid (s=scM leaf wv 0 (ks.take (i+1))):=hX (by rw[HSS.out];simp[*]);go_wp2_with fail;go_roundw;case rel=>exact ⟨i+1,s,by omega,by go_num,by (first | trivial | (rw[HNS.out];simp[*])),by rw[HAS.out];simp[*],by first | rfl | trivial,hs,HSE,hX (by rw[HGS.out];simp[*]),HW3⟩
      case measure=>simp[intOf];omega
     | false=>
      have HSE:Hid (s=scM leaf wv 0 (ks.take (i+1))):=hX (by rw[HSS.out];simp[*]);go_wp2_with fail;go_roundw;case rel=>exact ⟨i+1,s,by omega,by go_num,by (first | trivial | (rw[HNS.out];simp[*])),by rw[HAS.out];simp[*],by first | rfl | trivial,hs,HSE,hX (by rw[HGS.out];simp[*]),HW3⟩
      case measure=>simp[intOf];omega
   have d2:(k1 == 2)=false:=zdz h2
   cases r1 with
   | true=>
    cases sb with
    | true=>
     have HSE:Hid (s=scM leaf wv 0 (ks.take (i+1))):=hX (by rw[HSS.out];simp[*]);go_wp2_with fail;go_roundw;case rel=>exact ⟨i+1,s,by omega,by go_num,by (first | trivial | (rw[HNS.out];simp[*])),by rw[HAS.out];simp[*],by first | rfl | trivial,hs,HSE,hX (by rw[HGS.out];simp[*]),HW3⟩
     case measure=>simp[intOf];omega
    | false=>
     have HSE:Hid (s=scM leaf wv 0 (ks.take (i+1))):=hX (by rw[HSS.out];simp[*]);go_wp2_with fail;go_roundw;case rel=>exact ⟨i+1,s,by omega,by go_num,by (first | trivial | (rw[HNS.out];simp[*])),by rw[HAS.out];simp[*],by first | rfl | trivial,hs,HSE,hX (by rw[HGS.out];simp[*]),HW3⟩
     case measure=>simp[intOf];omega
   | false=>
    cases sb with
    | true=>
     have HSE:Hid (s=scM leaf wv 0 (ks.take (i+1))):=hX (by rw[HSS.out];simp[*]);go_wp2_with fail;go_roundw;case rel=>exact ⟨i+1,s,by omega,by go_num,by (first | trivial | (rw[HNS.out];simp[*])),by rw[HAS.out];simp[*],by first | rfl | trivial,hs,HSE,hX (by rw[HGS.out];simp[*]),HW3⟩
     case measure=>simp[intOf];omega
    | false=>
     have HSE:Hid (s=scM leaf wv 0 (ks.take (i+1))):=hX (by rw[HSS.out];simp[*]);go_wp2_with fail;go_roundw;case rel=>exact ⟨i+1,s,by omega,by go_num,by (first | trivial | (rw[HNS.out];simp[*])),by rw[HAS.out];simp[*],by first | rfl | trivial,hs,HSE,hX (by rw[HGS.out];simp[*]),HW3⟩
     case measure=>simp[intOf];omega
  ·obtain rfl:i=ks.length:=by omega
   have e:ks.take ks.length=ks:=List.take_length;rw[e] at HS HG ⊢;unfold good at HG;have HOE:Hid (okM leaf wv ks=(ks.any zac || ze3 leaf wv ks)):=hX (by rw[okM,HG.out,Bool.true_and]);generalize ks.any zac=nb at *;generalize ze3 leaf wv ks=sb at *
   cases nb with
   | true=>
    go_wp2_with fail;go_ret2;rw[HMM.out,HOE.out];exact ⟨_,rfl,hs,fun _=>HS.out,HB0.out.trans (HW.out.mono HB0.out.size)⟩
   | false=>
    go_wp2_with fail;go_ret2;rw[HMM.out,HOE.out];exact ⟨_,rfl,hs,fun _=>HS.out,HB0.out.trans (HW.out.mono HB0.out.size)⟩
theorem zv6 (k o:Int) (f t p:ByteArray) (lo hi:List Int) (b op:Int) (ks:List QT) (h37:3≤k∧k≤7) (vs:List Value) (seed:Int) (w:World) (hl:l.length*72≤140737488351232) (hlf:Lfs l (.mk k o f t p lo hi b op ks)) (hok:Qry.Ok (.mk k o f t p lo hi b op ks)) (hu:T.At bare w (fun g=>g<w.heap.size) (zbg l) u) (hv:T.AtL bare w (fun g=>g<w.heap.size) (cells (.mk k o f t p lo hi b op ks)) vs) (hT:zc9 w) :
 Calls Tryz.prog 10 #[.agg #[u],.agg vs.toArray,.int .u64 seed] w (zlp (zae (zbn l (zbx seed)) (wvM (zbx seed)) (.mk k o f t p lo hi b op ks)) w):=by
 obtain ⟨vl,vh,vk,rfl,hlo,hhi,hks⟩:=zao hv;obtain ⟨A1,c1,hvl,hlc,hlm,HLO⟩:=zc2 hlo;obtain rfl:vl = .slice A1 lo.length c1:=hvl;obtain ⟨A2,c2,rfl,_,_⟩:=zar hhi;obtain ⟨A3,c3,hvk,_,_,hel⟩:=zco hks;obtain rfl:vk = .slice A3 ks.length c3:=hvk;have HLO:=hX HLO;have EL:=hX hel;have HU:=hX hu;have HV:=hX hv;have HT0:=hX hT;have HLF:=hX hlf;have HOK:=hX hok;obtain ⟨hb0,hsz0,bs0,bq0⟩:=zgp w #[u] #[.int .i64 k,.int .i64 o,.string f,.string t,.string p,.slice A1 lo.length c1,.slice A2 hi.length c2,.int .i64 b,.int .i64 op,.slice A3 ks.length c3] 24 28;have HB0:=hX hb0;have HSZ:=hX hsz0;have HBS:=hX bs0;have HBQ:=hX bq0;clear hb0 hsz0 bs0 bq0 hlo hhi hks hel hu hv hT hlf hok;have HLC:=hX (fun (V:World) (hV:Below w.heap.size w V)=>ycf (.mk k o f t p lo hi b op ks) _ V (At.below HU.out hV (fun g hg=>Nat.lt_of_lt_of_le hg hV.size)) hl (zbd HV.out hV) HOK.out HLF.out h37 (HT0.out.next hV));have hkl:=zy7 HOK.out HLF.out
 have HMM:Hid (zae (zbn l (zbx seed)) (wvM (zbx seed)) (.mk k o f t p lo hi b op ks)=if zdy l (.mk k o f t p lo hi b op ks)=[] then (false,0) else (decide (zbx seed (zdy l (.mk k o f t p lo hi b op ks)) % 2=1),zmt (zbx seed (zdy l (.mk k o f t p lo hi b op ks))))):=hX (by
  rw[zbu (.mk k o f t p lo hi b op ks) h37];have e:zdy l (zdw (.mk k o f t p lo hi b op ks))=zdy l (.mk k o f t p lo hi b op ks):=rfl;unfold zbn
  rw[e])
 obtain ⟨MM,hMM⟩:∃MM,zae (zbn l (zbx seed)) (wvM (zbx seed)) (.mk k o f t p lo hi b op ks)=MM:=⟨_,rfl⟩
 rw[hMM] at HMM ⊢;clear hMM;generalize zdy l (.mk k o f t p lo hi b op ks)=K at *;have n1:(k == 1)=false:=zdz (by omega);have n2:(k == 2)=false:=zdz (by omega);have n8:(k == 8)=false:=zdz (by omega);have n9:(k == 9)=false:=zdz (by omega);have n10:(k == 10)=false:=zdz (by omega);go_enter Tryz.func10,Tryz.ntmps10;go_upto_region 1 with fail;generalize ((w.alloc (.cells #[u] 24)).alloc (.cells #[.int .i64 k,.int .i64 o,.string f,.string t,.string p,.slice A1 lo.length c1,.slice A2 hi.length c2,.int .i64 b,.int .i64 op,.slice A3 ks.length c3] 28))=wb at *;have hgz:w.heap.size+1<wb.heap.size:=by have:=HSZ.out;omega
 have m0:=HBS.out.cell 0;have q0:=HBQ.out.cell 0;have q1:=HBQ.out.cell 1;have q2:=HBQ.out.cell 2;have q3:=HBQ.out.cell 3;have q4:=HBQ.out.cell 4;have q5:=HBQ.out.cell 5;have q6:=HBQ.out.cell 6;have q7:=HBQ.out.cell 7;have q8:=HBQ.out.cell 8;have q9:=HBQ.out.cell 9;go_wp2_with fail;refine (HLC.out _ HB0.out).mono ?_;rintro e w1 ⟨rfl,hb1⟩;have HB1:=hX (HB0.out.trans (hb1.mono HB0.out.size));clear hb1;by_cases hK:K=[]
 ·subst hK;have HM0:=hX (HMM.out.trans (if_pos rfl));have he:(str []).toList.isEmpty=true:=by rw[ByteArray.toList_eq];rfl
  go_wp2_with fail;go_ret2;rw[HM0.out];exact ⟨_,rfl,⟨by decide,by decide⟩,fun h=>(by cases h),HB1.out⟩
 ·have HM0:=hX (HMM.out.trans (if_neg hK))
  have he:(str K).toList.isEmpty=false:=by
   rw[ByteArray.toList_eq];show K.isEmpty=false
   cases K with
   | nil=>exact absurd rfl hK
   | cons a l=>rfl
  have HMX:=hX (zo9 seed (str K) w1 (by rw[zfu];omega));have hN:=zw8 seed K;rw[zce,←zw7] at HMX;generalize zbx seed K=N at *;clear hkl;go_wp2_with fail;refine HMX.out.mono ?_;rintro e w2 ⟨rfl,hb2⟩;have HB2:=hX (HB1.out.trans (hb2.mono HB1.out.size));clear hb2;have ha:bits .and .u64 ((N:Int) / 256) 7=((N / 256 % 8:Nat):Int):=zxb (N / 256) (by omega);have hb:bits .and .u64 (N:Int) 1=((N % 2:Nat):Int):=zxa N hN;have HS:Hid (zmt N=if N / 256 % 8=0 then 9223372036854775807 else if N / 256 % 8=1 then -4611686018427387904 else ((N / 1099511627776:Nat):Int)):=hX (by unfold zmt;rw[Nat.mod_eq_of_lt hN])
  have HD:Hid ((((N % 2:Nat):Int) == 1)=decide (N % 2=1)):=hX (by
   by_cases h:N % 2=1
   ·rw[h];rfl
   ·rw[decide_eq_false h];exact zdz (by omega))
  generalize hm2:N % 2=m2 at *;generalize hm8:N / 256 % 8=m8 at *;clear hm2 hm8;by_cases h0:m8=0
  ·subst h0;have HS0:=hX (HS.out.trans (if_pos rfl));go_wp2_with fail;go_ret2;rw[HM0.out];exact ⟨_,by rw[←HD.out];rfl,⟨by decide,by decide⟩,fun _=>HS0.out.symm,HB2.out⟩
  ·have e0:(((m8:Nat):Int) == 0)=false:=zdz (by omega);by_cases h1:m8=1
   ·subst h1;have HS0:=hX (HS.out.trans ((if_neg h0).trans (if_pos rfl)));go_wp2_with fail;go_ret2;rw[HM0.out];exact ⟨_,by rw[←HD.out];rfl,⟨by decide,by decide⟩,fun _=>HS0.out.symm,HB2.out⟩
   ·have e1:(((m8:Nat):Int) == 1)=false:=zdz (by omega);have HS0:=hX (HS.out.trans ((if_neg h0).trans (if_neg h1)));have hdv:(N:Int) / 1099511627776=((N / 1099511627776:Nat):Int):=by omega
    have hlt:N / 1099511627776<16777216:=by omega
    generalize N / 1099511627776=z at *;go_wp2_with fail;go_ret2;rw[HM0.out];exact ⟨_,by rw[←HD.out];rfl,⟨by omega,by omega⟩,fun _=>HS0.out.symm,HB2.out⟩
theorem yfa (hl:l.length*72≤140737488351232) (n:Nat) (IH:MC l u n):MC l u (n+1):=by
 intro q vs seed w hn hlf hok hu hv hT;obtain ⟨k,o,f,t,p,lo,hi,b,op,ks⟩:=q;have hsz:∀x∈ks,x.sz≤n:=fun x hx=>by have:=QT.sz_kid (kd:=k) (oc:=o) (f:=f) (t:=t) (u:=p) (lo:=lo) (hi:=hi) (b:=b) (op:=op) hx;omega
 have hk:1≤k∧k≤10:=by cases hlf with | mk h1=>exact h1
 rcases (show k=1∨k=2∨(3≤k∧k≤7)∨k=8∨k=9∨k=10 by omega) with rfl | rfl | h | rfl | rfl | rfl
 ·exact ye6 o f t p lo hi b op ks vs seed w hl hlf hok hu hv hT
 ·exact ye7 o f t p lo hi b op ks vs seed w hl hlf hok hu hv hT
 ·exact zv6 k o f t p lo hi b op ks h vs seed w hl hlf hok hu hv hT
 ·exact ye9 n IH o f t p lo hi b op ks hsz vs seed w hl hlf hok hu hv hT
 ·have h1:ks.length=1:=by cases hlf with | mk _ _ _ h9 _ _ _=>exact h9 (.inl rfl)
  obtain ⟨x,rfl⟩:=List.length_eq_one_iff.1 h1;exact ye8 n IH o f t p lo hi b op x (hsz x (by simp)) vs seed w hl hlf hok hu hv hT
 ·have h1:ks.length=1:=by cases hlf with | mk _ _ _ h9 _ _ _=>exact h9 (.inr rfl)
  have h2:lo.length=1:=by cases hlf with | mk _ _ _ _ h10 _ _=>exact h10 rfl
  obtain ⟨x,rfl⟩:=List.length_eq_one_iff.1 h1;obtain ⟨z0,rfl⟩:=List.length_eq_one_iff.1 h2;exact ycj n IH o f t p z0 hi b op x (hsz x (by simp)) vs seed w hl hlf hok hu hv hT
theorem zlq (hl:l.length*72≤140737488351232):∀n:Nat,MC l u n
 | 0=>fun q _ _ _ hn=>by have:=q.sz_pos;omega
 | n+1=>yfa hl n (zlq hl n)
end
end Go.Proofs.YtplkbdncgkgppaaGreatDoor.Qry
