/- Lemmas that the last text leans on. -/
import Derived.Test.YtplkbdncgkgppaaGreatDoorTake
import Derived.Test.YtplkbdncgkgppaaGreatDoorPack30
import Derived.Test.YtplkbdncgkgppaaGreatDoorPack27
import Derived.BigQuiet
import Derived.Deep.QuietTactic
import Derived.Deep.Cut
import Derived.Deep.CutRange
import Derived.Deep.DeepCutAuto
import Derived.Test.YtplkbdncgkgppaaGreatDoorPack13
set_option linter.all false
set_option maxRecDepth 100000
set_option maxHeartbeats 8000000
section
namespace Go.Proofs.YtplkbdncgkgppaaGreatDoor.Qry
open Go.RowKit Words Tree QryP Kit Owned Sch RewP Ana
theorem yeo (v:Value):v.ownBlock.toList.Nodup:=by cases v.ownBlock <;> simp
theorem zeb.opens {w:World} {B:Nat} {v:Value} {l1 l2 kk:List QT} {k o b op:Int} {f t u:ByteArray} {lo hi:List Int} {bs:List Nat} (h:zeb w B v (l1++.mk k o f t u lo hi b op kk::l2) bs) (hnd:bs.Nodup) (i n m:Nat) (hi':l1.length=i) (hn:(l1++QT.mk k o f t u lo hi b op kk::l2).length=n) (hm:l2.length=m) (hB:B≤w.heap.size) :
 ∃(g cap:Nat) (y x2 z:List Value) (Y5 Y6 Y9:Option Addr) (y5 y6 y9:Nat),v = .slice (some ⟨g,0,none⟩) n cap∧n≤cap∧cap≤maxLen∧(∀j u',[Value.int .i64 k,.int .i64 o,.string f,.string t,.string u,.slice Y5 lo.length y5,.slice Y6 hi.length y6,.int .i64 b,.int .i64 op,.slice Y9 kk.length y9][j]?=some u'→w.cell? ⟨g,i*10+j,none⟩=some u')∧
  T.At bare w (fun x=>x<w.heap.size) (.arr 10 kk.length (zaw kk)) (.slice Y9 kk.length y9)∧
  Reads w w.heap.size 10 (some ⟨g,0,none⟩) i y∧Reads w w.heap.size 10 Y9 kk.length x2∧Reads w w.heap.size 10 (if cap=i+1 then some ⟨g,0,none⟩ else some ⟨g,(i+1)*10,none⟩) m z∧
  (∀u'∈y,u'.oneCell'=true)∧(∀u'∈x2,u'.oneCell'=true)∧(∀u'∈z,u'.oneCell'=true)∧
  ∀(w1:World) (A:Option Addr) (c n':Nat),n'=i+kk.length+m→Below w.heap.size w w1→w1.ownsRow w.heap.size 28 10 (.slice A n' c) n' (y++(x2++z))→∃bs',zeb w1 B (.slice A (l1++(kk++l2)).length c) (l1++(kk++l2)) bs'∧OutR w bs w1 bs':=by
 obtain ⟨xs,bk,ho,hl,rfl⟩:=h;rw[hn] at ho;have hnn:n=i+1+m:=by rw[←hn];simp;omega
 obtain ⟨g,cap,rfl,hgB,hgl⟩:=ho.form (by omega)
 have hcap:n≤cap∧cap≤maxLen:=by
  rcases ho.2 with ⟨h,h0⟩ | ⟨g',cap',cur,hv,_,_,h3,h4,_⟩
  ·omega
  ·injection hv with _ _ h5;subst h5;exact ⟨h3,h4⟩
 obtain ⟨y,z',b1,b',rfl,rfl,hy,hz'⟩:=OQL.cut hl;rw[OQL] at hz';obtain ⟨uq,z,bq,b2,rfl,rfl,hq,hz⟩:=hz';have hyl:y.length=i*10:=by rw[hy.len,hi']
 have hzl:z.length=m*10:=by rw[hz.len,hm]
 have hul:=hq.len;replace hnd:(g::(b1++(bq++b2))).Nodup:=hnd;obtain ⟨vl,vh,vk,bkk,rfl,h1,h2,h3,rfl⟩:=hq.parts;obtain ⟨Y5,y5,rfl⟩:=zav h1;obtain ⟨Y6,y6,rfl⟩:=zav h2;obtain ⟨Y9,y9,rfl⟩:=h3.form;have hat:=h3.atw;obtain ⟨x2,b9,h4,h5,rfl⟩:=h3;have cell:∀p u',(y++([Value.int .i64 k,.int .i64 o,.string f,.string t,.string u,.slice Y5 lo.length y5,.slice Y6 hi.length y6,.int .i64 b,.int .i64 op,.slice Y9 kk.length y9]++z))[p]?=some u'→w.cell? ⟨g,p,none⟩=some u':=fun p u' hp=>by have:=ho.cells (g:=g) rfl p u' hp;rwa [zc5] at this
 refine ⟨g,cap,y,x2,z,Y5,Y6,Y9,y5,y6,y9,rfl,hcap.1,hcap.2,fun j u' hj=>cell _ _ ?_,hat,⟨by rw[hyl],fun _=>⟨_,rfl,hgl,fun j u' hj=>?_⟩⟩,?_,⟨by rw[hzl],fun h0=>⟨⟨g,(i+1)*10,none⟩,if_neg (by omega),hgl,fun j u' hj=>?_⟩⟩,zcy hy.at_,zcy h5.at_,zcy hz.at_,?_⟩
 ·have hjl:=(List.getElem?_eq_some_iff.1 hj).1;rw[List.getElem?_append_right (by omega),hyl,Nat.add_sub_cancel_left,List.getElem?_append_left hjl];exact hj
 ·rw[zc5];exact cell j u' (by rw[List.getElem?_append_left (List.getElem?_eq_some_iff.1 hj).1];exact hj)
 ·have:=h4
  rcases h4.2 with ⟨he,h0⟩ | ⟨g',cap',cur,hv,_,hh,_⟩
  ·refine ⟨h4.1,fun hp=>by omega⟩
  ·injection hv with e1 _ e3;subst e1;refine ⟨h4.1,fun _=>⟨_,rfl,(Array.getElem?_eq_some_iff.1 hh).1,fun j u' hj=>h4.cells (g:=g') rfl j u' hj⟩⟩
 ·have:=cell ((i+1)*10+j) u' (by
   rw[List.getElem?_append_right (by omega),hyl,List.getElem?_append_right (by rw[hul];omega),hul,show (i+1)*10+j - i*10 - 10=j by omega];exact hj)
  rw[←this];congr 1
  unfold Addr.add;split
  ·simp_all
  ·rfl
 ·intro w1 A c n' hn' hb hown;have hlen:(l1++(kk++l2)).length=n':=by rw[hn'];simp;omega
  have d0:=List.nodup_cons.1 hnd;have d1:=List.nodup_append.1 d0.2;have d2:=List.nodup_append.1 d1.2.1;refine ⟨(Value.slice A n' c).ownBlock.toList++(b1++(b9++b2)),⟨y++(x2++z),b1++(b9++b2),by rw[hlen];exact zdr hown hB,(hy.below hb (Nat.le_refl _)).join ((h5.below hb (Nat.le_refl _)).join (hz.below hb (Nat.le_refl _))),by rw[hlen]⟩,⟨?_,fun x hx=>?_,But.of_below hb⟩⟩
  ·have hs:(b1++(b9++b2)).Nodup:=d0.2.sublist ((List.Sublist.refl _).append (List.Sublist.append (((List.sublist_append_right _ _).trans (List.sublist_append_right _ _)).trans (List.sublist_append_right _ _)) (List.Sublist.refl _)));refine List.nodup_append.2 ⟨yeo _,hs,fun x hx y' hy' e=>?_⟩;subst e;have g1:=(World.ownsRow.lt hown x (zat.1 hx)).1
   have g2:x<w.heap.size:=by
    rcases List.mem_append.1 hy' with h | h
    ·exact (hy.mem x h).2
    rcases List.mem_append.1 h with h | h
    ·exact (h5.mem x h).2
    ·exact (hz.mem x h).2
   omega
  ·rcases List.mem_append.1 hx with hx | hx
   ·exact .inr (World.ownsRow.lt hown x (zat.1 hx)).1
   ·simp only[List.mem_append,Value.ownBlock,Option.toList_some,List.mem_cons,List.not_mem_nil,or_false] at hx ⊢;rcases hx with hx | hx | hx
    ·exact .inl (.inr (.inl hx))
    ·exact .inl (.inr (.inr (.inl (.inr (.inr (.inr hx))))))
    ·exact .inl (.inr (.inr (.inr hx)))
theorem ztv {n i:Nat} {ks:List QT} {r:Option (List QT)} (hlt:i<ks.length) (h:(zbo n (ks.drop i)).map (ks.take i++·)=r):(opens n ks[i]=true→r=some (ks.take i++(kids ks[i]++ks.drop (i+1))))∧(opens n ks[i]=false→(zbo n (ks.drop (i+1))).map (ks.take (i+1)++·)=r):=by
 rw[List.drop_eq_getElem_cons hlt,zbo] at h;refine ⟨fun ho=>?_,fun ho=>?_⟩
 ·rw[if_pos ho] at h;rw[←h];rfl
 ·rw[if_neg (by rw[ho];decide)] at h;rw[←h,Option.map_map];congr 1
  funext x
  show ks.take (i+1)++x=ks.take i++(ks[i]::x);rw[zbc hlt,List.append_assoc];rfl
section
variable {B gb:Nat} {s:Bool} {k o b op:Int} {f t u:ByteArray} {lo hi:List Int} {us:List Value} {bs:List Nat}
theorem zzw (ks:List QT) (w:World) (h:Bst w B gb s (.mk k o f t u lo hi b op ks) us bs) (hB:B≤w.heap.size) (hok:∀q∈ks,(kids q).length*152≤140737488351232) (hkl:ks.length≤100000) :
 Calls Tryz.prog 112 #[.pointer (some ⟨gb,0,none⟩)] w (yen B gb s (.mk k o f t u lo hi b op ((zbo ks.length ks).getD ks)) bs (.bool (zbo ks.length ks).isSome) w):=by
 obtain ⟨A1,A2,A3,c1,c2,c3,bk,rfl,hblk,hrq,hnk,hsub,hgk,hge,hcont⟩:=h.parts;have hcap:=hrq.cap;have HC:=hX hcont;have HRQ:=hX hrq;have HNK:=hX hnk;have HBK:=hX hblk;have HS:=hX h;have HOKK:=hX hok
 obtain ⟨r,hr⟩:∃r,zbo ks.length ks=r:=⟨_,rfl⟩
 have HR0:Hid ((zbo ks.length (ks.drop 0)).map (ks.take 0++·)=r):=hX (by rw[List.drop_zero,hr];cases r <;> simp);rw[hr];have q9:w.cell? ⟨gb,9,none⟩=some (.slice A3 ks.length c3):=hblk.cell 9;clear h hcont hrq hnk hr hblk hok hsub;go_enter Tryz.func112,Tryz.ntmps112;go_wp2_with fail;go_loopg [11] ks.length (fun m vi wr=>∃i:Nat,vi = .int .i64 i∧m=ks.length - i∧i≤ks.length∧Hid ((zbo ks.length (ks.drop i)).map (ks.take i++·)=r)∧Hid (Below w.heap.size w wr))
 case atStart=>exact ⟨0,rfl,by omega,by omega,HR0,hX (Below.refl _ _)⟩
 case round=>
  clear HR0 q9;obtain ⟨i,rfl,rfl,hin,HR,HW⟩:=hrel;have HBR:=hX (HBK.out.below HW.out HBK.out.lt);by_cases hlt:i<ks.length
  ·obtain ⟨hyes,hno⟩:=ztv hlt HR.out;have HY:=hX hyes;have HN:=hX hno;have hsz:=HW.out.size;have HRR:=HRQ.out.below HW.out (Nat.le_refl _);have hsp:ks=ks.take i++ks[i]::ks.drop (i+1):=by rw[←List.drop_eq_getElem_cons hlt,List.take_append_drop]
   have hkk:=HOKK.out ks[i] (List.getElem_mem hlt);rw[hsp] at HRR;generalize hq:ks[i]=q at *;obtain ⟨k0,k1,k2,k3,k4,k5,k6,k7,k8,k9⟩:=q;have hlen:(ks.take i++QT.mk k0 k1 k2 k3 k4 k5 k6 k7 k8 k9::ks.drop (i+1)).length=ks.length:=by rw[←hsp]
   obtain ⟨g,cap,y,x2,z,Y5,Y6,Y9,y5,y6,y9,hv,hnc,hcm,hcell,hat,r1,r2,r3,e1,e2,e3,hfin⟩:=HRR.opens HNK.out i ks.length (ks.length - (i+1)) (by simp;omega) hlen (by simp) (Nat.le_trans hB hsz);rw[hlen] at hv;injection hv with hv1 _ hv3;subst hv1 hv3;have HF:=hX hfin;have HAT:=hX hat;have HR1:=hX (And.intro r1 e1);have HR2:=hX (And.intro r2 e2);have HR3:=hX (And.intro r3 e3);have h1:(0:Int)≤(i:Int):=by omega
   have h2:(i:Int)<(ks.length:Int):=by omega
   have a0:wr.cell? ⟨g,i*10,none⟩=some (.int .i64 k0):=hcell 0 _ rfl;have a1:wr.cell? ⟨g,i*10+1,none⟩=some (.int .i64 k1):=hcell 1 _ rfl;have a2:wr.cell? ⟨g,i*10+2,none⟩=some (.string k2):=hcell 2 _ rfl;have a3:wr.cell? ⟨g,i*10+3,none⟩=some (.string k3):=hcell 3 _ rfl;have a4:wr.cell? ⟨g,i*10+4,none⟩=some (.string k4):=hcell 4 _ rfl;have a5:wr.cell? ⟨g,i*10+5,none⟩=some (.slice Y5 k5.length y5):=hcell 5 _ rfl;have a6:wr.cell? ⟨g,i*10+6,none⟩=some (.slice Y6 k6.length y6):=hcell 6 _ rfl;have a7:wr.cell? ⟨g,i*10+7,none⟩=some (.int .i64 k7):=hcell 7 _ rfl;have a8:wr.cell? ⟨g,i*10+8,none⟩=some (.int .i64 k8):=hcell 8 _ rfl;have a9:wr.cell? ⟨g,i*10+9,none⟩=some (.slice Y9 k9.length y9):=hcell 9 _ rfl;clear hfin hcell hat r1 r2 r3 e1 e2 e3 hyes hno HRR hlen hsp hq hsz;have hA:Below wr.heap.size wr (wr.alloc (.cells #[.int .i64 k0,.int .i64 k1,.string k2,.string k3,.string k4,.slice Y5 k5.length y5,.slice Y6 k6.length y6,.int .i64 k7,.int .i64 k8,.slice Y9 k9.length y9] 28)):=(Below.refl _ _).alloc (Nat.le_refl _) _;have HA:=hX hA;have HK1:=hX (Blk.new wr 28 #[.int .i64 k0,.int .i64 k1,.string k2,.string k3,.string k4,.slice Y5 k5.length y5,.slice Y6 k6.length y6,.int .i64 k7,.int .i64 k8,.slice Y9 k9.length y9]);have HB1:=hX (HBR.out.below hA HBR.out.lt);go_upto_region 4 with fail;clear a0 a1 a2 a3 a4 a5 a6 a7 a8 a9 hA
   generalize (wr.alloc (.cells #[.int .i64 k0,.int .i64 k1,.string k2,.string k3,.string k4,.slice Y5 k5.length y5,.slice Y6 k6.length y6,.int .i64 k7,.int .i64 k8,.slice Y9 k9.length y9] 28))=W1 at *;have hkk:k9.length*152≤140737488351232:=hkk
   obtain ⟨T,hT⟩:∃T:Bool,(decide (k1≠4) || (decide (k0≠8) || decide (32<ks.length - 1+k9.length)))=T:=⟨_,rfl⟩
   have HT:=hX hT;clear hT;have f0:W1.cell? ⟨wr.heap.size,0,none⟩=some (.int .i64 k0):=HK1.out.cell 0;have f1:W1.cell? ⟨wr.heap.size,1,none⟩=some (.int .i64 k1):=HK1.out.cell 1;have f9:W1.cell? ⟨wr.heap.size,9,none⟩=some (.slice Y9 k9.length y9):=HK1.out.cell 9;have q9:W1.cell? ⟨gb,9,none⟩=some (.slice (some ⟨g,0,none⟩) ks.length c3):=HB1.out.cell 9;go_cut [37] (fun c wx=>c = .bool T∧Hid (Below W1.heap.size W1 wx))
   case first=>
    by_cases hk1:k1=4
    ·subst hk1;by_cases hk0:k0=8
     ·subst hk0;by_cases hsz:32<ks.length - 1+k9.length
      ·obtain rfl:T=true:=by rw[←HT.out];simp[hsz]
       have d1:decide ((32:Int)<(ks.length:Int) - 1+(k9.length:Int))=true:=decide_eq_true (by omega);go_quiet (fail);go_wp2_with fail;go_meet;exact ⟨rfl,hX (below_drewN (Below.refl _ _) _)⟩
      ·obtain rfl:T=false:=by rw[←HT.out];simp[hsz]
       have d1:decide ((32:Int)<(ks.length:Int) - 1+(k9.length:Int))=false:=decide_eq_false (by omega);go_quiet (fail);go_wp2_with fail;go_meet;exact ⟨rfl,hX (below_drewN (Below.refl _ _) _)⟩
     ·obtain rfl:T=true:=by rw[←HT.out];simp[hk0]
      have d0:(k0 != 8)=true:=by rw[bne_iff_ne];exact hk0
      go_quiet (fail);go_wp2_with fail;go_meet;exact ⟨rfl,hX (below_drewN (Below.refl _ _) _)⟩
    ·obtain rfl:T=true:=by rw[←HT.out];simp[hk1]
     have d0:(k1 != 4)=true:=by rw[bne_iff_ne];exact hk1
     go_quiet (fail);go_wp2_with fail;go_meet;exact ⟨rfl,hX (below_drewN (Below.refl _ _) _)⟩
   case rest=>
   obtain ⟨rfl,HWC⟩:=hcut;have HAC:=hX (HA.out.trans (HWC.out.mono HA.out.size));have HK2:=hX (HK1.out.below HWC.out HK1.out.lt);have HB2:=hX (HB1.out.below HWC.out HB1.out.lt);have HWW:=hX (HW.out.trans (HAC.out.mono HW.out.size));clear f0 f1 f9 q9 HK1 HB1 HWC HA
   cases T with
   | true=>
    have HN2:=hX (HN.out (by
     have h:=HT.out;unfold RewP.opens;show (decide (k1=4) && decide (k0=8) && decide (ks.length - 1+k9.length≤32) && _)=false;by_cases e1:k1=4
     ·by_cases e0:k0=8
      ·have:¬(ks.length - 1+k9.length≤32):=by
        rw[e1,e0] at h;simp at h;omega
       rw[decide_eq_false this];simp
      ·rw[decide_eq_false e0];simp
     ·rw[decide_eq_false e1];simp))
    go_wp2_with fail;go_roundg (ks.length - (i+1))
    case measure=>omega
    case rel=>exact ⟨i+1,by go_num,rfl,by omega,HN2,HWW⟩
   | false=>
    obtain ⟨e1,e0,e32⟩:k1=4∧k0=8∧ks.length - 1+k9.length≤32:=(by have h:=HT.out;simp at h;exact ⟨h.1,h.2.1,by omega⟩)
    have HOP:Hid (opens ks.length (.mk k0 k1 k2 k3 k4 k5 k6 k7 k8 k9) = !k9.any fun x=>decide (oc x=2)):=hX (by
     unfold RewP.opens;show (decide (k1=4) && decide (k0=8) && decide (ks.length - 1+k9.length≤32) && _)=_
     rw[decide_eq_true e1,decide_eq_true e0,decide_eq_true e32];rfl)
    have HCQ:=hX (zex (fun x=>decide (oc x=2)) 139 #[] k9 Y9 y9 wc (At.below HAT.out HAC.out (fun x hx=>Nat.lt_of_lt_of_le hx HAC.out.size)) (fun _ _=>rfl) (fun _ _ us W _ hu=>zm3 hu))
    obtain ⟨a,ha⟩:∃a,(k9.any fun x=>decide (oc x=2))=a:=⟨_,rfl⟩
    rw[ha] at HCQ HOP;have f9:wc.cell? ⟨wr.heap.size,9,none⟩=some (.slice Y9 k9.length y9):=HK2.out.cell 9;clear ha e1 e0;go_wp2_with fail;refine HCQ.out.mono ?_;rintro e w3 ⟨rfl,hb⟩;have HA3:=hX (HAC.out.trans (hb.mono HAC.out.size));have HK3:=hX (HK2.out.below hb HK2.out.lt);have HB3:=hX (HB2.out.below hb HB2.out.lt);have HW3:=hX (HWW.out.trans (hb.mono HWW.out.size));clear hb f9 HCQ HAC HK2 HB2 HWW
    cases a with
    | true=>
     have HN2:=hX (HN.out (by rw[HOP.out];rfl));go_wp2_with fail;go_roundg (ks.length - (i+1))
     case measure=>omega
     case rel=>exact ⟨i+1,by go_num,rfl,by omega,HN2,HW3⟩
    | false=>
     have HY2:=hX (HY.out (by rw[HOP.out];rfl));have hic:i≤c3:=by omega
     have hi2:(i:Int)+1≤(ks.length:Int):=by omega
     have hi4:(0:Int)≤(i:Int)+1:=by omega
     have hwr:IntKind.wrap .i64 ((i:Int)+1)=(i:Int)+1:=by rw[IntKind.wrap_i64];omega
     go_upto_region 6 with fail;refine HeldU.zcl #[true,true,true,true,true,true,true,true,true,true,true,true,true,true,true,true,true,true,true,true,false,false,false,false] (fun V=>Below w3.heap.size w3 V) (by kernel_rfl) ((Below.refl _ _).drew) (fun hS0=>?_);refine' HeldU.tkU 0 (by simp only[tkD,tkE,tkG];rfl) (by kernel_rfl) (by exact fun _ _ _ h=>h) (by rfl) hS0 (by intro V hSw;clear hSw;go_simp;try with_reducible rfl) ?_;try simp only[Act.put,tkA,tkB,tkC]
     refine' HeldU.tkU 1 (by simp only[tkD,tkE,tkG];rfl) (by kernel_rfl) (by exact fun _ _ _ h=>h) (by rfl) hS0 (by intro V hSw;clear hSw;go_simp;try with_reducible rfl) ?_;try simp only[Act.put,tkA,tkB,tkC]
     refine' HeldU.tkU 2 (by simp only[tkD,tkE,tkG];rfl) (by kernel_rfl) (by exact fun _ _ _ h=>h) (by rfl) hS0 (by intro V hSw;clear hSw;go_simp;try with_reducible rfl) ?_;try simp only[Act.put,tkA,tkB,tkC]
     refine' HeldU.tkU 3 (by simp only[tkD,tkE,tkG];rfl) (by kernel_rfl) (by exact fun _ _ _ h=>h) (by rfl) hS0 (by intro V hSw;clear hSw;go_simp;try with_reducible rfl) ?_;try simp only[Act.put,tkA,tkB,tkC]
     refine' HeldU.tkU 4 (by simp only[tkD,tkE,tkG];rfl) (by kernel_rfl) (by exact fun _ _ _ h=>h) (by rfl) hS0 (by intro V hSw;clear hSw;go_simp;try with_reducible rfl) ?_;try simp only[Act.put,tkA,tkB,tkC]
     refine' HeldU.tkU 5 (by simp only[tkD,tkE,tkG];rfl) (by kernel_rfl) (by exact fun _ _ _ h=>h) (by rfl) hS0 (by intro V hSw;have fq:V.cell? ⟨gb,9,none⟩=some (.slice (some ⟨g,0,none⟩) ks.length c3):=(HB3.out.below hSw HB3.out.lt).cell 9;clear hSw;go_simp;try with_reducible rfl) ?_;try simp only[Act.put,tkA,tkB,tkC]
     refine' HeldU.tkU 6 (by simp only[tkD,tkE,tkG];rfl) (by kernel_rfl) (by exact fun _ _ _ h=>h) (by rfl) hS0 (by intro V hSw;clear hSw;go_simp;try with_reducible rfl) ?_;try simp only[Act.put,tkA,tkB,tkC]
     refine' HeldU.tkU 7 (by simp only[tkD,tkE,tkG];rfl) (by kernel_rfl) (by exact fun _ _ _ h=>h) (by rfl) hS0 (by intro V hSw;clear hSw;go_simp;try with_reducible rfl) ?_;try simp only[Act.put,tkA,tkB,tkC]
     refine' HeldU.tkU 8 (by simp only[tkD,tkE,tkG];rfl) (by kernel_rfl) (by exact fun _ _ _ h=>h) (by rfl) hS0 (by intro V hSw;clear hSw;go_simp;try with_reducible rfl) ?_;try simp only[Act.put,tkA,tkB,tkC]
     refine' HeldU.tkU 9 (by simp only[tkD,tkE,tkG];rfl) (by kernel_rfl) (by exact fun _ _ _ h=>h) (by rfl) hS0 (by intro V hSw;have fq:V.cell? ⟨wr.heap.size,9,none⟩=some (.slice Y9 k9.length y9):=(HK3.out.below hSw HK3.out.lt).cell 9;clear hSw;go_simp;try with_reducible rfl) ?_;try simp only[Act.put,tkA,tkB,tkC]
     refine' HeldU.tkU 10 (by simp only[tkD,tkE,tkG];rfl) (by kernel_rfl) (by exact fun _ _ _ h=>h) (by rfl) hS0 (by intro V hSw;clear hSw;go_simp;try with_reducible rfl) ?_;try simp only[Act.put,tkA,tkB,tkC]
     refine' HeldU.tkU 11 (by simp only[tkD,tkE,tkG];rfl) (by kernel_rfl) (by exact fun _ _ _ h=>h) (by rfl) hS0 (by intro V hSw;clear hSw;go_simp;try with_reducible rfl) ?_;try simp only[Act.put,tkA,tkB,tkC]
     refine' HeldU.tkU 12 (by simp only[tkD,tkE,tkG];rfl) (by kernel_rfl) (by exact fun _ _ _ h=>h) (by rfl) hS0 (by intro V hSw;clear hSw;go_simp;try with_reducible rfl) ?_;try simp only[Act.put,tkA,tkB,tkC]
     refine' HeldU.tkU 13 (by simp only[tkD,tkE,tkG];rfl) (by kernel_rfl) (by exact fun _ _ _ h=>h) (by rfl) hS0 (by intro V hSw;clear hSw;go_simp;try with_reducible rfl) ?_;try simp only[Act.put,tkA,tkB,tkC]
     refine' HeldU.tkU 14 (by simp only[tkD,tkE,tkG];rfl) (by kernel_rfl) (by exact fun _ _ _ h=>h) (by rfl) hS0 (by intro V hSw;have fq:V.cell? ⟨gb,9,none⟩=some (.slice (some ⟨g,0,none⟩) ks.length c3):=(HB3.out.below hSw HB3.out.lt).cell 9;clear hSw;go_simp;try with_reducible rfl) ?_;try simp only[Act.put,tkA,tkB,tkC]
     refine' HeldU.tkU 15 (by simp only[tkD,tkE,tkG];rfl) (by kernel_rfl) (by exact fun _ _ _ h=>h) (by rfl) hS0 (by intro V hSw;clear hSw;go_simp;try with_reducible rfl) ?_;try simp only[Act.put,tkA,tkB,tkC]
     refine' HeldU.tkU 16 (by simp only[tkD,tkE,tkG];rfl) (by kernel_rfl) (by exact fun _ _ _ h=>h) (by rfl) hS0 (by intro V hSw;clear hSw;go_simp;try with_reducible rfl) ?_;try simp only[Act.put,tkA,tkB,tkC]
     refine' HeldU.tkU 17 (by simp only[tkD,tkE,tkG];rfl) (by kernel_rfl) (by exact fun _ _ _ h=>h) (by rfl) hS0 (by intro V hSw;clear hSw;go_simp;try with_reducible rfl) ?_;try simp only[Act.put,tkA,tkB,tkC]
     refine' HeldU.zcx (i:=18) (by kernel_rfl) (by kernel_rfl) (by simp only[tkD,tkE,tkG];rfl) (fun K hK=>?_);go_simp;have hGA:Below w3.heap.size w3 ((w3.alloc (.cells #[.slice (some ⟨g,0,none⟩) i c3,.slice Y9 k9.length y9,.slice (if c3=i+1 then some ⟨g,0,none⟩ else some ⟨g,(i+1)*10,none⟩) (ks.length - (i+1)) (c3 - (i+1))] 26)).drew):=((Below.refl _ _).alloc (Nat.le_refl _) _).drew;have HGB:=hX ((Blk.new w3 26 #[.slice (some ⟨g,0,none⟩) i c3,.slice Y9 k9.length y9,.slice (if c3=i+1 then some ⟨g,0,none⟩ else some ⟨g,(i+1)*10,none⟩) (ks.length - (i+1)) (c3 - (i+1))]).drew);have HAG:=hX (HA3.out.trans (hGA.mono HA3.out.size));generalize ((w3.alloc (.cells #[.slice (some ⟨g,0,none⟩) i c3,.slice Y9 k9.length y9,.slice (if c3=i+1 then some ⟨g,0,none⟩ else some ⟨g,(i+1)*10,none⟩) (ks.length - (i+1)) (c3 - (i+1))] 26)).drew)=WG at *;refine hK.out _ _ hGA (fun hS1=>?_);clear hK K;try simp only[Act.put,tkA,tkB,tkC]
     refine' HeldU.zcx (i:=19) (by kernel_rfl) (by kernel_rfl) (by simp only[tkD,tkE,tkG];rfl) (fun K hK=>?_);go_simp;refine (zqv w3.heap.size (some ⟨g,0,none⟩) Y9 (if c3=i+1 then some ⟨g,0,none⟩ else some ⟨g,(i+1)*10,none⟩) i k9.length (ks.length - (i+1)) c3 y9 (c3 - (i+1)) y x2 z WG HGB.out ((HR1.out.1.below HAG.out).more HAG.out.size) ((HR2.out.1.below HAG.out).more HAG.out.size) ((HR3.out.1.below HAG.out).more HAG.out.size) HR1.out.2 HR2.out.2 HR3.out.2 (by omega)).mono ?_;rintro e V2 ⟨AN,cN,rfl,hown,hb⟩;have B2:=hX (Below.trans hS1 (hb.mono (hS1).size));have HLN:Hid ((ks.take i++(k9++ks.drop (i+1))).length=i+k9.length+(ks.length - (i+1))):=hX (by simp;omega);obtain ⟨bk1,hrow,hout⟩:=HF.out V2 AN cN _ rfl (HAG.out.trans (hb.mono HAG.out.size)) (zdr hown HAG.out.size);obtain ⟨bs2,hbst,hout2⟩:=HC.out V2 AN cN _ bk1 hrow (OutR.first HW.out hout);rw[HLN.out] at hbst hout2;have HBS:=hX hbst;have HOU:=hX hout2;have HB4:=hX (HB3.out.below (show Below w3.heap.size w3 V2 from B2.out) HB3.out.lt);clear hown hrow hout hbst hout2;clear hb;go_simp;refine hK.out _ _ B2.out (fun hS2=>?_);clear hK K;try simp only[Act.put,tkA,tkB,tkC]
     refine HeldU.zgk (by kernel_rfl) ?_;refine' tk 20 (by simp only[tkD,tkE,tkG];rfl) (by kernel_rfl) (by exact fun _ _ _ h=>h) (by rfl) trivial (by intro V hSw;clear hSw;go_simp;try with_reducible rfl) ?_;try simp only[Act.put,tkA,tkB,tkC]
     refine' tk 21 (by simp only[tkD,tkE,tkG];rfl) (by kernel_rfl) (by exact fun _ _ _ h=>h) (by rfl) trivial (by intro V hSw;clear hSw;go_simp;try with_reducible rfl) ?_;try simp only[Act.put,tkA,tkB,tkC]
     refine' tk 22 (by simp only[tkD,tkE,tkG];rfl) (by kernel_rfl) (by exact fun _ _ _ h=>h) (by rfl) trivial (by intro V hSw;clear hSw;go_simp;try with_reducible rfl) ?_;try simp only[Act.put,tkA,tkB,tkC]
     have q9:V2.cell? ⟨gb,9,none⟩=some (.slice (some ⟨g,0,none⟩) ks.length c3):=HB4.out.cell 9;have z9:V2.frozen? ⟨gb,9,none⟩=false:=HB4.out.frozen 9;refine wpAnyH_ready (rs:=[23]) (by kernel_rfl) (by simp) ?_;refine' AllReadyH.cons (by simp only[tkD,tkE,tkG];rfl) (fun K hK=>?_) AllReadyH.nil;go_simp;refine hK.out _ _ trivial (fun _=>?_);clear hK K;try simp only[Act.put,tkA,tkB,tkC]
     refine wpAnyH_done (by kernel_rfl) ?_ _;go_wp2_with fail
     all_goals
      go_ret;rw[HY2.out];exact ⟨_,bs2,rfl,HBS.out,HOU.out⟩
  ·obtain rfl:i=ks.length:=by omega
   have hrn:r=none:=(by have h:=HR.out;rw[List.drop_length,zbo] at h;exact h.symm)
   subst hrn;clear HR;go_wp2_with fail;go_ret;exact ⟨_,bs,rfl,HS.out.below HW.out,(OutR.refl HS.out.nd w).below HW.out⟩
end
end Go.Proofs.YtplkbdncgkgppaaGreatDoor.Qry
end
section
namespace Go.Proofs.YtplkbdncgkgppaaGreatDoor.Qry
open Go.RowKit Words Tree QryP Kit Owned
theorem ziq {sent:Nat→List (List Value)} {w:World} {S:Nat→Prop} {s n:Nat} {xs:List T} {v:Value} (h:T.At sent w S (.arr s n xs) v):∃A cap,v = .slice A n cap:=by
 simp only[T.At] at h;obtain ⟨A,cap,_,hv,_⟩:=h;exact ⟨A,cap,hv⟩
theorem zm4 (ks ks2:List QT) (AK BK:Option Addr) (cK dK:Nat) (w:World)
 (hEK:∀(i:Nat) (hi:i<ks.length),∃ad us,AK=some ad∧ad.block<w.heap.size∧T.AtL bare w (fun g=>g<w.heap.size) (cells ks[i]) us∧us.length=10∧zbv w (ad.add (i*10)) us)
 (hEB:∀(i:Nat) (hi:i<ks2.length),∃ad us,BK=some ad∧ad.block<w.heap.size∧T.AtL bare w (fun g=>g<w.heap.size) (cells ks2[i]) us∧us.length=10∧zbv w (ad.add (i*10)) us)
 (hks:ks.length*152≤140737488351232) (hks2:ks2.length*152≤140737488351232)
 (hIH:∀q∈ks,∀r∈ks2,∀(vs us:List Value) (W:World),T.AtL bare W (fun g=>g<W.heap.size) (cells q) vs→T.AtL bare W (fun g=>g<W.heap.size) (cells r) us→∀y:Bool,(y=true↔q=r)→Calls Tryz.prog 142 #[.agg vs.toArray,.agg us.toArray] W (BoolB y W))
 (x:Bool) (hx:x=true↔ks=ks2) :
 Calls Tryz.prog 166 #[.slice AK ks.length cK,.slice BK ks2.length dK,.func (.func 142) #[] #[]] w (BoolB x w):=by
 have EK:=hX hEK;have EB:=hX hEB;have IH:=hX hIH;have HX:=hX hx;clear hEK hEB hIH hx;by_cases hlen:ks.length=ks2.length
 ·have hl1:((ks.length:Int) != (ks2.length:Int))=false:=by rw[hlen];simp
  have HL:=hX hlen;clear hlen;go_enter Tryz.func166,Tryz.ntmps166;go_wp2_with fail;go_loopw [17] (fun i wr=>∃k:Nat,k≤ks.length∧i = .int .i64 k∧Hid (ks.take k=ks2.take k)∧Hid (Below w.heap.size w wr)) (fun i _=>ks.length - (intOf i).toNat);case atStart=>exact ⟨0,by omega,rfl,hX (by simp),hX (Below.refl _ _)⟩
  case round=>
   obtain ⟨k,hkk,rfl,HE,HW⟩:=hrel;by_cases hlt:k<ks.length
   ·have hlt2:k<ks2.length:=by have:=HL.out;omega
    have hwz:=HW.out.size;obtain ⟨ad,us,rfl,hba,au,lu,cu⟩:=EK.out k hlt;obtain ⟨bd,us2,rfl,hbb,au2,lu2,cu2⟩:=EB.out k hlt2;replace cu:=cu.keep (w':=wr) (fun p hp=>HW.out.cell (by rw[hp,zab];exact hba));replace cu2:=cu2.keep (w':=wr) (fun p hp=>HW.out.cell (by rw[hp,zab];exact hbb));have hab:(ad.add (k*10)).block<wr.heap.size:=by rw[zab];omega
    have hbb2:(bd.add (k*10)).block<wr.heap.size:=by rw[zab];omega
    have HST:Hid (ks.take (k+1)=ks.take k++[ks[k]]∧ks2.take (k+1)=ks2.take k++[ks2[k]]):=hX ⟨zbc hlt,zbc hlt2⟩
    have HNE:Hid (¬ks[k]=ks2[k]→x=false):=hX (fun h=>by
     rcases zap HX.out with ⟨e,_⟩ | ⟨_,e⟩
     ·exact absurd e (yax hlt hlt2 h)
     ·exact e)
    have hC:∀(y:Bool) (W:World),(y=true↔ks[k]=ks2[k])→Below w.heap.size w W→Calls Tryz.prog 142 #[.agg us.toArray,.agg us2.toArray] W (BoolB y W):=fun y W hy hW=>
     IH.out _ (List.getElem_mem hlt) _ (List.getElem_mem hlt2) us us2 W (AtL.below au hW (fun g hg=>Nat.lt_of_lt_of_le hg hW.size)) (AtL.below au2 hW (fun g hg=>Nat.lt_of_lt_of_le hg hW.size)) y hy
    have HC:=hX hC;clear hC;generalize hx1:ks[k]=q1 at *;generalize hx2:ks2[k]=q2 at *;clear hx1 hx2;have HQ:Hid (q1=q2∨¬q1=q2):=hX (Classical.em _);obtain ⟨k1,o1,f1,t1,u1,l1,h1,b1,p1,e1⟩:=q1;obtain ⟨k2,o2,f2',t2',u2',l2,h2,b2',p2,e2⟩:=q2;obtain ⟨x5,x6,x9,rfl,g5,g6,g9⟩:=zal au;obtain ⟨y5,y6,y9,rfl,g5',g6',g9'⟩:=zal au2;obtain ⟨X5,z5,rfl⟩:=ziq g5;obtain ⟨X6,z6,rfl⟩:=ziq g6;obtain ⟨X9,z9,rfl⟩:=ziq g9;obtain ⟨Y5,z5',rfl⟩:=ziq g5';obtain ⟨Y6,z6',rfl⟩:=ziq g6';obtain ⟨Y9,z9',rfl⟩:=ziq g9';clear g5 g6 g9 g5' g6' g9';obtain ⟨a0,a1,a2,a3,a4,a5,a6,a7,a8,a9⟩:=ten cu;obtain ⟨b0,b1'',b2'',b3,b4,b5,b6,b7,b8,b9⟩:=ten cu2;clear cu cu2 au au2 lu lu2;rcases HQ.out with hq | hq
    ·have HQ2:=hX hq;have hy:(true:Bool)=true↔QT.mk k1 o1 f1 t1 u1 l1 h1 b1 p1 e1=QT.mk k2 o2 f2' t2' u2' l2 h2 b2' p2 e2:=by simpa using hq
     have HC2:Hid (∀W,Below w.heap.size w W→_):=hX (fun W hW=>HC.out true W hy hW);clear hq hy HC HQ;go_wp2_with fail;refine (HC2.out _ ?hcb).mono ?_;case hcb=>exact (HW.out.alloc HW.out.size _).alloc (by have:=HW.out.size;simp;omega) _
     rintro e W2 ⟨rfl,bW⟩;have BW:Hid (Below w.heap.size w W2):=hX (((HW.out.alloc HW.out.size _).alloc (by have:=HW.out.size;simp;omega) _).trans (bW.mono (by have:=HW.out.size;simp;omega)));clear bW a0 a1 a2 a3 a4 a5 a6 a7 a8 a9 b0 b1'' b2'' b3 b4 b5 b6 b7 b8 b9;go_wp2_with fail;go_roundw;case rel=>exact ⟨k+1,by omega,by go_num,hX (by rw[HST.out.1,HST.out.2,HE.out,HQ2.out]),BW⟩
     case measure=>simp[intOf];omega
    ·have HF:=hX (HNE.out hq);have hy:(false:Bool)=true↔QT.mk k1 o1 f1 t1 u1 l1 h1 b1 p1 e1=QT.mk k2 o2 f2' t2' u2' l2 h2 b2' p2 e2:=by simpa using hq
     have HC2:Hid (∀W,Below w.heap.size w W→_):=hX (fun W hW=>HC.out false W hy hW);clear hq hy HC HQ;go_wp2_with fail;refine (HC2.out _ ?hcb).mono ?_;case hcb=>exact (HW.out.alloc HW.out.size _).alloc (by have:=HW.out.size;simp;omega) _
     rintro e W2 ⟨rfl,bW⟩;have BW:Hid (Below w.heap.size w W2):=hX (((HW.out.alloc HW.out.size _).alloc (by have:=HW.out.size;simp;omega) _).trans (bW.mono (by have:=HW.out.size;simp;omega)));clear bW a0 a1 a2 a3 a4 a5 a6 a7 a8 a9 b0 b1'' b2'' b3 b4 b5 b6 b7 b8 b9;go_wp2_with fail;go_ret;rw[HF.out];exact ⟨rfl,BW.out⟩
   ·obtain rfl:k=ks.length:=by omega
    have HT:Hid (x=true):=hX (HX.out.2 (zr1 HE.out HL.out));go_wp2_with fail;go_ret;rw[HT.out];exact ⟨rfl,HW.out⟩
 ·have hbne:((ks.length:Int) != (ks2.length:Int))=true:=by rw[bne_iff_ne];omega
  have HRF:Hid (x=false):=hX (by
   rcases zap HX.out with ⟨e,_⟩ | ⟨_,e⟩
   ·exact absurd (by rw[e]) hlen
   ·exact e)
  clear hlen;go_enter Tryz.func166,Tryz.ntmps166;go_wp2_with fail;go_ret;rw[HRF.out];exact ⟨rfl,Below.refl _ _⟩
theorem ztw {kd oc kd2 oc2:Int} {f t u f2 t2 u2:ByteArray} {lo hi lo2 hi2:List Int} {b op b2 op2:Int} {ks ks2:List QT} :
 (¬kd=kd2)∨(kd=kd2∧¬oc=oc2)∨(kd=kd2∧oc=oc2∧¬f=f2)∨(kd=kd2∧oc=oc2∧f=f2∧¬t=t2)∨(kd=kd2∧oc=oc2∧f=f2∧t=t2∧¬u=u2)∨(kd=kd2∧oc=oc2∧f=f2∧t=t2∧u=u2∧¬lo=lo2)∨(kd=kd2∧oc=oc2∧f=f2∧t=t2∧u=u2∧lo=lo2∧¬hi=hi2)∨(kd=kd2∧oc=oc2∧f=f2∧t=t2∧u=u2∧lo=lo2∧hi=hi2∧¬b=b2)∨(kd=kd2∧oc=oc2∧f=f2∧t=t2∧u=u2∧lo=lo2∧hi=hi2∧b=b2∧¬op=op2)∨(kd=kd2∧oc=oc2∧f=f2∧t=t2∧u=u2∧lo=lo2∧hi=hi2∧b=b2∧op=op2∧¬ks=ks2)∨(kd=kd2∧oc=oc2∧f=f2∧t=t2∧u=u2∧lo=lo2∧hi=hi2∧b=b2∧op=op2∧ks=ks2):=by
 by_cases h0:kd=kd2;rotate_left
 ·exact .inl h0
 by_cases h1:oc=oc2;rotate_left
 ·exact .inr (.inl ⟨h0,h1⟩)
 by_cases h2:f=f2;rotate_left
 ·exact .inr (.inr (.inl ⟨h0,h1,h2⟩))
 by_cases h3:t=t2;rotate_left
 ·exact .inr (.inr (.inr (.inl ⟨h0,h1,h2,h3⟩)))
 by_cases h4:u=u2;rotate_left
 ·exact .inr (.inr (.inr (.inr (.inl ⟨h0,h1,h2,h3,h4⟩))))
 by_cases h5:lo=lo2;rotate_left
 ·exact .inr (.inr (.inr (.inr (.inr (.inl ⟨h0,h1,h2,h3,h4,h5⟩)))))
 by_cases h6:hi=hi2;rotate_left
 ·exact .inr (.inr (.inr (.inr (.inr (.inr (.inl ⟨h0,h1,h2,h3,h4,h5,h6⟩))))))
 by_cases h7:b=b2;rotate_left
 ·exact .inr (.inr (.inr (.inr (.inr (.inr (.inr (.inl ⟨h0,h1,h2,h3,h4,h5,h6,h7⟩)))))))
 by_cases h8:op=op2;rotate_left
 ·exact .inr (.inr (.inr (.inr (.inr (.inr (.inr (.inr (.inl ⟨h0,h1,h2,h3,h4,h5,h6,h7,h8⟩))))))))
 by_cases h9:ks=ks2;rotate_left
 ·exact .inr (.inr (.inr (.inr (.inr (.inr (.inr (.inr (.inr (.inl ⟨h0,h1,h2,h3,h4,h5,h6,h7,h8,h9⟩)))))))))
 exact .inr (.inr (.inr (.inr (.inr (.inr (.inr (.inr (.inr (.inr ⟨h0,h1,h2,h3,h4,h5,h6,h7,h8,h9⟩)))))))))
theorem zw7:∀(n:Nat) (q r:QT) (vs us:List Value) (w:World),q.sz≤n→Ok q→Ok r→T.AtL bare w (fun g=>g<w.heap.size) (cells q) vs→T.AtL bare w (fun g=>g<w.heap.size) (cells r) us→
 ∀x:Bool,(x=true↔q=r)→Calls Tryz.prog 142 #[.agg vs.toArray,.agg us.toArray] w (BoolB x w):=by
 intro n
 induction n with
 | zero=>intro q r vs us w hs;have:=q.sz_pos;omega
 | succ n ih=>
 intro q r vs us w hs hq hr hv hu x hx
 cases hq with
 | @mk kd oc f t u lo hi b op ks hkd hoc hf ht hu' hlo hhi hb hop hks hk=>
 cases hr with
 | @mk kd2 oc2 f2 t2 u2 lo2 hi2 b2 op2 ks2 hkd2 hoc2 hf2 ht2 hu2 hlo2 hhi2 hb2 hop2 hks2 hk2=>
 obtain ⟨vl,vh,vk,rfl,hvl,hvh,hvk⟩:=zal hv;obtain ⟨ul,uh,uk,rfl,hul,huh,huk⟩:=zal hu;obtain ⟨A1,c1,rfl,_,_,r1⟩:=zau hvl;obtain ⟨A2,c2,rfl,_,_,r2⟩:=zau hvh;obtain ⟨B1,d1,rfl,_,_,s1⟩:=zau hul;obtain ⟨B2,d2,rfl,_,_,s2⟩:=zau huh;have hKS:∀y:Bool,(y=true↔ks=ks2)→∀W,Below w.heap.size w W→Calls Tryz.prog 166 #[vk,uk,.func (.func 142) #[] #[]] W (BoolB y W):=fun y hy W hW=>by obtain ⟨AK,cK,rfl,_,hmK,eK⟩:=zc9 (At.below hvk hW (fun g hg=>Nat.lt_of_lt_of_le hg hW.size));obtain ⟨BK,dK,rfl,_,hmB,eB⟩:=zc9 (At.below huk hW (fun g hg=>Nat.lt_of_lt_of_le hg hW.size));refine zm4 ks ks2 AK BK cK dK W eK eB hks hks2 (fun q hq r hr vs us W' h1 h2 y' hy'=>ih q r vs us W' ?_ (hk q hq) (hk2 r hr) h1 h2 y' hy') y hy;have:=QT.sz_kid (kd:=kd) (oc:=oc) (f:=f) (t:=t) (u:=u) (lo:=lo) (hi:=hi) (b:=b) (op:=op) hq;omega
 have hLO:∀y:Bool,(y=true↔lo=lo2)→∀W,Below w.heap.size w W→Calls Tryz.prog 165 #[.slice A1 lo.length c1,.slice B1 lo2.length d1] W (BoolB y W):=fun y hy W hW=>
  zn9 _ _ _ _ _ _ W ((r1.below hW).more hW.size) ((s1.below hW).more hW.size) hlo.1 hlo2.1 y hy
 have hHI:∀y:Bool,(y=true↔hi=hi2)→∀W,Below w.heap.size w W→Calls Tryz.prog 165 #[.slice A2 hi.length c2,.slice B2 hi2.length d2] W (BoolB y W):=fun y hy W hW=>
  zn9 _ _ _ _ _ _ W ((r2.below hW).more hW.size) ((s2.below hW).more hW.size) hhi.1 hhi2.1 y hy
 have LO:=hX hLO;have HI:=hX hHI;have KS:=hX hKS;have HX:=hX hx;clear ih hLO hHI hKS hx hk hk2 hv hu hvl hvh hvk hul huh huk r1 r2 s1 s2 hkd hoc hf ht hu' hlo hhi hb hop hkd2 hoc2 hf2 ht2 hu2 hlo2 hhi2 hb2 hop2 hs hks hks2
 rcases @ztw kd oc kd2 oc2 f t u f2 t2 u2 lo hi lo2 hi2 b op b2 op2 ks ks2 with hd | ⟨rfl,hd⟩ | ⟨rfl,rfl,hd⟩ | ⟨rfl,rfl,rfl,hd⟩ | ⟨rfl,rfl,rfl,rfl,hd⟩ | ⟨rfl,rfl,rfl,rfl,rfl,hd⟩ | ⟨rfl,rfl,rfl,rfl,rfl,rfl,hd⟩ | ⟨rfl,rfl,rfl,rfl,rfl,rfl,rfl,hd⟩ | ⟨rfl,rfl,rfl,rfl,rfl,rfl,rfl,rfl,hd⟩ | ⟨rfl,rfl,rfl,rfl,rfl,rfl,rfl,rfl,rfl,hd⟩ | ⟨rfl,rfl,rfl,rfl,rfl,rfl,rfl,rfl,rfl,rfl⟩
 ·have HXF:Hid (x=false):=hX (by rcases zap HX.out with ⟨e,_⟩ | ⟨_,e⟩;exact absurd e (by simp only[QT.mk.injEq,not_and];intros;first | exact absurd ‹_› hd | (rintro rfl;exact hd rfl));exact e);obtain ⟨hn1,hn2⟩:=zfg hd;clear hd;go_enter Tryz.func142,Tryz.ntmps142;go_wp2_with fail;go_ret;rw[HXF.out];exact ⟨rfl,below2 _ _⟩
 ·have HXF:Hid (x=false):=hX (by rcases zap HX.out with ⟨e,_⟩ | ⟨_,e⟩;exact absurd e (by simp only[QT.mk.injEq,not_and];intros;first | exact absurd ‹_› hd | (rintro rfl;exact hd rfl));exact e);obtain ⟨hn1,hn2⟩:=zfg hd;clear hd;go_enter Tryz.func142,Tryz.ntmps142;go_wp2_with fail;go_ret;rw[HXF.out];exact ⟨rfl,below2 _ _⟩
 ·have HXF:Hid (x=false):=hX (by rcases zap HX.out with ⟨e,_⟩ | ⟨_,e⟩;exact absurd e (by simp only[QT.mk.injEq,not_and];intros;first | exact absurd ‹_› hd | (rintro rfl;exact hd rfl));exact e);obtain ⟨hn1,hn2⟩:=zia hd;clear hd;go_enter Tryz.func142,Tryz.ntmps142;go_wp2_with fail;go_ret;rw[HXF.out];exact ⟨rfl,below2 _ _⟩
 ·have HXF:Hid (x=false):=hX (by rcases zap HX.out with ⟨e,_⟩ | ⟨_,e⟩;exact absurd e (by simp only[QT.mk.injEq,not_and];intros;first | exact absurd ‹_› hd | (rintro rfl;exact hd rfl));exact e);obtain ⟨hn1,hn2⟩:=zia hd;clear hd;go_enter Tryz.func142,Tryz.ntmps142;go_wp2_with fail;go_ret;rw[HXF.out];exact ⟨rfl,below2 _ _⟩
 ·have HXF:Hid (x=false):=hX (by rcases zap HX.out with ⟨e,_⟩ | ⟨_,e⟩;exact absurd e (by simp only[QT.mk.injEq,not_and];intros;first | exact absurd ‹_› hd | (rintro rfl;exact hd rfl));exact e);obtain ⟨hn1,hn2⟩:=zia hd;clear hd;go_enter Tryz.func142,Tryz.ntmps142;go_wp2_with fail;go_ret;rw[HXF.out];exact ⟨rfl,below2 _ _⟩
 ·have HXF:Hid (x=false):=hX (by rcases zap HX.out with ⟨e,_⟩ | ⟨_,e⟩;exact absurd e (by simp only[QT.mk.injEq,not_and];intros;first | exact absurd ‹_› hd | (rintro rfl;exact hd rfl));exact e);go_enter Tryz.func142,Tryz.ntmps142;go_wp2_with fail;refine (LO.out false (by simpa using hd) _ (below2 _ _)).mono ?_;rintro e W0 ⟨rfl,b0⟩;have HB0:=hX ((below2 _ _).trans (b0.mono (by simp;omega)):Below w.heap.size w W0);have BA0:=hX ((zg0 _ _ _ _ _).below b0 (by simp;omega));have BB0:=hX ((blk_b _ _ _ _ _).below b0 (by simp));obtain ⟨p0_0,p0_1,p0_2,p0_3,p0_4,p0_5,p0_6,p0_7,p0_8,p0_9⟩:=zas BA0.out;obtain ⟨q0_0,q0_1,q0_2,q0_3,q0_4,q0_5,q0_6,q0_7,q0_8,q0_9⟩:=zas BB0.out;clear b0;go_wp2_with fail;go_ret;rw[HXF.out];exact ⟨rfl,HB0.out⟩
 ·have HXF:Hid (x=false):=hX (by rcases zap HX.out with ⟨e,_⟩ | ⟨_,e⟩;exact absurd e (by simp only[QT.mk.injEq,not_and];intros;first | exact absurd ‹_› hd | (rintro rfl;exact hd rfl));exact e);go_enter Tryz.func142,Tryz.ntmps142;go_wp2_with fail;refine (LO.out true (by simp) _ (below2 _ _)).mono ?_;rintro e W0 ⟨rfl,b0⟩;have HB0:=hX ((below2 _ _).trans (b0.mono (by simp;omega)):Below w.heap.size w W0);have BA0:=hX ((zg0 _ _ _ _ _).below b0 (by simp;omega));have BB0:=hX ((blk_b _ _ _ _ _).below b0 (by simp));obtain ⟨p0_0,p0_1,p0_2,p0_3,p0_4,p0_5,p0_6,p0_7,p0_8,p0_9⟩:=zas BA0.out;obtain ⟨q0_0,q0_1,q0_2,q0_3,q0_4,q0_5,q0_6,q0_7,q0_8,q0_9⟩:=zas BB0.out;clear b0;go_wp2_with fail;refine (HI.out false (by simpa using hd) _ HB0.out).mono ?_;rintro e W1 ⟨rfl,b1⟩;have HB1:=hX (HB0.out.trans (b1.mono HB0.out.size));have BA1:=hX ((BA0.out).below b1 (BA0.out).lt);have BB1:=hX ((BB0.out).below b1 (BB0.out).lt);clear p0_0 q0_0 p0_1 q0_1 p0_2 q0_2 p0_3 q0_3 p0_4 q0_4 p0_5 q0_5 p0_6 q0_6 p0_7 q0_7 p0_8 q0_8 p0_9 q0_9;obtain ⟨p1_0,p1_1,p1_2,p1_3,p1_4,p1_5,p1_6,p1_7,p1_8,p1_9⟩:=zas BA1.out;obtain ⟨q1_0,q1_1,q1_2,q1_3,q1_4,q1_5,q1_6,q1_7,q1_8,q1_9⟩:=zas BB1.out;clear b1;go_wp2_with fail;go_ret;rw[HXF.out];exact ⟨rfl,HB1.out⟩
 ·have HXF:Hid (x=false):=hX (by rcases zap HX.out with ⟨e,_⟩ | ⟨_,e⟩;exact absurd e (by simp only[QT.mk.injEq,not_and];intros;first | exact absurd ‹_› hd | (rintro rfl;exact hd rfl));exact e);obtain ⟨hn1,hn2⟩:=zfg hd;clear hd;go_enter Tryz.func142,Tryz.ntmps142;go_wp2_with fail;refine (LO.out true (by simp) _ (below2 _ _)).mono ?_;rintro e W0 ⟨rfl,b0⟩;have HB0:=hX ((below2 _ _).trans (b0.mono (by simp;omega)):Below w.heap.size w W0);have BA0:=hX ((zg0 _ _ _ _ _).below b0 (by simp;omega));have BB0:=hX ((blk_b _ _ _ _ _).below b0 (by simp));obtain ⟨p0_0,p0_1,p0_2,p0_3,p0_4,p0_5,p0_6,p0_7,p0_8,p0_9⟩:=zas BA0.out;obtain ⟨q0_0,q0_1,q0_2,q0_3,q0_4,q0_5,q0_6,q0_7,q0_8,q0_9⟩:=zas BB0.out;clear b0;go_wp2_with fail;refine (HI.out true (by simp) _ HB0.out).mono ?_;rintro e W1 ⟨rfl,b1⟩;have HB1:=hX (HB0.out.trans (b1.mono HB0.out.size));have BA1:=hX ((BA0.out).below b1 (BA0.out).lt);have BB1:=hX ((BB0.out).below b1 (BB0.out).lt);clear p0_0 q0_0 p0_1 q0_1 p0_2 q0_2 p0_3 q0_3 p0_4 q0_4 p0_5 q0_5 p0_6 q0_6 p0_7 q0_7 p0_8 q0_8 p0_9 q0_9;obtain ⟨p1_0,p1_1,p1_2,p1_3,p1_4,p1_5,p1_6,p1_7,p1_8,p1_9⟩:=zas BA1.out;obtain ⟨q1_0,q1_1,q1_2,q1_3,q1_4,q1_5,q1_6,q1_7,q1_8,q1_9⟩:=zas BB1.out;clear b1;go_wp2_with fail;go_ret;rw[HXF.out];exact ⟨rfl,HB1.out⟩
 ·have HXF:Hid (x=false):=hX (by rcases zap HX.out with ⟨e,_⟩ | ⟨_,e⟩;exact absurd e (by simp only[QT.mk.injEq,not_and];intros;first | exact absurd ‹_› hd | (rintro rfl;exact hd rfl));exact e);obtain ⟨hn1,hn2⟩:=zfg hd;clear hd;go_enter Tryz.func142,Tryz.ntmps142;go_wp2_with fail;refine (LO.out true (by simp) _ (below2 _ _)).mono ?_;rintro e W0 ⟨rfl,b0⟩;have HB0:=hX ((below2 _ _).trans (b0.mono (by simp;omega)):Below w.heap.size w W0);have BA0:=hX ((zg0 _ _ _ _ _).below b0 (by simp;omega));have BB0:=hX ((blk_b _ _ _ _ _).below b0 (by simp));obtain ⟨p0_0,p0_1,p0_2,p0_3,p0_4,p0_5,p0_6,p0_7,p0_8,p0_9⟩:=zas BA0.out;obtain ⟨q0_0,q0_1,q0_2,q0_3,q0_4,q0_5,q0_6,q0_7,q0_8,q0_9⟩:=zas BB0.out;clear b0;go_wp2_with fail;refine (HI.out true (by simp) _ HB0.out).mono ?_;rintro e W1 ⟨rfl,b1⟩;have HB1:=hX (HB0.out.trans (b1.mono HB0.out.size));have BA1:=hX ((BA0.out).below b1 (BA0.out).lt);have BB1:=hX ((BB0.out).below b1 (BB0.out).lt);clear p0_0 q0_0 p0_1 q0_1 p0_2 q0_2 p0_3 q0_3 p0_4 q0_4 p0_5 q0_5 p0_6 q0_6 p0_7 q0_7 p0_8 q0_8 p0_9 q0_9;obtain ⟨p1_0,p1_1,p1_2,p1_3,p1_4,p1_5,p1_6,p1_7,p1_8,p1_9⟩:=zas BA1.out;obtain ⟨q1_0,q1_1,q1_2,q1_3,q1_4,q1_5,q1_6,q1_7,q1_8,q1_9⟩:=zas BB1.out;clear b1;go_wp2_with fail;go_ret;rw[HXF.out];exact ⟨rfl,HB1.out⟩
 ·have HXF:Hid (x=false):=hX (by rcases zap HX.out with ⟨e,_⟩ | ⟨_,e⟩;exact absurd e (by simp only[QT.mk.injEq,not_and];intros;first | exact absurd ‹_› hd | (rintro rfl;exact hd rfl));exact e);go_enter Tryz.func142,Tryz.ntmps142;go_wp2_with fail;refine (LO.out true (by simp) _ (below2 _ _)).mono ?_;rintro e W0 ⟨rfl,b0⟩;have HB0:=hX ((below2 _ _).trans (b0.mono (by simp;omega)):Below w.heap.size w W0);have BA0:=hX ((zg0 _ _ _ _ _).below b0 (by simp;omega));have BB0:=hX ((blk_b _ _ _ _ _).below b0 (by simp));obtain ⟨p0_0,p0_1,p0_2,p0_3,p0_4,p0_5,p0_6,p0_7,p0_8,p0_9⟩:=zas BA0.out;obtain ⟨q0_0,q0_1,q0_2,q0_3,q0_4,q0_5,q0_6,q0_7,q0_8,q0_9⟩:=zas BB0.out;clear b0;go_wp2_with fail;refine (HI.out true (by simp) _ HB0.out).mono ?_;rintro e W1 ⟨rfl,b1⟩;have HB1:=hX (HB0.out.trans (b1.mono HB0.out.size));have BA1:=hX ((BA0.out).below b1 (BA0.out).lt);have BB1:=hX ((BB0.out).below b1 (BB0.out).lt);clear p0_0 q0_0 p0_1 q0_1 p0_2 q0_2 p0_3 q0_3 p0_4 q0_4 p0_5 q0_5 p0_6 q0_6 p0_7 q0_7 p0_8 q0_8 p0_9 q0_9;obtain ⟨p1_0,p1_1,p1_2,p1_3,p1_4,p1_5,p1_6,p1_7,p1_8,p1_9⟩:=zas BA1.out;obtain ⟨q1_0,q1_1,q1_2,q1_3,q1_4,q1_5,q1_6,q1_7,q1_8,q1_9⟩:=zas BB1.out;clear b1;go_wp2_with fail;refine (KS.out false (by simpa using hd) _ HB1.out).mono ?_;rintro e W2 ⟨rfl,b2⟩;have HB2:=hX (HB1.out.trans (b2.mono HB1.out.size));have BA2:=hX ((BA1.out).below b2 (BA1.out).lt);have BB2:=hX ((BB1.out).below b2 (BB1.out).lt)
  clear p1_0 q1_0 p1_1 q1_1 p1_2 q1_2 p1_3 q1_3 p1_4 q1_4 p1_5 q1_5 p1_6 q1_6 p1_7 q1_7 p1_8 q1_8 p1_9 q1_9;obtain ⟨p2_0,p2_1,p2_2,p2_3,p2_4,p2_5,p2_6,p2_7,p2_8,p2_9⟩:=zas BA2.out;obtain ⟨q2_0,q2_1,q2_2,q2_3,q2_4,q2_5,q2_6,q2_7,q2_8,q2_9⟩:=zas BB2.out;clear b2;go_wp2_with fail;go_ret;rw[HXF.out];exact ⟨rfl,HB2.out⟩
 ·have HXF:Hid (x=true):=hX (HX.out.2 rfl);go_enter Tryz.func142,Tryz.ntmps142;go_wp2_with fail;refine (LO.out true (by simp) _ (below2 _ _)).mono ?_;rintro e W0 ⟨rfl,b0⟩;have HB0:=hX ((below2 _ _).trans (b0.mono (by simp;omega)):Below w.heap.size w W0);have BA0:=hX ((zg0 _ _ _ _ _).below b0 (by simp;omega));have BB0:=hX ((blk_b _ _ _ _ _).below b0 (by simp));obtain ⟨p0_0,p0_1,p0_2,p0_3,p0_4,p0_5,p0_6,p0_7,p0_8,p0_9⟩:=zas BA0.out;obtain ⟨q0_0,q0_1,q0_2,q0_3,q0_4,q0_5,q0_6,q0_7,q0_8,q0_9⟩:=zas BB0.out;clear b0;go_wp2_with fail;refine (HI.out true (by simp) _ HB0.out).mono ?_;rintro e W1 ⟨rfl,b1⟩;have HB1:=hX (HB0.out.trans (b1.mono HB0.out.size));have BA1:=hX ((BA0.out).below b1 (BA0.out).lt);have BB1:=hX ((BB0.out).below b1 (BB0.out).lt);clear p0_0 q0_0 p0_1 q0_1 p0_2 q0_2 p0_3 q0_3 p0_4 q0_4 p0_5 q0_5 p0_6 q0_6 p0_7 q0_7 p0_8 q0_8 p0_9 q0_9;obtain ⟨p1_0,p1_1,p1_2,p1_3,p1_4,p1_5,p1_6,p1_7,p1_8,p1_9⟩:=zas BA1.out;obtain ⟨q1_0,q1_1,q1_2,q1_3,q1_4,q1_5,q1_6,q1_7,q1_8,q1_9⟩:=zas BB1.out;clear b1;go_wp2_with fail;refine (KS.out true (by simp) _ HB1.out).mono ?_;rintro e W2 ⟨rfl,b2⟩;have HB2:=hX (HB1.out.trans (b2.mono HB1.out.size));have BA2:=hX ((BA1.out).below b2 (BA1.out).lt);have BB2:=hX ((BB1.out).below b2 (BB1.out).lt);clear p1_0 q1_0 p1_1 q1_1 p1_2 q1_2 p1_3 q1_3 p1_4 q1_4 p1_5 q1_5 p1_6 q1_6 p1_7 q1_7 p1_8 q1_8 p1_9 q1_9;obtain ⟨p2_0,p2_1,p2_2,p2_3,p2_4,p2_5,p2_6,p2_7,p2_8,p2_9⟩:=zas BA2.out
  obtain ⟨q2_0,q2_1,q2_2,q2_3,q2_4,q2_5,q2_6,q2_7,q2_8,q2_9⟩:=zas BB2.out;clear b2;go_wp2_with fail;go_ret;rw[HXF.out];exact ⟨rfl,HB2.out⟩
end Go.Proofs.YtplkbdncgkgppaaGreatDoor.Qry
end
