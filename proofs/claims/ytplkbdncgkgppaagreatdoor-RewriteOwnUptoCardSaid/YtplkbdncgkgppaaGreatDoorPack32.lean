/- Lemmas that the last text leans on. -/
import Derived.Test.YtplkbdncgkgppaaGreatDoorTake
import Derived.Test.YtplkbdncgkgppaaGreatDoorPack31
import Derived.ScopeJumps
set_option linter.all false
set_option maxRecDepth 100000
set_option maxHeartbeats 8000000
section
namespace Go.Proofs.YtplkbdncgkgppaaGreatDoor.Qry
open Go.RowKit Words Tree QryP Kit Owned Sch RewP Ana
theorem zw8 (x k:QT) (us uk:List Value) (gk:Nat) (w:World) (hx:Ok x) (hk:Ok k) (ax:T.AtL bare w (fun g=>g<w.heap.size) (cells x) us) (ak:T.AtL bare w (fun g=>g<w.heap.size) (cells k) uk) (hb:Blk w gk 28 uk.toArray) :
 Calls Tryz.prog 141 #[.agg us.toArray,.pointer (some ⟨gk,0,none⟩)] w (ze2 (zjd x k) w):=by
 have hA:Below w.heap.size w (w.alloc (.cells us.toArray 28)):=(Below.refl _ w).alloc (Nat.le_refl _) _;have HA:=hX hA;have HS:=hX (zw7 x.sz x k us uk (w.alloc (.cells us.toArray 28)) (Nat.le_refl _) hx hk (AtL.below ax hA (fun g hg=>Nat.lt_of_lt_of_le hg hA.size)) (AtL.below ak hA (fun g hg=>Nat.lt_of_lt_of_le hg hA.size)) (zjd x k) (zor x k));generalize zjd x k=r at *;have HBX:=hX (Blk.new w 28 us.toArray);have HBK:=hX (hb.below hA hb.lt);have hgk:=hb.lt;obtain ⟨x0,x1,x7,x8,x2,x3,x4,x5,x6,x9,A1,A2,A3,c1,c2,c3,rfl,rfl⟩:=zcb ax;obtain ⟨k0,k1,k7,k8,k2,k3,k4,k5,k6,k9,B1,B2,B3,d1,d2,d3,rfl,rfl⟩:=zcb ak;obtain ⟨f0,f1,f2,f3,f4,f5,f6,f7,f8,f9⟩:=zas HBK.out;clear hx hk ax ak hb hA;go_enter Tryz.func141,Tryz.ntmps141;go_wp2_with fail;refine HS.out.mono ?_;rintro e w1 ⟨rfl,hb⟩;have HB:=hX (HA.out.trans (hb.mono HA.out.size));clear hb f0 f1 f2 f3 f4 f5 f6 f7 f8 f9;go_wp2_with fail;go_ret;exact ⟨rfl,HB.out⟩
structure OnceK (w:World) (B:Nat) (ks:List QT) (xs:List Value) (bx:List Nat) (i:Nat) (outl:List QT) (vo:Value) (wr:World):Prop where
 own:∃ys bo x1 x2 b1 b2,wr.ownsRow w.heap.size 28 10 vo outl.length ys∧OQL wr B outl ys bo∧bo.Sublist b1∧xs=x1++x2∧bx=b1++b2∧OQL w B (ks.take i) x1 b1∧OQL w B (ks.drop i) x2 b2
 bel:Below w.heap.size w wr
section
variable {w wr w2:World} {B i:Nat} {ks outl:List QT} {xs:List Value} {bx:List Nat} {vo:Value}
theorem OnceK.below (h:OnceK w B ks xs bx i outl vo wr) (hb:Below wr.heap.size wr w2):OnceK w B ks xs bx i outl vo w2:=by
 obtain ⟨ys,bo,x1,x2,b1,b2,h1,h2,h3⟩:=h.own;exact ⟨⟨ys,bo,x1,x2,b1,b2,zbb h1 hb,h2.below hb (Nat.le_refl _),h3⟩,h.bel.trans (hb.mono h.bel.size)⟩
theorem OnceK.start (h:OQL w B ks xs bx):OnceK w B ks xs bx 0 [] (.slice none 0 0) w:=⟨⟨[],[],[],xs,[],bx,World.ownsRow_nil _ _ _ _,OQL.nil_,List.Sublist.refl _,rfl,rfl,OQL.nil_,h⟩,Below.refl _ _⟩
theorem OnceK.skip (h:OnceK w B ks xs bx i outl vo wr) (hi:i<ks.length):OnceK w B ks xs bx (i+1) outl vo wr:=by
 obtain ⟨ys,bo,x1,x2,b1,b2,h1,h2,h3,rfl,rfl,h4,h5⟩:=h.own;rw[List.drop_eq_getElem_cons hi,OQL] at h5;obtain ⟨us,x3,bq,b3,rfl,rfl,hq,hr⟩:=h5;exact ⟨⟨ys,bo,x1++us,x3,b1++bq,b3,h1,h2,h3.trans (List.sublist_append_left _ _),by simp,by simp,by rw[zbc hi];exact OQL.snoc h4 hq,hr⟩,h.bel⟩
theorem OnceK.keep_ (h:OnceK w B ks xs bx i outl vo wr) (hi:i<ks.length):∃us,T.AtL bare wr (fun x=>x<wr.heap.size) (cells ks[i]) us∧us.length=10∧(∀u∈us,u.oneCell'=true)∧(∀j u,us[j]?=some u→xs[i*10+j]?=some u)∧∃ys,wr.ownsRow w.heap.size 28 10 vo outl.length ys∧
 ∀(w2:World) (vo':Value) (W:World),Below wr.heap.size wr W→w2.ownsRow w.heap.size 28 10 vo' (outl.length+1) (ys++us)→W.grownBy w2 vo.ownBlock→OnceK w B ks xs bx (i+1) (outl++[ks[i]]) vo' w2:=by
 obtain ⟨ys,bo,x1,x2,b1,b2,h1,h2,h3,rfl,rfl,h4,h5⟩:=h.own;rw[List.drop_eq_getElem_cons hi,OQL] at h5;obtain ⟨us,x3,bq,b3,rfl,rfl,hq,hr⟩:=h5;have hx1:x1.length=i*10:=by rw[h4.len,List.length_take];omega
 have hqr:OQ wr B ks[i] us bq:=hq.below h.bel (Nat.le_refl _);refine ⟨us,AtL.keep (fun _ _=>rfl) (fun x hx=>(hqr.mem x hx).2) hqr.at_,hq.len,zcy (ks:=[ks[i]]) (by simpa [zaw] using hqr.at_),fun j u hu=>?_,ys,h1,?_⟩
 ·rw[List.getElem?_append_right (by omega),hx1,Nat.add_sub_cancel_left,List.getElem?_append_left (List.getElem?_eq_some_iff.1 hu).1];exact hu
 ·intro w2 vo' W hW ho hg
  have hlt:∀x,x∈b1++(bq++b3)→x<w.heap.size:=fun x hx=>by
   rcases List.mem_append.1 hx with hx | hx
   ·exact (h4.mem x hx).2
   rcases List.mem_append.1 hx with hx | hx
   ·exact (hq.mem x hx).2
   ·exact (hr.mem x hx).2
  have hvo:∀x,x∈b1++(bq++b3)→vo.ownBlock≠some x:=fun x hx e=>by have:=(World.ownsRow.lt h1 x e).1;have:=hlt x hx;omega
  have kq:=(hqr.below hW (Nat.le_refl _)).grown hg (fun x hx e=>hvo x (by simp[hx]) e);have ko:=(h2.below hW (Nat.le_refl _)).grown hg (fun x hx e=>hvo x (by simp[h3.subset hx]) e);have hz:=h.bel.size;refine ⟨⟨ys++us,bo++bq,x1++us,x3,b1++bq,b3,by rw[List.length_append];exact ho,OQL.snoc ko kq,h3.append (List.Sublist.refl _),by simp,by simp,by rw[zbc hi];exact OQL.snoc h4 hq,hr⟩,(h.bel.trans (hW.mono hz)).grown hg (by have:=hW.size;omega) (fun r e=>(World.ownsRow.lt h1 r e).1)⟩
theorem OnceK.end_ {vk:Value} {bk:List Nat} (h:OnceK w B ks xs bx ks.length outl vo wr) (hbk:bk=vk.ownBlock.toList++bx) (hnd:bk.Nodup) (hB:B≤w.heap.size):∃bs',zeb wr B vo outl bs'∧OutR w bk wr bs':=by
 obtain ⟨ys,bo,x1,x2,b1,b2,h1,h2,h3,rfl,rfl,h4,h5⟩:=h.own;subst hbk;have hsub:bo.Sublist (b1++b2):=h3.trans (List.sublist_append_left _ _);refine ⟨_,⟨ys,bo,zdr h1 hB,h2,rfl⟩,⟨List.nodup_append.2 ⟨yeo _,hsub.nodup (List.nodup_append.1 hnd).2.1,fun x hx y hy e=>?_⟩,fun x hx=>?_,But.of_below h.bel⟩⟩
 ·subst e;have:=(World.ownsRow.lt h1 x (zat.1 hx)).1;have:=(h4.mem x (h3.subset hy)).2;omega
 ·rcases List.mem_append.1 hx with hx | hx
  ·exact .inr (World.ownsRow.lt h1 x (zat.1 hx)).1
  ·exact .inl (List.mem_append_right _ (hsub.subset hx))
theorem OnceK.atw (h:OnceK w B ks xs bx i outl vo wr):(∃A c,vo = .slice A outl.length c)∧T.At bare wr (fun x=>x<wr.heap.size) (.arr 10 outl.length (zaw outl)) vo:=by
 obtain ⟨ys,bo,x1,x2,b1,b2,h1,h2,_⟩:=h.own
 have hr:zeb wr 0 vo outl (vo.ownBlock.toList++bo):=⟨ys,bo,zdr h1 (Nat.zero_le _),h2.le (Nat.zero_le _),rfl⟩
 exact ⟨zew h1,hr.atw⟩
end
theorem ztx {r outl ks:List QT} {i:Nat} (hi:i<ks.length) (h:zb7 outl (ks.drop i)=r):(((oc ks[i]=4∨oc ks[i]=3)∧outl.any (fun x=>zjd x ks[i])=true)→zb7 outl (ks.drop (i+1))=r)∧(¬((oc ks[i]=4∨oc ks[i]=3)∧outl.any (fun x=>zjd x ks[i])=true)→zb7 (outl++[ks[i]]) (ks.drop (i+1))=r):=by
 rw[List.drop_eq_getElem_cons hi,zb7] at h;exact ⟨fun hc=>by rwa [if_pos hc] at h,fun hc=>by rwa [if_neg hc] at h⟩
section
variable {B gb:Nat} {s:Bool} {k o b op:Int} {f t u:ByteArray} {lo hi:List Int} {us:List Value} {bs:List Nat}
theorem zzx (ks:List QT) (w:World) (h:Bst w B gb s (.mk k o f t u lo hi b op ks) us bs) (hB:B≤w.heap.size) (hok:∀q∈ks,Ok q) (hkl:ks.length≤100000) :
 Calls Tryz.prog 113 #[.pointer (some ⟨gb,0,none⟩)] w (yen B gb s (.mk k o f t u lo hi b op (zb7 [] ks)) bs (.bool (decide ((zb7 [] ks).length<ks.length))) w):=by
 obtain ⟨A1,A2,A3,c1,c2,c3,bk,rfl,hblk,hrq,hnk,hsub,hgk,hge,hcont⟩:=h.parts;have HC:=hX hcont;have HNK:=hX hnk;have HBK:=hX hblk;have HOKK:=hX hok;obtain ⟨xs,bx,hown,hxs,hbk⟩:=hrq;have HOWN:=hX hown;have HBX:=hX hbk;have HO0:=hX (OnceK.start hxs)
 obtain ⟨r,hr⟩:∃r,zb7 [] ks=r:=⟨_,rfl⟩
 have HR0:Hid (zb7 [] (ks.drop 0)=r):=hX (by rw[List.drop_zero,hr]);rw[hr];obtain ⟨j0,hj1,hj2,hj3,hj4⟩:=info_parts zs0;have HJ:=hX (And.intro hj1 (And.intro hj2 (And.intro hj3 hj4)));have q9:w.cell? ⟨gb,9,none⟩=some (.slice A3 ks.length c3):=hblk.cell 9;have hmf:∀(fn:Fn) (first cap:Array Value) (w:World),(Instr.makeFunc fn first cap).run Tryz.prog w = .ok (.func fn first cap) w:=fun _ _ _ _=>rfl;clear h hcont hnk hr hblk hok hsub hown hxs hbk hj1 hj2 hj3 hj4;go_enter Tryz.func113,Tryz.ntmps113;go_wp2_with fail;go_loopg [3,13] ks.length (fun m vo vi wr=>∃(i:Nat) (outl:List QT),vi = .int .i64 i∧m=ks.length - i∧i≤ks.length∧Hid (zb7 outl (ks.drop i)=r)∧Hid (OnceK w B ks xs bx i outl vo wr)∧outl.length≤i∧Hid (∀x∈outl,x∈ks))
 case atStart=>exact ⟨0,[],rfl,by omega,by omega,HR0,HO0,Nat.le_refl _,hX (fun x hx=>by cases hx)⟩
 case round=>
  clear HR0 q9 HO0;obtain ⟨i,outl,rfl,rfl,hin,HR,HO,hol,HIN⟩:=hrel;have HBR:=hX (HBK.out.below HO.out.bel HBK.out.lt);by_cases hlt:i<ks.length
  ·obtain ⟨kus,hau,hul,h1s,hcell,ys,hown,hnext⟩:=HO.out.keep_ hlt;have HKEEP:=hX hnext;have HSKIP:=hX (HO.out.skip hlt);have HST:=hX (ztx hlt HR.out);have HOWR:=hX hown;have HOK1:=hX (HOKK.out ks[i] (List.getElem_mem hlt));have HOKL:Hid (∀x∈outl,Ok x):=hX (fun x hx=>HOKK.out x (HIN.out x hx))
   have HIN2:Hid (∀x∈outl++[ks[i]],x∈ks):=hX (fun x hx=>by
    rcases List.mem_append.1 hx with hx | hx
    ·exact HIN.out x hx
    ·rw[List.mem_singleton.1 hx];exact List.getElem_mem hlt)
   obtain ⟨⟨AO,cO,hvo⟩,hato⟩:=HO.out.atw;subst hvo;have HATO:=hX hato;have hbel:=HO.out.bel;have HBEL:=hX hbel;obtain ⟨g,cap,hv,hgB,hgl⟩:=HOWN.out.form (by omega);injection hv with hv1 _ hv3;subst hv1 hv3
   have HCL:Hid (∀p u',xs[p]?=some u'→wr.cell? ⟨g,p,none⟩=some u'):=hX (fun p u' hp=>by
    have:=HOWN.out.cells (g:=g) rfl p u' hp;rw[zc5] at this
    exact (hbel.cell (p:=⟨g,p,none⟩) hgl).trans this)
   have HAU:=hX hau;have HONE:=hX h1s;generalize hq:ks[i]=q at *;obtain ⟨k0,k1,k2,k3,k4,k5,k6,k7,k8,k9⟩:=q;obtain ⟨y5',y6',y9',rfl,g5,g6,g9⟩:=zal hau;obtain ⟨Y5,y5,rfl⟩:=zar g5;obtain ⟨Y6,y6,rfl⟩:=zar g6;obtain ⟨Y9,y9,rfl⟩:=zar g9;have h1:(0:Int)≤(i:Int):=by omega
   have h2:(i:Int)<(ks.length:Int):=by omega
   have a0:wr.cell? ⟨g,i*10,none⟩=some (.int .i64 k0):=HCL.out _ _ (hcell 0 _ rfl);have a1:wr.cell? ⟨g,i*10+1,none⟩=some (.int .i64 k1):=HCL.out _ _ (hcell 1 _ rfl);have a2:wr.cell? ⟨g,i*10+2,none⟩=some (.string k2):=HCL.out _ _ (hcell 2 _ rfl);have a3:wr.cell? ⟨g,i*10+3,none⟩=some (.string k3):=HCL.out _ _ (hcell 3 _ rfl);have a4:wr.cell? ⟨g,i*10+4,none⟩=some (.string k4):=HCL.out _ _ (hcell 4 _ rfl);have a5:wr.cell? ⟨g,i*10+5,none⟩=some (.slice Y5 k5.length y5):=HCL.out _ _ (hcell 5 _ rfl);have a6:wr.cell? ⟨g,i*10+6,none⟩=some (.slice Y6 k6.length y6):=HCL.out _ _ (hcell 6 _ rfl);have a7:wr.cell? ⟨g,i*10+7,none⟩=some (.int .i64 k7):=HCL.out _ _ (hcell 7 _ rfl);have a8:wr.cell? ⟨g,i*10+8,none⟩=some (.int .i64 k8):=HCL.out _ _ (hcell 8 _ rfl);have a9:wr.cell? ⟨g,i*10+9,none⟩=some (.slice Y9 k9.length y9):=HCL.out _ _ (hcell 9 _ rfl);clear hnext hown hcell hul h1s hau g5 g6 g9 hato hbel hq HO HR;have hA:Below wr.heap.size wr (wr.alloc (.cells #[.int .i64 k0,.int .i64 k1,.string k2,.string k3,.string k4,.slice Y5 k5.length y5,.slice Y6 k6.length y6,.int .i64 k7,.int .i64 k8,.slice Y9 k9.length y9] 28)):=(Below.refl _ _).alloc (Nat.le_refl _) _;have HA:=hX hA;have HK1:=hX (Blk.new wr 28 #[.int .i64 k0,.int .i64 k1,.string k2,.string k3,.string k4,.slice Y5 k5.length y5,.slice Y6 k6.length y6,.int .i64 k7,.int .i64 k8,.slice Y9 k9.length y9]);have HB1:=hX (HBR.out.below hA HBR.out.lt);go_upto_region 5 with fail
   clear a0 a1 a2 a3 a4 a5 a6 a7 a8 a9 hA;generalize (wr.alloc (.cells #[.int .i64 k0,.int .i64 k1,.string k2,.string k3,.string k4,.slice Y5 k5.length y5,.slice Y6 k6.length y6,.int .i64 k7,.int .i64 k8,.slice Y9 k9.length y9] 28))=W1 at *
   obtain ⟨T,hT⟩:∃T:Bool,(decide (k1=4∨k1=3) && outl.any (fun x=>zjd x (.mk k0 k1 k2 k3 k4 k5 k6 k7 k8 k9)))=T:=⟨_,rfl⟩
   have HT:=hX hT;clear hT;have f1:W1.cell? ⟨wr.heap.size,1,none⟩=some (.int .i64 k1):=HK1.out.cell 1
   have HCQ:=hX (fun (V:World) (hV:Below W1.heap.size W1 V)=>zex (fun x=>zjd x (.mk k0 k1 k2 k3 k4 k5 k6 k7 k8 k9)) 141 #[.pointer (some ⟨wr.heap.size,0,none⟩)] outl AO cO V (At.below HATO.out (HA.out.trans (hV.mono HA.out.size)) (fun x hx=>Nat.lt_of_lt_of_le hx (Nat.le_trans HA.out.size hV.size))) (fun _ _=>rfl)
    (fun x hx us W hW hu=>zw8 x _ us _ wr.heap.size W (HOKL.out x hx) HOK1.out hu (AtL.below HAU.out (HA.out.trans ((hV.trans (hW.mono hV.size)).mono HA.out.size)) (fun y hy=>Nat.lt_of_lt_of_le hy (Nat.le_trans HA.out.size (Nat.le_trans hV.size hW.size)))) (HK1.out.below (hV.trans (hW.mono hV.size)) HK1.out.lt)))
   obtain ⟨a,ha⟩:∃a,(outl.any fun x=>zjd x (.mk k0 k1 k2 k3 k4 k5 k6 k7 k8 k9))=a:=⟨_,rfl⟩
   rw[ha] at HT;simp only[ha] at HCQ;have HAA:=hX ha;clear ha;go_cut [29] (fun c wx=>c = .bool T∧Hid (Below W1.heap.size W1 wx))
   case first=>
    by_cases hk4:k1=4
    ·subst hk4;obtain rfl:T=a:=by rw[←HT.out];simp
     go_wp2_with fail;refine (HCQ.out W1 (Below.refl _ _)).mono ?_;rintro e w3 ⟨rfl,hb⟩;have HBB:=hX hb;clear hb f1;go_wp2_with fail;go_meet;exact ⟨rfl,HBB⟩
    ·have d4:(k1 == 4)=false:=by rw[beq_eq_false_iff_ne];exact hk4
     by_cases hk3:k1=3
     ·subst hk3;obtain rfl:T=a:=by rw[←HT.out];simp
      go_wp2_with fail;refine (HCQ.out W1 (Below.refl _ _)).mono ?_;rintro e w3 ⟨rfl,hb⟩;have HBB:=hX hb;clear hb f1;go_wp2_with fail;go_meet;exact ⟨rfl,HBB⟩
     ·obtain rfl:T=false:=by rw[←HT.out];simp[hk4,hk3]
      have d3:(k1 == 3)=false:=by rw[beq_eq_false_iff_ne];exact hk3
      go_wp2_with fail;go_meet;exact ⟨rfl,hX (Below.refl _ _)⟩
   case rest=>
   obtain ⟨rfl,HWC⟩:=hcut;have HAC:=hX (HA.out.trans (HWC.out.mono HA.out.size));have HK2:=hX (HK1.out.below HWC.out HK1.out.lt);clear f1 HK1 HB1 HA HCQ
   cases T with
   | true=>
    have HS2:=hX (HST.out.1 (by
     have h:=HT.out;rw[Bool.and_eq_true,decide_eq_true_eq] at h
     exact ⟨h.1,by rw[HAA.out];exact h.2⟩))
    have HO2:=hX (HSKIP.out.below HAC.out);go_wp2_with fail;go_roundg (ks.length - (i+1))
    case measure=>omega
    case rel=>exact ⟨i+1,outl,by go_num,rfl,by omega,HS2,HO2,by omega,HIN⟩
   | false=>
    have HS2:=hX (HST.out.2 (by
     rintro ⟨h1,h2⟩;replace h1:k1=4∨k1=3:=h1;have h:=HT.out;rw[HAA.out] at h2;rw[h2,decide_eq_true h1] at h
     cases h))
    obtain ⟨hj1,hj2,hj3,hj4⟩:=HJ.out;obtain ⟨f0,f1,f2,f3,f4,f5,f6,f7,f8,f9⟩:=zas HK2.out;have hownc:=zbb HOWR.out HAC.out;have hwz:=HBEL.out.size;have hcz:=HAC.out.size;go_wp2_with (at_builtin;refine zao _ rfl (.tmp 30) (.tmp 32) 26 rfl w.heap.size 28 j0 _ 10 152 Tryz.underlying26 hj1 hj2 hj3 hj4 rfl (by decide) _ outl.length ys rfl (hownc.alloc _) (wc.heap.size+1) (some ⟨wc.heap.size,0,none⟩) 1 1 [.int .i64 k0,.int .i64 k1,.string k2,.string k3,.string k4,.slice Y5 k5.length y5,.slice Y6 k6.length y6,.int .i64 k7,.int .i64 k8,.slice Y9 k9.length y9] rfl ?d1 HONE.out ?d3 ?d4 ?d5 ?_);case d1=>exact ⟨rfl,fun _=>⟨_,rfl,Nat.lt_succ_self _,fun j u hu=>cells_new wc _ _ j u hu⟩⟩
    case d3=>unfold maxLen;omega
    case d4=>omega
    case d5=>first | omega | (simp;omega)
    intro v' w4 ho hg _;have HO2:=hX (HKEEP.out w4 v' _ (HAC.out.trans (((Below.refl _ wc).alloc (Nat.le_refl _) _).mono HAC.out.size)) ho hg);clear ho hg f0 f1 f2 f3 f4 f5 f6 f7 f8 f9 hownc hj1 hj2 hj3 hj4;go_wp2_with fail;go_roundg (ks.length - (i+1))
    case measure=>omega
    case rel=>exact ⟨i+1,outl++[.mk k0 k1 k2 k3 k4 k5 k6 k7 k8 k9],by go_num,rfl,by omega,HS2,HO2,by simp;omega,HIN2⟩
  ·obtain rfl:i=ks.length:=by omega
   have hor:outl=r:=(by have h:=HR.out;rw[List.drop_length,zb7] at h;exact h)
   subst hor;clear HR;obtain ⟨bk1,hrow,hout⟩:=HO.out.end_ HBX.out HNK.out hB;obtain ⟨⟨AO,cO,hvo⟩,-⟩:=HO.out.atw;subst hvo;obtain ⟨bs2,hbst,hout2⟩:=HC.out wr AO cO outl bk1 hrow hout;have HBS:=hX hbst;have HOU:=hX hout2;have q9:wr.cell? ⟨gb,9,none⟩=some (.slice A3 ks.length c3):=HBR.out.cell 9;have z9:wr.frozen? ⟨gb,9,none⟩=false:=HBR.out.frozen 9;clear hrow hout hbst hout2;go_wp2_with fail;go_ret;exact ⟨_,bs2,by simp,HBS.out,HOU.out⟩
end
end Go.Proofs.YtplkbdncgkgppaaGreatDoor.Qry
end
section
namespace Go.Proofs.YtplkbdncgkgppaaGreatDoor.Qry
open Go.RowKit Words Tree QryP Kit Owned Sch RewP Ana
theorem zo2 {ks:List QT} (h:zse zhp ks = -1∨(ks.filter zbu).length<2):zjk ks=none:=by
 unfold zjk;rw[if_neg];rintro ⟨h1,h2⟩;rcases h with h | h
 ·have:=zsf zhp ks;rw[h,h1] at this;cases this
 ·omega
theorem zw9 {ks:List QT} {i:Nat} (hi:i<ks.length) (hp:zhp ks[i]=true) (hl:∀k∈ks.take i,zhp k=false) (hn:2≤(ks.filter zbu).length):zjk ks=some (ks.take i++ks.drop (i+1)):=by
 unfold zjk;rw[if_pos ⟨List.any_eq_true.2 ⟨_,List.getElem_mem hi,hp⟩,hn⟩];congr 1
 have hsp:ks=ks.take i++ks[i]::ks.drop (i+1):=by rw[←List.drop_eq_getElem_cons hi,List.take_append_drop]
 conv=>lhs;rw[hsp]
 rw[List.eraseP_append_right _ (fun x hx=>by rw[hl x hx];decide),List.eraseP_cons_of_pos hp]
theorem zqy {ks:List QT} {i:Nat} (hi:i<ks.length):((ks.take (i+1)).filter zbu).length=((ks.take i).filter zbu).length+(if zbu ks[i] then 1 else 0):=by
 rw[zbc hi,List.filter_append,List.length_append];congr 1
 by_cases h:zbu ks[i]=true
 ·rw[if_pos h,List.filter_cons_of_pos h];rfl
 ·rw[if_neg h,List.filter_cons_of_neg h];rfl
section
variable {B gb:Nat} {s:Bool} {k o b op:Int} {f t u:ByteArray} {lo hi:List Int} {us:List Value} {bs:List Nat}
theorem ycv (ks:List QT) (w:World) (h:Bst w B gb s (.mk k o f t u lo hi b op ks) us bs) (hB:B≤w.heap.size) (hkl:ks.length≤100000) :
 Calls Tryz.prog 114 #[.pointer (some ⟨gb,0,none⟩)] w (yen B gb s (.mk k o f t u lo hi b op ((zjk ks).getD ks)) bs (.bool (zjk ks).isSome) w):=by
 obtain ⟨A1,A2,A3,c1,c2,c3,bk,rfl,hblk,hrq,hnk,hsub,hgk,hge,hcont⟩:=h.parts;have HC:=hX hcont;have HNK:=hX hnk;have HBK:=hX hblk;have HRQ:=hX hrq;have HS:=hX h;obtain ⟨_,_,he,hcA,hmA,hel⟩:=zc9 hrq.atw;injection he with e1 _ e3;subst e1 e3;have EL:=hX hel;have q9:w.cell? ⟨gb,9,none⟩=some (.slice A3 ks.length c3):=hblk.cell 9;clear h hcont hnk hblk hsub hrq hel;go_enter Tryz.func114,Tryz.ntmps114;go_wp2_with fail;go_loopg [3,13] ks.length (fun m vn vi wr=>∃(i n:Nat),vi = .int .i64 i∧vn = .int .i64 n∧m=ks.length - i∧i≤ks.length∧n≤i∧Hid (((ks.take i).filter zbu).length=n)∧Hid (Below w.heap.size w wr))
 case atStart=>exact ⟨0,0,rfl,rfl,by omega,by omega,by omega,hX (by simp),hX (Below.refl _ _)⟩
 case round=>
  clear q9;obtain ⟨i,n,rfl,rfl,rfl,hin,hni,HN,HW⟩:=hrel;have HBR:=hX (HBK.out.below HW.out HBK.out.lt);by_cases hlt:i<ks.length
  ·obtain ⟨ad,kus,rfl,hba,au,lu,cu⟩:=EL.out i hlt;replace cu:=cu.keep (w':=wr) (fun p hp=>HW.out.cell (by rw[hp,zab];exact hba));have HNS:=hX (zqy hlt);generalize hq:ks[i]=q at *;obtain ⟨k0,k1,k2,k3,k4,k5,k6,k7,k8,k9⟩:=q;obtain ⟨y5',y6',y9',rfl,g5,g6,g9⟩:=zal au;obtain ⟨Y5,y5,rfl⟩:=zar g5;obtain ⟨Y6,y6,rfl⟩:=zar g6;obtain ⟨Y9,y9,rfl⟩:=zar g9;obtain ⟨a0,a1,a2,a3,a4,a5,a6,a7,a8,a9⟩:=ten cu;have h1:(0:Int)≤(i:Int):=by omega
   have h2:(i:Int)<(ks.length:Int):=by omega
   have HA:=hX ((Below.refl wr.heap.size wr).alloc (Nat.le_refl _) (.cells #[.int .i64 k0,.int .i64 k1,.string k2,.string k3,.string k4,.slice Y5 k5.length y5,.slice Y6 k6.length y6,.int .i64 k7,.int .i64 k8,.slice Y9 k9.length y9] 28));have HW2:=hX (HW.out.trans (HA.out.mono HW.out.size));have f1:(wr.alloc (.cells #[.int .i64 k0,.int .i64 k1,.string k2,.string k3,.string k4,.slice Y5 k5.length y5,.slice Y6 k6.length y6,.int .i64 k7,.int .i64 k8,.slice Y9 k9.length y9] 28)).cell? ⟨wr.heap.size,1,none⟩=some (.int .i64 k1):=(Blk.new wr 28 #[.int .i64 k0,.int .i64 k1,.string k2,.string k3,.string k4,.slice Y5 k5.length y5,.slice Y6 k6.length y6,.int .i64 k7,.int .i64 k8,.slice Y9 k9.length y9]).cell 1;clear hq au g5 g6 g9 cu lu
   have HND:Hid (zbu (.mk k0 k1 k2 k3 k4 k5 k6 k7 k8 k9)=decide (k1=1∨k1=4)):=hX (by
    show (decide (k1=1) || decide (k1=4))=_
    by_cases e1:k1=1 <;> by_cases e4:k1=4 <;> simp[e1,e4])
   rw[HND.out] at HNS;clear HND;go_upto_region 5 with fail;clear a0 a1 a2 a3 a4 a5 a6 a7 a8 a9;generalize (wr.alloc (.cells #[.int .i64 k0,.int .i64 k1,.string k2,.string k3,.string k4,.slice Y5 k5.length y5,.slice Y6 k6.length y6,.int .i64 k7,.int .i64 k8,.slice Y9 k9.length y9] 28))=W1 at *;by_cases hk1:k1=1
   ·subst hk1;have HN2:Hid (((ks.take (i+1)).filter zbu).length=n+1):=hX (by rw[HNS.out,HN.out];rfl);go_wp2_with fail;go_roundg (ks.length - (i+1))
    case measure=>omega
    case rel=>exact ⟨i+1,n+1,by go_num,by go_num,rfl,by omega,by omega,HN2,HW2⟩
   ·have d1:(k1 == 1)=false:=by rw[beq_eq_false_iff_ne];exact hk1
    by_cases hk4:k1=4
    ·subst hk4;have HN2:Hid (((ks.take (i+1)).filter zbu).length=n+1):=hX (by rw[HNS.out,HN.out];rfl);go_wp2_with fail;go_roundg (ks.length - (i+1))
     case measure=>omega
     case rel=>exact ⟨i+1,n+1,by go_num,by go_num,rfl,by omega,by omega,HN2,HW2⟩
    ·have d4:(k1 == 4)=false:=by rw[beq_eq_false_iff_ne];exact hk4
     have HN2:Hid (((ks.take (i+1)).filter zbu).length=n):=hX (by rw[HNS.out,HN.out,decide_eq_false (by omega)];rfl);clear hk1 hk4;go_wp2_with fail;go_roundg (ks.length - (i+1))
     case measure=>omega
     case rel=>exact ⟨i+1,n,by go_num,rfl,rfl,by omega,by omega,HN2,HW2⟩
  ·obtain rfl:i=ks.length:=by omega
   have HN2:Hid ((ks.filter zbu).length=n):=hX (by have:=HN.out;rwa [List.take_length] at this);have HRW:=hX (HRQ.out.below HW.out (Nat.le_refl _));have HI:=hX (zio zhp 143 #[] ks A3 c3 wr HRW.out.atw (fun _ _=>rfl) (fun _ _ us W _ hu=>zw5 hu));have q9:wr.cell? ⟨gb,9,none⟩=some (.slice A3 ks.length c3):=HBR.out.cell 9;clear HN EL;go_wp2_with fail;refine HI.out.mono ?_;rintro e w2 ⟨rfl,hb⟩;have HW2:=hX (HW.out.trans (hb.mono HW.out.size));have HB2:=hX (HBR.out.below hb HBR.out.lt);have HR2:=hX (HRW.out.below hb (Nat.le_refl _));clear hb q9 HI
   cases hf:ks.findIdx? zhp with
   | none=>
    rw[List.findIdx?_eq_none_iff] at hf;have hz:zse zhp ks = -1:=zks hf;have HX:=hX (zo2 (.inl hz));rw[hz];clear hz hf;go_wp2_with fail;go_ret;rw[HX.out];exact ⟨_,bs,rfl,HS.out.below HW2.out,(OutR.refl HS.out.nd w).below HW2.out⟩
   | some j=>
    rw[List.findIdx?_eq_some_iff_getElem] at hf;obtain ⟨hj,hp,hl⟩:=hf;have hpre:∀k∈ks.take j,zhp k=false:=fun k hk=>by obtain ⟨m,hm,rfl⟩:=List.mem_take_iff_getElem.1 hk;have:=hl m (by omega);simpa using this
    have hz:zse zhp ks=(j:Int):=zkt hj hp hpre;rw[hz];have h0:decide ((j:Int)<0)=false:=decide_eq_false (by omega);by_cases hn2:n<2
    ·have HX:=hX (zo2 (ks:=ks) (.inr (by rw[HN2.out];exact hn2)));have d2:decide ((n:Int)<2)=true:=decide_eq_true (by omega);clear hp hl hpre hz;go_wp2_with fail;go_ret;rw[HX.out];exact ⟨_,bs,rfl,HS.out.below HW2.out,(OutR.refl HS.out.nd w).below HW2.out⟩
    ·have HX:=hX (zw9 hj hp hpre (by rw[HN2.out];omega));have d2:decide ((n:Int)<2)=false:=decide_eq_false (by omega);have hsp:ks=ks.take j++ks[j]::ks.drop (j+1):=by rw[←List.drop_eq_getElem_cons hj,List.take_append_drop]
     have hD:zeb w2 B (.slice A3 ks.length c3) (ks.take j++ks[j]::ks.drop (j+1)) bk:=by rw[←hsp];exact HR2.out
     have HDL:=hX (ztp B _ _ _ _ bk w2 hD HNK.out j (by simp;omega) (Nat.le_trans hB HW2.out.size));have q9:w2.cell? ⟨gb,9,none⟩=some (.slice A3 ks.length c3):=HB2.out.cell 9;have hwr:IntKind.wrap .i64 ((j:Int)+1)=(j:Int)+1:=by rw[IntKind.wrap_i64];omega
     clear hp hl hpre hz hsp hD;generalize ks.take j++ks.drop (j+1)=l2 at *;go_wp2_with fail;refine HDL.out.mono ?_;rintro e w3 ⟨AN,cN,bk1,rfl,hrow,hout⟩;have HB3:=hX (hout.but.blk HB2.out hgk);obtain ⟨bs2,hbst,hout2⟩:=HC.out w3 AN cN _ bk1 hrow (OutR.first HW2.out hout);have HBS:=hX hbst;have HOU:=hX hout2;have q9':w3.cell? ⟨gb,9,none⟩=some (.slice A3 ks.length c3):=HB3.out.cell 9;have z9:w3.frozen? ⟨gb,9,none⟩=false:=HB3.out.frozen 9;clear hrow hout hbst hout2 q9 HDL;go_wp2_with fail;go_ret;rw[HX.out];exact ⟨_,bs2,rfl,HBS.out,HOU.out⟩
end
end Go.Proofs.YtplkbdncgkgppaaGreatDoor.Qry
end
section
namespace Go.Proofs.YtplkbdncgkgppaaGreatDoor.ScopeG
open Go
section
variable {P:Program} {a:Act} {w:World} {Q:Exit→Act→World→Prop}
theorem zle {c rest:Code} (l:Nat) (J:Nat→Act→World→Prop) (hf:findLabel c l=some rest)
 (pass:∀n a w,J n a w→rest.wp P (Exit.jump l (fun a' w'=>∃m,m<n∧J m a' w') Q) a w)
 (first:(∀n a w,J n a w→rest.wp P (Exit.jump l (fun a' w'=>∃m,J m a' w') Q) a w)→c.wp P (Exit.jump l (fun a' w'=>∃m,J m a' w') Q) a w):(Code.scope c).wp P Q a w:=by
 have first':=first (fun n a w h=>Code.wp_mono (fun e a' w' h'=>by
  cases e with
  | goto l'=>exact ⟨h'.1,h'.2.choose,h'.2.choose_spec.2⟩
  | normal=>exact h'
  | exit id=>exact h'
  | ret=>exact h'
  | panic ch=>exact h'
  | outgrown=>exact h') (pass n a w h))
 intro b k cs;have hg:gotoIn l (.inScope c::k)=some (.code rest :: .inScope c::k):=by simp[gotoIn,hf]
 have key:∀n a w,J n a w→∃e a' w',Q e a' w'∧Arrives P (lone (b.at a (.code rest :: .inScope c::k)) cs w) b k cs e a' w':=by
  intro n
  induction n using Nat.strongRecOn with
  | _ n ih=>
   intro a w hJ;obtain ⟨e,a₁,w₁,hq,harr⟩:=pass n a w hJ b (.inScope c::k) cs
   cases e with
   | normal=>exact ⟨.normal,a₁,w₁,hq,Steps.trans harr (.one step_inScope)⟩
   | exit id=>exact ⟨.exit id,a₁,w₁,hq,fun k' hk=>harr k' (by simp[exitTo,hk])⟩
   | goto l'=>
    obtain ⟨rfl,m,hlt,hJ'⟩:=hq;obtain ⟨e₂,a₂,w₂,hq₂,harr₂⟩:=ih m hlt a₁ w₁ hJ';exact ⟨e₂,a₂,w₂,hq₂,.of_steps (harr _ hg) harr₂⟩
   | ret=>exact ⟨_,a₁,w₁,hq,harr⟩
   | panic ch=>exact ⟨_,a₁,w₁,hq,harr⟩
   | outgrown=>exact ⟨_,a₁,w₁,hq,harr⟩
 obtain ⟨e,a₁,w₁,hq,harr⟩:=first' b (.inScope c::k) cs
 cases e with
 | normal=>exact ⟨.normal,a₁,w₁,hq,.head step_scope (Steps.trans harr (.one step_inScope))⟩
 | exit id=>exact ⟨.exit id,a₁,w₁,hq,fun k' hk=>.head step_scope (harr k' (by simp[exitTo,hk]))⟩
 | goto l'=>
  obtain ⟨rfl,m,hJ'⟩:=hq;obtain ⟨e₂,a₂,w₂,hq₂,harr₂⟩:=key m a₁ w₁ hJ';exact ⟨e₂,a₂,w₂,hq₂,.of_steps (.head step_scope (harr _ hg)) harr₂⟩
 | ret=>exact ⟨_,a₁,w₁,hq,.of_steps (.one step_scope) harr⟩
 | panic ch=>exact ⟨_,a₁,w₁,hq,.of_steps (.one step_scope) harr⟩
 | outgrown=>exact ⟨_,a₁,w₁,hq,.of_steps (.one step_scope) harr⟩
theorem zm5 {c rest:Code} (l:Nat) (J:Nat→Act→World→Prop) (hf:findLabel c l=some (.seq .skip rest))
 (pass:∀n a w,J n a w→rest.wp P (Exit.jump l (fun a' w'=>∃m,m<n∧J m a' w') Q) a w)
 (first:(∀n a w,J n a w→rest.wp P (Exit.jump l (fun a' w'=>∃m,J m a' w') Q) a w)→c.wp P (Exit.jump l (fun a' w'=>∃m,J m a' w') Q) a w):(Code.scope c).wp P Q a w:=
 zle l J hf (fun n a w h=>wp_seq (wp_skip (pass n a w h))) (fun _=>first (fun n a w h=>Code.wp_mono (fun e a' w' h'=>by
  cases e with
  | goto l'=>exact ⟨h'.1,h'.2.choose,h'.2.choose_spec.2⟩
  | normal=>exact h'
  | exit id=>exact h'
  | ret=>exact h'
  | panic ch=>exact h'
  | outgrown=>exact h') (pass n a w h)))
end
end Go.Proofs.YtplkbdncgkgppaaGreatDoor.ScopeG
end
