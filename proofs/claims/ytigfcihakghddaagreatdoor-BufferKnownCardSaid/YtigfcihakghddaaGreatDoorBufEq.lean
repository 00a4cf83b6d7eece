/- Lemmas that the last text leans on. -/
import Derived.Test.YtigfcihakghddaaGreatDoorPack35
import Derived.Test.YtigfcihakghddaaGreatDoorPack11
import Derived.Test.YtigfcihakghddaaGreatDoorTake
import Derived.Test.YtigfcihakghddaaGreatDoorPack38
import Derived.Deep.QuietTactic
import Derived.LoopTactic
import Derived.BigQuiet
set_option linter.all false
set_option maxRecDepth 100000
set_option maxHeartbeats 4000000
namespace Go.Proofs.YtigfcihakghddaaGreatDoor.BufT
open Go Go.RowKit Words Tree Owned BufP Sch SchP AnaP Kit
theorem bne_l {a b:List UInt8} (h:¬a=b):((⟨a.toArray⟩:ByteArray).toList != (⟨b.toArray⟩:ByteArray).toList)=true∧((⟨a.toArray⟩:ByteArray).toList == (⟨b.toArray⟩:ByteArray).toList)=false:=by
 have:¬(⟨a.toArray⟩:ByteArray).toList=(⟨b.toArray⟩:ByteArray).toList:=fun e=>h (by rw[Lib.toList_data,Lib.toList_data] at e;simpa using e);exact ⟨by simpa using this,by simpa using this⟩
theorem reads_str {w:World} {B:Nat} {A:Option Addr} {l:List (List UInt8)} (h:Reads w B 1 A l.length (strCells l)) {k:Nat} (hk:k<l.length) :
 ∃ad,A=some ad∧ad.block<B∧w.cell? (ad.add k)=some (.string ⟨l[k].toArray⟩):=by
 obtain ⟨ad,e,hb,hc⟩:=h.2 (by omega);exact ⟨ad,e,hb,hc k _ (by unfold strCells;simp[hk,Go.Proofs.encStr])⟩
theorem strings_any (ao bo:Option Addr) (c d:Nat) (xs ys:List (List UInt8)) (w:World) (ha:Reads w w.heap.size 1 ao xs.length (strCells xs)) (hb:Reads w w.heap.size 1 bo ys.length (strCells ys)) (hla:xs.length*16≤140737488351232) (hlb:ys.length*16≤140737488351232) (r:Bool) (hr:r=true↔xs=ys) :
 Calls Tryz.prog 27 #[.slice ao xs.length c,.slice bo ys.length d] w (AnsB r w):=by
 have HA:=hX ha;have HB:=hX hb;have HR:=hX hr;clear ha hb hr;by_cases hl:xs.length=ys.length
 ·have HL:=hX hl;have hbne:((xs.length:Int) != (ys.length:Int))=false:=by rw[hl];simp
  clear hl;go_enter Tryz.func27,Tryz.ntmps27;go_wp2_with fail;go_loopw [5] (fun i wr=>∃(k m:Nat),k≤xs.length∧i = .int .i64 k∧Hid (xs.take k=ys.take k)∧wr=w.drewN m) (fun i _=>xs.length - (intOf i).toNat);case atStart=>exact ⟨0,0,by omega,rfl,hX (by simp),rfl⟩
  case round=>
   obtain ⟨k,m,hk,rfl,HE,rfl⟩:=hrel;by_cases hlt:k<xs.length
   ·have hlt2:k<ys.length:=by have:=HL.out;omega
    obtain ⟨ad,rfl,hba,a0⟩:=reads_str HA.out hlt;obtain ⟨bd,rfl,hbb,b0⟩:=reads_str HB.out hlt2;have HST:Hid (xs.take (k+1)=xs.take k++[xs[k]]∧ys.take (k+1)=ys.take k++[ys[k]]):=hX ⟨Sch.take_snoc hlt,Sch.take_snoc hlt2⟩
    have HNE:Hid (¬xs[k]=ys[k]→r=false):=hX (fun h=>by
     cases hr0:r with
     | false=>rfl
     | true=>
      have e:=HR.out.1 hr0;subst e
      exact absurd rfl h)
    by_cases he:xs[k]=ys[k]
    ·have HQ:=hX he;rw[←he] at b0;clear he HNE;generalize (⟨xs[k].toArray⟩:ByteArray)=x at *;go_wp2_with fail;go_quiet (fail);go_wp2_with fail;go_roundw;case rel=>exact ⟨k+1,_,by omega,by go_num,hX (by rw[HST.out.1,HST.out.2,HE.out,←HQ.out]),by first | rfl | (rw[World.drewN_drewN])⟩
     case measure=>simp[intOf];omega
    ·have HRF:=hX (HNE.out he);obtain ⟨hne,hne2⟩:=bne_l he;clear he HNE HST;generalize (⟨xs[k].toArray⟩:ByteArray)=x at *;generalize (⟨ys[k].toArray⟩:ByteArray)=y at *;go_wp2_with fail;go_quiet (fail);go_wp2_with fail;go_ret;rw[HRF.out];exact ⟨rfl,⟨rfl,rfl,rfl,Nat.le_refl _,fun _ _=>rfl⟩⟩
   ·obtain rfl:k=xs.length:=by omega
    have hT:r=true:=(by rw[HR.out];have:=HE.out;rw[List.take_of_length_le (Nat.le_refl _),HL.out,List.take_of_length_le (Nat.le_refl _)] at this;exact this)
    have HRT:=hX hT;clear hT;go_wp2_with fail;go_ret;rw[HRT.out];exact ⟨rfl,Sch.below_drewN' _⟩
 ·have hbne:((xs.length:Int) != (ys.length:Int))=true:=by rw[bne_iff_ne];omega
  have HRF:Hid (r=false):=hX (by
   cases hr0:r with
   | false=>rfl
   | true=>exact absurd (by rw[HR.out.1 hr0]) hl)
  clear hl;go_enter Tryz.func27,Tryz.ntmps27;go_wp2_with fail;go_ret;rw[HRF.out];exact ⟨rfl,Below.refl _ _⟩
section
variable {w:World} {B:Nat}
theorem one_lits {α:Type} (enc:α→Value) (l:List α):l.flatMap (fun x=>[T.lit (enc x)])=l.map fun x=>.lit (enc x):=by
 induction l with
 | nil=>rfl
 | cons a l ih=>rw[List.flatMap_cons,ih];rfl
theorem at_strs {l:List (List UInt8)} {v:Value} (h:T.At bare w (fun g=>g<B) (strsT l) v):∃A cap,v = .slice A l.length cap∧l.length≤cap∧cap≤maxLen∧Reads w B 1 A l.length (strCells l):=by
 unfold strsT rowT at h;obtain ⟨A,cap,vs,hv,h1,h2,h3,h4⟩:=At.reads h;rw[one_lits strV] at h4;obtain rfl:=AtL.lits h4;exact ⟨A,cap,hv,h1,h2,h3⟩
theorem at_intsT {l:List Int} {v:Value} (h:T.At bare w (fun g=>g<B) (intsT l) v):∃A cap,v = .slice A l.length cap∧l.length≤cap∧cap≤maxLen∧Reads w B 1 A l.length (l.map (Value.int .i64)):=by
 unfold intsT rowT at h;obtain ⟨A,cap,vs,hv,h1,h2,h3,h4⟩:=At.reads h;rw[one_lits (Value.int .i64)] at h4;obtain rfl:=AtL.lits h4;exact ⟨A,cap,hv,h1,h2,h3⟩
theorem at_rows {X:Type} {st:X→T} {xs:List X} {v:Value} {S:Nat→Prop} (h:T.At bare w S (rowT 1 (fun x=>[st x]) xs) v):∃A cap,v = .slice A xs.length cap∧xs.length≤cap∧cap≤maxLen∧∀i (hi:i<xs.length),∃ad u,A=some ad∧S ad.block∧w.cell? (ad.add i)=some u∧T.At bare w S (st xs[i]) u:=by
 obtain ⟨A,cap,hv,hc,hm,hr⟩:=at_row (f:=fun x=>[st x]) (s:=1) (fun _=>rfl) h;refine ⟨A,cap,hv,by simpa [bare] using hc,hm,fun i hi=>?_⟩;obtain ⟨ad,us,e,hs,hu,hl,hcl⟩:=hr i hi;obtain ⟨u,us',rfl,h1,h2⟩:=AtL.cons_ hu;have:=hcl.zero;rw[Nat.mul_one] at this;exact ⟨ad,u,e,hs,this,h1⟩
end
theorem texts_any (u v:Value) (xs ys:List (List (List UInt8))) (w:World) (hu:T.At bare w (fun g=>g<w.heap.size) (rowT 1 (fun x=>[strsT x]) xs) u) (hv:T.At bare w (fun g=>g<w.heap.size) (rowT 1 (fun x=>[strsT x]) ys) v) (hxs:∀x∈xs,x.length*16≤140737488351232) (hys:∀x∈ys,x.length*16≤140737488351232) (hla:xs.length*24≤140737488351232) (hlb:ys.length*24≤140737488351232) (r:Bool) (hr:r=true↔xs=ys) :
 Calls Tryz.prog 29 #[u,v] w (AnsB r w):=by
 obtain ⟨ao,c,rfl,hc1,hc2,hel⟩:=at_rows hu;obtain ⟨bo,d,rfl,hd1,hd2,hfl⟩:=at_rows hv;have EL:=hX hel;have FL:=hX hfl;have HR:=hX hr;have HXS:=hX hxs;have HYS:=hX hys;clear hu hv hel hfl hr hxs hys;by_cases hl:xs.length=ys.length
 ·have HL:=hX hl;have hbne:((xs.length:Int) != (ys.length:Int))=false:=by rw[hl];simp
  clear hl;go_enter Tryz.func29,Tryz.ntmps29;go_wp2_with fail;go_loopg [5] xs.length (fun m i wr=>∃(k:Nat),k≤xs.length∧m=xs.length - k∧i = .int .i64 k∧Hid (xs.take k=ys.take k)∧Hid (Below w.heap.size w wr))
  case atStart=>exact ⟨0,by omega,rfl,rfl,hX (by simp),hX (Below.refl _ _)⟩
  case round=>
   obtain ⟨k,hk,rfl,rfl,HE,HB⟩:=hrel;by_cases hlt:k<xs.length
   ·have hlt2:k<ys.length:=by have:=HL.out;omega
    obtain ⟨ad,ua,rfl,hba,a0,hta⟩:=EL.out k hlt;obtain ⟨bd,ub,rfl,hbb,b0,htb⟩:=FL.out k hlt2;replace a0:=(HB.out.cell (p:=ad.add k) (by rw[block_of_add];exact hba)).trans a0;replace b0:=(HB.out.cell (p:=bd.add k) (by rw[block_of_add];exact hbb)).trans b0;have hal:(ad.add k).block<wr.heap.size:=by rw[block_of_add];exact Nat.lt_of_lt_of_le hba HB.out.size
    have hbl:(bd.add k).block<wr.heap.size:=by rw[block_of_add];exact Nat.lt_of_lt_of_le hbb HB.out.size
    have HST:Hid (xs.take (k+1)=xs.take k++[xs[k]]∧ys.take (k+1)=ys.take k++[ys[k]]):=hX ⟨Sch.take_snoc hlt,Sch.take_snoc hlt2⟩;obtain ⟨Aa,ca,rfl,_,_,_⟩:=at_strs (At.keep (S':=fun g=>g<w.heap.size) (fun _ _=>rfl) (fun _ h=>h) hta);obtain ⟨Ab,cb,rfl,_,_,_⟩:=at_strs (At.keep (S':=fun g=>g<w.heap.size) (fun _ _=>rfl) (fun _ h=>h) htb)
    obtain ⟨b,hbq⟩:∃b:Bool,b=true↔xs[k]=ys[k]:=⟨decide (xs[k]=ys[k]),by simp⟩
    have HCAL:Hid (∀V:World,Below wr.heap.size wr V→Calls Tryz.prog 27 #[.slice Aa xs[k].length ca,.slice Ab ys[k].length cb] V (AnsB b V)):=hX (fun V hV=>by
     have hbV:=HB.out.trans (hV.mono HB.out.size);obtain ⟨Aa',ca',e1,_,_,q1⟩:=at_strs (At.below hta hbV (fun g hg=>Nat.lt_of_lt_of_le hg hbV.size));obtain ⟨Ab',cb',e2,_,_,q2⟩:=at_strs (At.below htb hbV (fun g hg=>Nat.lt_of_lt_of_le hg hbV.size));injection e1 with e3 _ e4;injection e2 with e5 _ e6;subst e3 e4 e5 e6
     exact strings_any _ _ _ _ _ _ V q1 q2 (HXS.out _ (List.getElem_mem hlt)) (HYS.out _ (List.getElem_mem hlt2)) _ hbq)
    have hki:(0:Int)≤(k:Int):=by omega
    have hkl:(k:Int)<(xs.length:Int):=by omega
    have hkl2:(k:Int)<(ys.length:Int):=by omega
    have HNE:Hid (¬xs[k]=ys[k]→r=false):=hX (fun h=>by
     cases hr0:r with
     | false=>rfl
     | true=>
      have e:=HR.out.1 hr0;subst e
      exact absurd rfl h)
    have HLT:Hid (k<xs.length):=hX hlt;have HQ:=hX hbq;clear hbq hta htb;generalize xs[k]=x at *;generalize ys[k]=y at *;go_upto_region 6 with fail;refine HeldU.wp_region_until #[true,true,true,true,true,true,true,true,true,true] (fun V=>Below wr.heap.size wr V) (by kernel_rfl) ((Below.refl _ _).drew) (fun hSr0=>?_);refine' HeldU.tkU 0 (by simp only[tkD,tkE,tkG];rfl) (by kernel_rfl) (by exact fun _ _ _ h=>h) (by rfl) hSr0 (by intro V hSw;clear hSw;go_simp;try with_reducible rfl) ?_;try simp only[Act.put,tkA,tkB,tkC]
    refine' HeldU.tkU 1 (by simp only[tkD,tkE,tkG];rfl) (by kernel_rfl) (by exact fun _ _ _ h=>h) (by rfl) hSr0 (by intro V hSw;clear hSw;go_simp;try with_reducible rfl) ?_;try simp only[Act.put,tkA,tkB,tkC]
    refine' HeldU.tkU 2 (by simp only[tkD,tkE,tkG];rfl) (by kernel_rfl) (by exact fun _ _ _ h=>h) (by rfl) hSr0 (by intro V hSw;clear hSw;go_simp;try with_reducible rfl) ?_;try simp only[Act.put,tkA,tkB,tkC]
    refine' HeldU.tkU 3 (by simp only[tkD,tkE,tkG];rfl) (by kernel_rfl) (by exact fun _ _ _ h=>h) (by rfl) hSr0 (by intro V hSw;have a3:=(hSw.cell hal).trans a0;clear hSw;go_simp;try with_reducible rfl) ?_;try simp only[Act.put,tkA,tkB,tkC]
    refine' HeldU.tkU 4 (by simp only[tkD,tkE,tkG];rfl) (by kernel_rfl) (by exact fun _ _ _ h=>h) (by rfl) hSr0 (by intro V hSw;clear hSw;go_simp;try with_reducible rfl) ?_;try simp only[Act.put,tkA,tkB,tkC]
    refine' HeldU.tkU 5 (by simp only[tkD,tkE,tkG];rfl) (by kernel_rfl) (by exact fun _ _ _ h=>h) (by rfl) hSr0 (by intro V hSw;clear hSw;go_simp;try with_reducible rfl) ?_;try simp only[Act.put,tkA,tkB,tkC]
    refine' HeldU.tkU 6 (by simp only[tkD,tkE,tkG];rfl) (by kernel_rfl) (by exact fun _ _ _ h=>h) (by rfl) hSr0 (by intro V hSw;clear hSw;go_simp;try with_reducible rfl) ?_;try simp only[Act.put,tkA,tkB,tkC]
    refine' HeldU.tkU 7 (by simp only[tkD,tkE,tkG];rfl) (by kernel_rfl) (by exact fun _ _ _ h=>h) (by rfl) hSr0 (by intro V hSw;have b3:=(hSw.cell hbl).trans b0;clear hSw;go_simp;try with_reducible rfl) ?_;try simp only[Act.put,tkA,tkB,tkC]
    refine' HeldU.wpAnyU_one (i:=8) (by kernel_rfl) (by kernel_rfl) (by simp only[tkD,tkE,tkG];rfl) (fun K hK=>?_);go_simp;refine (HCAL.out _ (hSr0)).mono ?_;rintro e Vr1 ⟨rfl,hb⟩;have Br1:=hX (Below.trans hSr0 (hb.mono (hSr0).size));clear hb;go_simp;refine hK.out _ _ Br1.out (fun hSr1=>?_);clear hK K;try simp only[Act.put,tkA,tkB,tkC]
    refine' HeldU.tkU 9 (by simp only[tkD,tkE,tkG];rfl) (by kernel_rfl) (by exact fun _ _ _ h=>h) (by rfl) hSr1 (by intro V hSw;clear hSw;go_simp;try with_reducible rfl) ?_;try simp only[Act.put,tkA,tkB,tkC]
    refine HeldU.wpAnyU_done (by kernel_rfl) ?_
    cases b with
    | true=>
     have HXY:Hid (x=y):=hX (HQ.out.1 rfl);have HB9:Hid (Below w.heap.size w Vr1):=hX (HB.out.trans (Br1.out.mono HB.out.size));go_wp2_with fail;go_roundg (xs.length - (k+1))
     case measure=>have:=HLT.out;omega
     case rel=>exact ⟨k+1,by have:=HLT.out;omega,rfl,by go_num,hX (by rw[HST.out.1,HST.out.2,HE.out,HXY.out]),HB9⟩
    | false=>
     have HRF:=hX (HNE.out (fun h=>by have:=HQ.out.2 h;cases this));have HB9:Hid (Below w.heap.size w Vr1):=hX (HB.out.trans (Br1.out.mono HB.out.size));go_wp2_with fail;go_ret;rw[HRF.out];exact ⟨rfl,HB9.out⟩
   ·obtain rfl:k=xs.length:=by omega
    have hT:r=true:=(by rw[HR.out];have:=HE.out;rw[List.take_of_length_le (Nat.le_refl _),HL.out,List.take_of_length_le (Nat.le_refl _)] at this;exact this)
    have HRT:=hX hT;clear hT;go_wp2_with fail;go_ret;rw[HRT.out];exact ⟨rfl,HB.out⟩
 ·have hbne:((xs.length:Int) != (ys.length:Int))=true:=by rw[bne_iff_ne];omega
  have HRF:Hid (r=false):=hX (by
   cases hr0:r with
   | false=>rfl
   | true=>exact absurd (by rw[HR.out.1 hr0]) hl)
  clear hl;go_enter Tryz.func29,Tryz.ntmps29;go_wp2_with fail;go_ret;rw[HRF.out];exact ⟨rfl,Below.refl _ _⟩
theorem rows_any (u v:Value) (xs ys:List (List Int)) (w:World) (hu:T.At bare w (fun g=>g<w.heap.size) (rowT 1 (fun x=>[intsT x]) xs) u) (hv:T.At bare w (fun g=>g<w.heap.size) (rowT 1 (fun x=>[intsT x]) ys) v) (hxs:∀x∈xs,x.length*8≤140737488351232) (hys:∀x∈ys,x.length*8≤140737488351232) (hla:xs.length*24≤140737488351232) (hlb:ys.length*24≤140737488351232) (r:Bool) (hr:r=true↔xs=ys) :
 Calls Tryz.prog 30 #[u,v] w (AnsB r w):=by
 obtain ⟨ao,c,rfl,hc1,hc2,hel⟩:=at_rows hu;obtain ⟨bo,d,rfl,hd1,hd2,hfl⟩:=at_rows hv;have EL:=hX hel;have FL:=hX hfl;have HR:=hX hr;have HXS:=hX hxs;have HYS:=hX hys;clear hu hv hel hfl hr hxs hys;by_cases hl:xs.length=ys.length
 ·have HL:=hX hl;have hbne:((xs.length:Int) != (ys.length:Int))=false:=by rw[hl];simp
  clear hl;go_enter Tryz.func30,Tryz.ntmps30;go_wp2_with fail;go_loopg [5] xs.length (fun m i wr=>∃(k:Nat),k≤xs.length∧m=xs.length - k∧i = .int .i64 k∧Hid (xs.take k=ys.take k)∧Hid (Below w.heap.size w wr))
  case atStart=>exact ⟨0,by omega,rfl,rfl,hX (by simp),hX (Below.refl _ _)⟩
  case round=>
   obtain ⟨k,hk,rfl,rfl,HE,HB⟩:=hrel;by_cases hlt:k<xs.length
   ·have hlt2:k<ys.length:=by have:=HL.out;omega
    obtain ⟨ad,ua,rfl,hba,a0,hta⟩:=EL.out k hlt;obtain ⟨bd,ub,rfl,hbb,b0,htb⟩:=FL.out k hlt2;replace a0:=(HB.out.cell (p:=ad.add k) (by rw[block_of_add];exact hba)).trans a0;replace b0:=(HB.out.cell (p:=bd.add k) (by rw[block_of_add];exact hbb)).trans b0;have hal:(ad.add k).block<wr.heap.size:=by rw[block_of_add];exact Nat.lt_of_lt_of_le hba HB.out.size
    have hbl:(bd.add k).block<wr.heap.size:=by rw[block_of_add];exact Nat.lt_of_lt_of_le hbb HB.out.size
    have HST:Hid (xs.take (k+1)=xs.take k++[xs[k]]∧ys.take (k+1)=ys.take k++[ys[k]]):=hX ⟨Sch.take_snoc hlt,Sch.take_snoc hlt2⟩;obtain ⟨Aa,ca,rfl,_,_,_⟩:=at_intsT (At.keep (S':=fun g=>g<w.heap.size) (fun _ _=>rfl) (fun _ h=>h) hta);obtain ⟨Ab,cb,rfl,_,_,_⟩:=at_intsT (At.keep (S':=fun g=>g<w.heap.size) (fun _ _=>rfl) (fun _ h=>h) htb)
    obtain ⟨b,hbq⟩:∃b:Bool,b=true↔xs[k]=ys[k]:=⟨decide (xs[k]=ys[k]),by simp⟩
    have HCAL:Hid (∀V:World,Below wr.heap.size wr V→Calls Tryz.prog 31 #[.slice Aa xs[k].length ca,.slice Ab ys[k].length cb] V (AnsB b V)):=hX (fun V hV=>by
     have hbV:=HB.out.trans (hV.mono HB.out.size);obtain ⟨Aa',ca',e1,_,_,q1⟩:=at_intsT (At.below hta hbV (fun g hg=>Nat.lt_of_lt_of_le hg hbV.size));obtain ⟨Ab',cb',e2,_,_,q2⟩:=at_intsT (At.below htb hbV (fun g hg=>Nat.lt_of_lt_of_le hg hbV.size));injection e1 with e3 _ e4;injection e2 with e5 _ e6;subst e3 e4 e5 e6
     exact int64s_any _ _ _ _ _ _ V q1 q2 (HXS.out _ (List.getElem_mem hlt)) (HYS.out _ (List.getElem_mem hlt2)) _ hbq)
    have hki:(0:Int)≤(k:Int):=by omega
    have hkl:(k:Int)<(xs.length:Int):=by omega
    have hkl2:(k:Int)<(ys.length:Int):=by omega
    have HNE:Hid (¬xs[k]=ys[k]→r=false):=hX (fun h=>by
     cases hr0:r with
     | false=>rfl
     | true=>
      have e:=HR.out.1 hr0;subst e
      exact absurd rfl h)
    have HLT:Hid (k<xs.length):=hX hlt;have HQ:=hX hbq;clear hbq hta htb;generalize xs[k]=x at *;generalize ys[k]=y at *;go_upto_region 6 with fail;refine HeldU.wp_region_until #[true,true,true,true,true,true,true,true,true,true] (fun V=>Below wr.heap.size wr V) (by kernel_rfl) ((Below.refl _ _).drew) (fun hSr0=>?_);refine' HeldU.tkU 0 (by simp only[tkD,tkE,tkG];rfl) (by kernel_rfl) (by exact fun _ _ _ h=>h) (by rfl) hSr0 (by intro V hSw;clear hSw;go_simp;try with_reducible rfl) ?_;try simp only[Act.put,tkA,tkB,tkC]
    refine' HeldU.tkU 1 (by simp only[tkD,tkE,tkG];rfl) (by kernel_rfl) (by exact fun _ _ _ h=>h) (by rfl) hSr0 (by intro V hSw;clear hSw;go_simp;try with_reducible rfl) ?_;try simp only[Act.put,tkA,tkB,tkC]
    refine' HeldU.tkU 2 (by simp only[tkD,tkE,tkG];rfl) (by kernel_rfl) (by exact fun _ _ _ h=>h) (by rfl) hSr0 (by intro V hSw;clear hSw;go_simp;try with_reducible rfl) ?_;try simp only[Act.put,tkA,tkB,tkC]
    refine' HeldU.tkU 3 (by simp only[tkD,tkE,tkG];rfl) (by kernel_rfl) (by exact fun _ _ _ h=>h) (by rfl) hSr0 (by intro V hSw;have a3:=(hSw.cell hal).trans a0;clear hSw;go_simp;try with_reducible rfl) ?_;try simp only[Act.put,tkA,tkB,tkC]
    refine' HeldU.tkU 4 (by simp only[tkD,tkE,tkG];rfl) (by kernel_rfl) (by exact fun _ _ _ h=>h) (by rfl) hSr0 (by intro V hSw;clear hSw;go_simp;try with_reducible rfl) ?_;try simp only[Act.put,tkA,tkB,tkC]
    refine' HeldU.tkU 5 (by simp only[tkD,tkE,tkG];rfl) (by kernel_rfl) (by exact fun _ _ _ h=>h) (by rfl) hSr0 (by intro V hSw;clear hSw;go_simp;try with_reducible rfl) ?_;try simp only[Act.put,tkA,tkB,tkC]
    refine' HeldU.tkU 6 (by simp only[tkD,tkE,tkG];rfl) (by kernel_rfl) (by exact fun _ _ _ h=>h) (by rfl) hSr0 (by intro V hSw;clear hSw;go_simp;try with_reducible rfl) ?_;try simp only[Act.put,tkA,tkB,tkC]
    refine' HeldU.tkU 7 (by simp only[tkD,tkE,tkG];rfl) (by kernel_rfl) (by exact fun _ _ _ h=>h) (by rfl) hSr0 (by intro V hSw;have b3:=(hSw.cell hbl).trans b0;clear hSw;go_simp;try with_reducible rfl) ?_;try simp only[Act.put,tkA,tkB,tkC]
    refine' HeldU.wpAnyU_one (i:=8) (by kernel_rfl) (by kernel_rfl) (by simp only[tkD,tkE,tkG];rfl) (fun K hK=>?_);go_simp;refine (HCAL.out _ (hSr0)).mono ?_;rintro e Vr1 ⟨rfl,hb⟩;have Br1:=hX (Below.trans hSr0 (hb.mono (hSr0).size));clear hb;go_simp;refine hK.out _ _ Br1.out (fun hSr1=>?_);clear hK K;try simp only[Act.put,tkA,tkB,tkC]
    refine' HeldU.tkU 9 (by simp only[tkD,tkE,tkG];rfl) (by kernel_rfl) (by exact fun _ _ _ h=>h) (by rfl) hSr1 (by intro V hSw;clear hSw;go_simp;try with_reducible rfl) ?_;try simp only[Act.put,tkA,tkB,tkC]
    refine HeldU.wpAnyU_done (by kernel_rfl) ?_
    cases b with
    | true=>
     have HXY:Hid (x=y):=hX (HQ.out.1 rfl);have HB9:Hid (Below w.heap.size w Vr1):=hX (HB.out.trans (Br1.out.mono HB.out.size));go_wp2_with fail;go_roundg (xs.length - (k+1))
     case measure=>have:=HLT.out;omega
     case rel=>exact ⟨k+1,by have:=HLT.out;omega,rfl,by go_num,hX (by rw[HST.out.1,HST.out.2,HE.out,HXY.out]),HB9⟩
    | false=>
     have HRF:=hX (HNE.out (fun h=>by have:=HQ.out.2 h;cases this));have HB9:Hid (Below w.heap.size w Vr1):=hX (HB.out.trans (Br1.out.mono HB.out.size));go_wp2_with fail;go_ret;rw[HRF.out];exact ⟨rfl,HB9.out⟩
   ·obtain rfl:k=xs.length:=by omega
    have hT:r=true:=(by rw[HR.out];have:=HE.out;rw[List.take_of_length_le (Nat.le_refl _),HL.out,List.take_of_length_le (Nat.le_refl _)] at this;exact this)
    have HRT:=hX hT;clear hT;go_wp2_with fail;go_ret;rw[HRT.out];exact ⟨rfl,HB.out⟩
 ·have hbne:((xs.length:Int) != (ys.length:Int))=true:=by rw[bne_iff_ne];omega
  have HRF:Hid (r=false):=hX (by
   cases hr0:r with
   | false=>rfl
   | true=>exact absurd (by rw[HR.out.1 hr0]) hl)
  clear hl;go_enter Tryz.func30,Tryz.ntmps30;go_wp2_with fail;go_ret;rw[HRF.out];exact ⟨rfl,Below.refl _ _⟩
end Go.Proofs.YtigfcihakghddaaGreatDoor.BufT
