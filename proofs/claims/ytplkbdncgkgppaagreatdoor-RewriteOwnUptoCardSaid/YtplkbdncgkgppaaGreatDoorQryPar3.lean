/- Lemmas that the last text leans on. -/
import Derived.Test.YtplkbdncgkgppaaGreatDoorPack8
import Derived.Test.YtplkbdncgkgppaaGreatDoorTake
import Derived.Test.YtplkbdncgkgppaaGreatDoorPack9
import Derived.Test.YtplkbdncgkgppaaGreatDoorPack7
set_option linter.all false
set_option maxRecDepth 100000
set_option maxHeartbeats 8000000
namespace Go.Proofs.YtplkbdncgkgppaaGreatDoor.Qry
open Go.RowKit Words Tree QryP Kit Sch SchP Owned
theorem zn5 (s:ByteArray) (gp k:Nat) (w:World) (h:Pa s gp k w) (hs:s.size≤4096):Calls Tryz.prog 81 #[.pointer (some ⟨gp,0,none⟩)] w (Out s gp k w (zdo (rem s k)) fun f v _=>v = .string f):=by
 have HRUN:=hX (run_any s gp k w h hs);have hlen:(zaf (rem s k)).length≤s.size:=Nat.le_trans (za6 _) (by rw[zds];omega);have hln:((zaf (rem s k)).takeWhile zco).length≤4096:=by have:=zfb zco (zaf (rem s k));omega
 clear h
 obtain ⟨x,hx⟩:∃x,zdo (rem s k)=x:=⟨_,rfl⟩
 rw[hx];have HX:Hid (x=if zbx (QryP.bytes ((zaf (rem s k)).takeWhile zco)) then .ok (QryP.bytes ((zaf (rem s k)).takeWhile zco),(zaf (rem s k)).dropWhile zco) else .error ((zaf (rem s k)).length,180)):=hX (by rw[←hx];rfl);clear hx;generalize (zaf (rem s k)).takeWhile zco=dt at *;generalize (zaf (rem s k)).dropWhile zco=dk at *;generalize (zaf (rem s k)).length=n at *;have HNM:=hX (fun W=>zgc (QryP.bytes dt) W (by rw[zeg];omega));generalize zbx (QryP.bytes dt)=b at *;go_enter Tryz.func81,Tryz.ntmps81;go_wp2_with fail;refine HRUN.out.mono ?_;rintro e w1 ⟨rfl,hat⟩;have HAT:=hX hat;clear hat HRUN;go_wp2_with fail;refine (HNM.out _).mono ?_;rintro e w2 ⟨rfl,hb⟩
 have HAT2:Hid (At s gp k w dk w2):=hX (by
  obtain ⟨hg,j,hj,hp,hr⟩:=HAT.out
  exact ⟨zaa hg (only_of_below hb _),j,hj,hp.keep hb,hr⟩)
 clear hb
 cases b with
 | true=>
  obtain rfl:x = .ok (QryP.bytes dt,dk):=HX.out;go_wp2_with fail;go_ret;exact ⟨_,rfl,rfl,HAT2.out⟩
 | false=>
  have HX2:Hid (x = .error (n,180)):=hX HX.out;have HWR:=hX (za1 ((s.size - n:Nat):Int) w2);go_wp2_with fail;refine HWR.out.mono ?_;rintro e w3 ⟨rfl,rfl⟩;refine ⟨rfl,?_⟩;rw[HX2.out];exact ⟨rfl,HAT2.out.1⟩
structure PTabs (w:World):Prop where
 syn:∃ev,w.cell? ⟨1,0,none⟩=some ev∧(ev = .nilIface∨∃te pe,ev = .iface te pe)
 range:∃ev,w.cell? ⟨2,0,none⟩=some ev∧(ev = .nilIface∨∃te pe,ev = .iface te pe)
 pow:Lib.TabIs Tryz.prog w "internal/strconv.uint64pow10" .u64 Lib.pow10Tab
def PT (B:Nat) (w:World):Prop:=B≤w.heap.size∧∀W,Below B w W→PTabs W
theorem PT.of {w:World} (h:PTabs w):PT w.heap.size w:=⟨Nat.le_refl _,fun W hb=>by
 obtain ⟨⟨ev,he,hv⟩,⟨ev',he',hv'⟩,hp⟩:=h
 exact ⟨⟨ev,(hb.cell (World.block_lt_of_cell? w _ he)).trans he,hv⟩,⟨ev',(hb.cell (World.block_lt_of_cell? w _ he')).trans he',hv'⟩,Go.Joins.tab_stays (g:=3) (by kernel_rfl) hp hb (Nat.le_refl _)⟩⟩
theorem PT.next {B:Nat} {w w':World} (h:PT B w) (hb:Below B w w'):PT B w':=⟨Nat.le_trans h.1 hb.size,fun W hW=>h.2 W (hb.trans hW)⟩
theorem PT.here {B:Nat} {w:World} (h:PT B w):PTabs w:=h.2 w (Below.refl _ _)
theorem zcs {B gp:Nat} {w w':World} (hg:w.grownBy w' (some gp)) (hB:B≤w.heap.size) (hgp:B≤gp):Below B w w':=⟨hg.os,hg.tape,hg.output,hg.size,fun i hi=>hg.block i (by omega) (fun e=>by cases e;omega)⟩
theorem PT.grown {B gp:Nat} {w w':World} (h:PT B w) (hg:w.grownBy w' (some gp)) (hgp:B≤gp):PT B w':=h.next (zcs hg h.1 hgp)
theorem zyq (s:ByteArray) (hs:s.size≤4096) (w:World) (hT:PTabs w) :
 Calls Tryz.prog 124 #[.string s,.int .i64 10,.int .i64 64] w (fun e w'=>(∃n a,e = .returned (.tuple #[.int .i64 n,a])∧((a = .nilIface∧zbm s.data.toList=some n)∨(∃t p,a = .iface t p∧zbm s.data.toList=none)))∧Below w.heap.size w w'):=by
 by_cases h:∃v,Lib.parseIntB 64 s.data.toList = .ok v
 ·obtain ⟨v,hv⟩:=h
  refine (Tryz.strconv_ParseInt_10_at64_ok s (by omega) v hv w).mono fun e w' ⟨he,hw⟩=>⟨⟨v,_,he,.inl ⟨rfl,by unfold zbm;rw[hv]⟩⟩,?_⟩
  rcases hw with rfl | ⟨t,rfl⟩
  ·exact Below.refl _ _
  ·exact ⟨rfl,rfl,rfl,by rw[Lib.bytesWorld_size];omega,fun k hk=>Lib.bytesWorld_at_old w _ t k hk⟩
 ·by_cases h2:Lib.parseIntB 64 s.data.toList = .range
  ·obtain ⟨ev,he,hv⟩:=hT.range
   refine (Tryz.strconv_ParseInt_10_at64_range s (by omega) h2 ev w he hv).mono fun e w' ⟨N,he,_,_,hb⟩=>⟨⟨_,_,he,.inr ⟨_,_,rfl,by unfold zbm;rw[h2]⟩⟩,hb⟩
  ·obtain ⟨ev,he,hv⟩:=hT.syn
   refine (Tryz.strconv_ParseInt_10_at64_none s (by omega) (fun v hv=>h ⟨v,hv⟩) h2 ev w he hv).mono fun e w' ⟨N,he,_,_,hb⟩=>⟨⟨_,_,he,.inr ⟨_,_,rfl,?_⟩⟩,hb⟩
   unfold zbm;split
   ·rename_i v hv;exact absurd ⟨v,hv⟩ h
   ·rfl
theorem zvc (c:UInt8):digB c=true∧decide (48≤(c.toNat:Int))=true∧decide ((c.toNat:Int)≤57)=true∨digB c=false∧decide (48≤(c.toNat:Int))=false∨digB c=false∧decide (48≤(c.toNat:Int))=true∧decide ((c.toNat:Int)≤57)=false:=by
 by_cases h1:48≤c.toNat
 ·by_cases h2:c.toNat≤57
  ·exact .inl ⟨decide_eq_true ⟨h1,h2⟩,decide_eq_true (by omega),decide_eq_true (by omega)⟩
  ·exact .inr (.inr ⟨decide_eq_false (fun h=>h2 h.2),decide_eq_true (by omega),decide_eq_false (by omega)⟩)
 ·exact .inr (.inl ⟨decide_eq_false (fun h=>h1 h.1),decide_eq_false (by omega)⟩)
theorem ybr {s:ByteArray} {k:Nat} (h:k<s.size):(rem s k).takeWhile digB=(if digB s[k] then s[k]::(rem s (k+1)).takeWhile digB else [])∧(rem s k).dropWhile digB=(if digB s[k] then (rem s (k+1)).dropWhile digB else rem s k):=by
 rw[zbd h,List.takeWhile_cons,List.dropWhile_cons];exact ⟨rfl,rfl⟩
def Sgn (s:ByteArray) (j0 j1:Nat) (f:R):Prop:=j0≤j1∧j1≤s.size∧rem s j1=zjq f∧(rem s j0).take (j1 - j0)=zhe f
theorem zvd {s:ByteArray} {a j:Nat} (ha:a≤j) (hj:j<s.size):(rem s a).take (j+1 - a)=(rem s a).take (j - a)++[s[j]]:=by
 have hl:j - a<(rem s a).length:=by rw[zds];omega
 rw[show j+1 - a=j - a+1 by omega,List.take_succ_eq_append_getElem hl];congr 2
 simp only[rem,List.getElem_drop];simp[show a+(j - a)=j by omega];rfl
theorem zyr {s:ByteArray} {a b j:Nat} (h1:a≤b) (h2:b≤j):(rem s a).take (j - a)=(rem s a).take (b - a)++(rem s b).take (j - b):=by
 unfold rem;rw[show j - a=(b - a)+(j - b) by omega,List.take_add,List.drop_drop,show a+(b - a)=b by omega]
theorem ybs {s:ByteArray} {j:Nat} {f:R} (h:j<s.size) (hf:f=s[j]::rem s (j+1)) (hm:s[j]=45):Sgn s j (j+1) f:=by
 refine ⟨by omega,h,?_,?_⟩
 ·unfold zjq;rw[hf,hm];rfl
 ·unfold zhe;rw[zbd h,hf,hm,show j+1 - j=1 by omega];rfl
theorem yaw {s:ByteArray} {j:Nat} {f:R} (h:j≤s.size) (hf:rem s j=f) (hm:f.head?≠some 45):Sgn s j j f:=by
 refine ⟨Nat.le_refl _,h,?_,?_⟩
 ·unfold zjq;rw[if_neg hm];exact hf
 ·unfold zhe;rw[if_neg hm,Nat.sub_self];rfl
theorem zys {s:ByteArray} {k:Nat} (h:s.size≤k):rem s k=[]:=by unfold rem;rw[List.drop_eq_nil_iff];simpa using h
theorem zgf (B:Nat) (s:ByteArray) (gp k:Nat) (w:World) (h:Pa s gp k w) (hs:s.size≤4096) (hB:B≤gp) (hT:PT B w):Calls Tryz.prog 77 #[.pointer (some ⟨gp,0,none⟩)] w (Out s gp k w (zgp zan zbm (rem s k)) fun n v _=>v = .int .i64 n∧I64 n):=by
 have HSK:=hX (zdd s gp k w h hs);have HPT0:=hX hT
 obtain ⟨x,hx⟩:∃x,zgp zan zbm (rem s k)=x:=⟨_,rfl⟩
 rw[hx];have HX:=hX hx;clear h hT hx
 obtain ⟨f,hf⟩:∃f,zaf (rem s k)=f:=⟨_,rfl⟩
 rw[hf] at HSK;have HF:=hX hf;clear hf
 obtain ⟨dt,htk⟩:∃t,(zjq f).takeWhile digB=t:=⟨_,rfl⟩
 obtain ⟨dk,hdk⟩:∃t,(zjq f).dropWhile digB=t:=⟨_,rfl⟩
 have HTK:=hX htk;have HDK:=hX hdk;have HXM:Hid (x=match zbm (zhe f++dt) with | none=>.error (f.length,180) | some n=>if zan n=zhe f++dt then .ok (n,dk) else .error (f.length,180)):=hX (by rw[←HX.out,←htk,←hdk,←HF.out];rfl);clear htk hdk;go_enter Tryz.func77,Tryz.ntmps77;go_wp2_with fail;refine HSK.out.mono ?_;rintro e w1 ⟨rfl,hg,j0,hkj,hp,hrem⟩;have HG1:=hX hg;have HJ1:=hX hp;have HR1:=hX hrem;have hj0:=HJ1.out.le;have c1:w1.cell? ⟨gp,1,none⟩=some (.int .i64 j0):=HJ1.out.blk.cell 1;clear hg hp hrem HSK;go_upto_region 3 with fail;have h1:(0:Int)≤(j0:Int):=by omega
 have c0:w1.cell? ⟨gp,0,none⟩=some (.string s):=HJ1.out.blk.cell 0;by_cases hlt:j0<s.size;have z1:w1.frozen? ⟨gp,1,none⟩=false:=HJ1.out.blk.frozen 1;have h2:(j0:Int)<(s.size:Int):=by omega
 have hfc:f=s[j0]::rem s (j0+1):=by rw[←HR1.out];exact zbd hlt
 by_cases hm:s[j0]=45;have d1:((s[j0].toNat:Int) == 45)=true:=by rw[hm];rfl
 have HSG:Hid (Sgn s j0 (j0+1) f):=hX (ybs hlt hfc hm);clear hfc hm;go_quiet (fail);go_upto_region 4 with fail;have HJs:Hid (Pa s gp (j0+1) ((w1.drewN nq).setCell ⟨gp,1,none⟩ (.int .i64 (j0+1)))):=hX ((HJ1.out.drewN nq).next 1 hlt _ (by omega));have HGs:Hid (w.grownBy ((w1.drewN nq).setCell ⟨gp,1,none⟩ (.int .i64 (j0+1))) (some gp)):=hX (zcr (zaq HG1.out nq) 1 _);go_upto_block 0 with fail;generalize (w1.drewN nq).setCell ⟨gp,1,none⟩ (.int .i64 (j0+1))=ws at *
 obtain ⟨J1,HSG,HJs⟩:∃J,Hid (Sgn s j0 J f)∧Hid (Pa s gp J ws):=⟨_,HSG,HJs⟩
 rotate_left
 have d1:((s[j0].toNat:Int) == 45)=false:=(by rw[beq_eq_false_iff_ne];intro e;exact hm (UInt8.toNat_inj.1 (by show s[j0].toNat=45;omega)))
 have HSG:Hid (Sgn s j0 j0 f):=hX (yaw hj0 HR1.out (by rw[hfc];simpa using hm));clear hfc hm;rotate_left
 have hge:s.size≤j0:=by omega
 have d0:decide ((j0:Int)<(s.size:Int))=false:=decide_eq_false (by omega);have HSG:Hid (Sgn s j0 j0 f):=hX (yaw hj0 HR1.out (by rw[←HR1.out,zys hge];simp));rotate_left
 rotate_left
 iterate 2
  go_quiet (fail);have HJs:Hid (Pa s gp j0 (w1.drewN nq)):=hX (HJ1.out.drewN nq);have HGs:Hid (w.grownBy (w1.drewN nq) (some gp)):=hX (zaq HG1.out nq);go_upto_block 0 with fail;try clear d0
  generalize w1.drewN nq=ws at *
  obtain ⟨J1,HSG,HJs⟩:∃J,Hid (Sgn s j0 J f)∧Hid (Pa s gp J ws):=⟨_,HSG,HJs⟩
  rotate_left
 all_goals
  go_upto_block 0 with fail;go_cut [] from 41 (fun wx=>∃j:Nat,J1≤j∧j≤s.size∧Hid (Pa s gp j wx)∧Hid (w.grownBy wx (some gp))∧Hid ((rem s J1).take (j - J1)=dt∧rem s j=dk))
  case first=>
   have H0:Hid (w.grownBy ws (some gp)∧((rem s J1).take (J1 - J1)++(rem s J1).takeWhile digB=dt∧(rem s J1).dropWhile digB=dk)):=hX ⟨HGs.out,by rw[Nat.sub_self,List.take_zero,HSG.out.2.2.1];exact HTK.out,by rw[HSG.out.2.2.1];exact HDK.out⟩;have hj1s:=HSG.out.2.1;go_wp2_with fail;go_loopg [] (s.size - (J1)) (fun n wr=>∃j:Nat,J1≤j∧j≤s.size∧n=s.size - j∧Hid (Pa s gp j wr)∧Hid (w.grownBy wr (some gp)∧((rem s J1).take (j - J1)++(rem s j).takeWhile digB=dt∧(rem s j).dropWhile digB=dk)))
   case atStart=>exact ⟨J1,Nat.le_refl _,hj1s,rfl,HJs,H0⟩
   case round=>
    clear H0;obtain ⟨j,hkj2,hj,rfl,HJ,HE⟩:=hrel;by_cases hlt:j<s.size
    ·have c0:wr.cell? ⟨gp,0,none⟩=some (.string s):=HJ.out.blk.cell 0;have c1:wr.cell? ⟨gp,1,none⟩=some (.int .i64 j):=HJ.out.blk.cell 1;have z1:wr.frozen? ⟨gp,1,none⟩=false:=HJ.out.blk.frozen 1;have h1:(0:Int)≤(j:Int):=by omega
     have h2:(j:Int)<(s.size:Int):=by omega
     have HS:=hX (ybr hlt);have HTA:=hX (zvd hkj2 hlt);have hdc:=zvc s[j];generalize hlb:digB s[j]=b at *;clear hlb
     rcases hdc with ⟨rfl,d1,d2⟩ | ⟨rfl,d1⟩ | ⟨rfl,d1,d2⟩
     ·go_upto_region 5 with fail;go_quiet (fail);go_wp2_with fail;have HN:Hid (Pa s gp (j+1) ((wr.drewN nq).setCell ⟨gp,1,none⟩ (.int .i64 (j+1)))):=hX ((HJ.out.drewN nq).next 1 hlt _ (by omega))
      have HG:Hid (w.grownBy ((wr.drewN nq).setCell ⟨gp,1,none⟩ (.int .i64 (j+1))) (some gp)∧((rem s J1).take (j+1 - J1)++(rem s (j+1)).takeWhile digB=dt∧(rem s (j+1)).dropWhile digB=dk)):=hX ⟨zcr (zaq HE.out.1 nq) 1 _,by
       have:=HE.out.2.1;rw[HS.out.1] at this
       rw[HTA.out,←this];simp,by
       have:=HE.out.2.2;rw[HS.out.2] at this
       exact this⟩
      go_roundg (s.size - (j+1))
      case measure=>omega
      case rel=>exact ⟨j+1,by omega,by omega,rfl,HN,HG⟩
     all_goals
      have HT:Hid ((rem s J1).take (j - J1)=dt∧rem s j=dk):=hX ⟨by
       have:=HE.out.2.1;rw[HS.out.1] at this
       simpa using this,by
       have:=HE.out.2.2;rw[HS.out.2] at this
       exact this⟩
      go_upto_region 5 with fail;go_quiet (fail);go_wp2_with fail;go_meet;exact ⟨j,hkj2,hj,HJ.out.drewN nq,zaq HE.out.1 nq,HT⟩
    ·obtain rfl:j=s.size:=by omega
     have c0:wr.cell? ⟨gp,0,none⟩=some (.string s):=HJ.out.blk.cell 0;have c1:wr.cell? ⟨gp,1,none⟩=some (.int .i64 s.size):=HJ.out.blk.cell 1
     have HT:Hid ((rem s J1).take (s.size - J1)=dt∧rem s s.size=dk):=hX ⟨by
      have:=HE.out.2.1;rw[zda] at this
      simpa using this,by
      have:=HE.out.2.2;rw[zda] at this ⊢
      exact this⟩
     go_upto_region 5 with fail;go_quiet (fail);go_wp2_with fail;go_meet;exact ⟨s.size,hkj2,hj,HJ.out.drewN nq,zaq HE.out.1 nq,HT⟩
  case rest=>
   obtain ⟨j,hkj2,hj,HJ,HG,HT⟩:=hcut;have hj01:=HSG.out.1
   have HTXT:Hid (s.extract j0 j=QryP.bytes (zhe f++dt)):=hX (by
    rw[zj4 (by omega) hj];congr 1
    rw[←HSG.out.2.2.2,←HT.out.1]
    exact zyr (by omega) (by omega))
   skip;have hTXd:(QryP.bytes (zhe f++dt)).data.toList=zhe f++dt:=by simp[QryP.bytes]
   have hTXs:(QryP.bytes (zhe f++dt)).size≤4096:=by
    rw[←HTXT.out];have:(s.extract j0 j).size≤s.size:=by rw[ByteArray.size_extract];omega
    omega
   have hext:=HTXT.out
   obtain ⟨TX,hTX⟩:∃X,QryP.bytes (zhe f++dt)=X:=⟨_,rfl⟩
   rw[hTX] at hTXd hTXs hext;have HTXd:=hX hTXd;clear hTX hTXd HTXT;have HPT:=hX (HPT0.out.grown HG.out hB);have h3:(0:Int)≤(j0:Int):=by omega
   have h4:(j0:Int)≤(j:Int):=by omega
   have h5:(j:Int)≤(s.size:Int):=by omega
   go_upto_region 7 with fail;refine wp_region_held_drew (S:=fun V=>Below wc.heap.size wc V) (by kernel_rfl) (Below.refl _ wc).drew (fun hZ0=>?_);refine' tk 0 (by simp only[tkD,tkE,tkG];rfl) (by kernel_rfl) (by exact fun _ _ _ h=>h) (by rfl) hZ0 (by intro V hSw;clear hSw;go_simp;try with_reducible rfl) ?_;try simp only[Act.put,tkA,tkB,tkC]
   refine' tk 1 (by simp only[tkD,tkE,tkG];rfl) (by kernel_rfl) (by exact fun _ _ _ h=>h) (by rfl) hZ0 (by intro V hSw;clear hSw;go_simp;try with_reducible rfl) ?_;try simp only[Act.put,tkA,tkB,tkC]
   refine' tk 2 (by simp only[tkD,tkE,tkG];rfl) (by kernel_rfl) (by exact fun _ _ _ h=>h) (by rfl) hZ0 (by intro V hSw;clear hSw;go_simp;try with_reducible rfl) ?_;try simp only[Act.put,tkA,tkB,tkC]
   refine' tk 3 (by simp only[tkD,tkE,tkG];rfl) (by kernel_rfl) (by exact fun _ _ _ h=>h) (by rfl) hZ0 (by intro V hSw;have f0:=(HJ.out.keep hSw).blk.cell 0;clear hSw;go_simp;try with_reducible rfl) ?_;try simp only[Act.put,tkA,tkB,tkC]
   refine' tk 4 (by simp only[tkD,tkE,tkG];rfl) (by kernel_rfl) (by exact fun _ _ _ h=>h) (by rfl) hZ0 (by intro V hSw;clear hSw;go_simp;try with_reducible rfl) ?_;try simp only[Act.put,tkA,tkB,tkC]
   refine' tk 5 (by simp only[tkD,tkE,tkG];rfl) (by kernel_rfl) (by exact fun _ _ _ h=>h) (by rfl) hZ0 (by intro V hSw;clear hSw;go_simp;try with_reducible rfl) ?_;try simp only[Act.put,tkA,tkB,tkC]
   refine' tk 6 (by simp only[tkD,tkE,tkG];rfl) (by kernel_rfl) (by exact fun _ _ _ h=>h) (by rfl) hZ0 (by intro V hSw;clear hSw;go_simp;try with_reducible rfl) ?_;try simp only[Act.put,tkA,tkB,tkC]
   refine' tk 7 (by simp only[tkD,tkE,tkG];rfl) (by kernel_rfl) (by exact fun _ _ _ h=>h) (by rfl) hZ0 (by intro V hSw;clear hSw;go_simp;try with_reducible rfl) ?_;try simp only[Act.put,tkA,tkB,tkC]
   refine' tk 8 (by simp only[tkD,tkE,tkG];rfl) (by kernel_rfl) (by exact fun _ _ _ h=>h) (by rfl) hZ0 (by intro V hSw;have f1:=(HJ.out.keep hSw).blk.cell 1;clear hSw;go_simp;try with_reducible rfl) ?_;try simp only[Act.put,tkA,tkB,tkC]
   refine' tk 9 (by simp only[tkD,tkE,tkG];rfl) (by kernel_rfl) (by exact fun _ _ _ h=>h) (by rfl) hZ0 (by intro V hSw;clear hSw;go_simp;try with_reducible rfl) ?_;try simp only[Act.put,tkA,tkB,tkC]
   refine wpAnyH_ready (rs:=[10]) (by kernel_rfl) (by simp) ?_;refine' AllReadyH.cons (by simp only[tkD,tkE,tkG];rfl) (fun KC hK=>?_) AllReadyH.nil;go_simp;refine (zyq TX hTXs _ (HPT.out.next (hZ0.mono HPT.out.1)).here).mono ?_;rintro e VA1 ⟨⟨n,a,rfl,hna⟩,hb⟩;have hs1:Below wc.heap.size wc VA1:=hZ0.trans (hb.mono hZ0.size);clear hb;go_simp;refine hK.out _ _ hs1 (fun hZ1=>?_);clear hK;try simp only[Act.put,tkA,tkB,tkC]
   refine' tk 11 (by simp only[tkD,tkE,tkG];rfl) (by kernel_rfl) (by exact fun _ _ _ h=>h) (by rfl) hZ1 (by intro V hSw;clear hSw;go_simp;try with_reducible rfl) ?_;try simp only[Act.put,tkA,tkB,tkC]
   refine' tk 12 (by simp only[tkD,tkE,tkG];rfl) (by kernel_rfl) (by exact fun _ _ _ h=>h) (by rfl) hZ1 (by intro V hSw;clear hSw;go_simp;try with_reducible rfl) ?_;try simp only[Act.put,tkA,tkB,tkC]
   refine' tk 13 (by simp only[tkD,tkE,tkG];rfl) (by kernel_rfl) (by exact fun _ _ _ h=>h) (by rfl) hZ1 (by intro V hSw;clear hSw;go_simp;try with_reducible rfl) ?_;try simp only[Act.put,tkA,tkB,tkC]
   refine' tk 14 (by simp only[tkD,tkE,tkG];rfl) (by kernel_rfl) (by exact fun _ _ _ h=>h) (by rfl) hZ1 (by intro V hSw;clear hSw;go_simp;try with_reducible rfl) ?_;try simp only[Act.put,tkA,tkB,tkC]
   refine' tk 15 (by simp only[tkD,tkE,tkG];rfl) (by kernel_rfl) (by exact fun _ _ _ h=>h) (by rfl) hZ1 (by intro V hSw;clear hSw;go_simp;try with_reducible rfl) ?_;try simp only[Act.put,tkA,tkB,tkC]
   refine wpAnyH_done (by kernel_rfl) ?_ _;have HB1:=hX hZ1;have HJ8:Hid (Pa s gp j VA1):=hX (HJ.out.keep hZ1);clear hZ0 hZ1 hs1;have c0:VA1.cell? ⟨gp,0,none⟩=some (.string s):=HJ8.out.blk.cell 0;have c1:VA1.cell? ⟨gp,1,none⟩=some (.int .i64 j):=HJ8.out.blk.cell 1;rw[HTXd.out] at hna
   rcases hna with ⟨rfl,hp⟩ | ⟨ta,pa,rfl,hp⟩
   ·have HXE:Hid (x=if zan n=zhe f++dt then .ok (n,dk) else .error (f.length,180)):=hX (by rw[HXM.out,hp]);have hI:=zvb hp;have HI:=hX hI;clear hp hI;go_upto_region 8 with fail;clear c0 c1;refine wp_region_held_drew (S:=fun V=>Below VA1.heap.size VA1 V) (by kernel_rfl) (Below.refl _ VA1).drew (fun hZ0=>?_);refine' tk 0 (by simp only[tkD,tkE,tkG];rfl) (by kernel_rfl) (by exact fun _ _ _ h=>h) (by rfl) hZ0 (by intro V hSw;clear hSw;go_simp;try with_reducible rfl) ?_;try simp only[Act.put,tkA,tkB,tkC]
    refine' tk 1 (by simp only[tkD,tkE,tkG];rfl) (by kernel_rfl) (by exact fun _ _ _ h=>h) (by rfl) hZ0 (by intro V hSw;clear hSw;go_simp;try with_reducible rfl) ?_;try simp only[Act.put,tkA,tkB,tkC]
    refine' tk 2 (by simp only[tkD,tkE,tkG];rfl) (by kernel_rfl) (by exact fun _ _ _ h=>h) (by rfl) hZ0 (by intro V hSw;clear hSw;go_simp;try with_reducible rfl) ?_;try simp only[Act.put,tkA,tkB,tkC]
    refine' tk 3 (by simp only[tkD,tkE,tkG];rfl) (by kernel_rfl) (by exact fun _ _ _ h=>h) (by rfl) hZ0 (by intro V hSw;clear hSw;go_simp;try with_reducible rfl) ?_;try simp only[Act.put,tkA,tkB,tkC]
    refine' tk 5 (by simp only[tkD,tkE,tkG];rfl) (by kernel_rfl) (by exact fun _ _ _ h=>h) (by rfl) hZ0 (by intro V hSw;clear hSw;go_simp;try with_reducible rfl) ?_;try simp only[Act.put,tkA,tkB,tkC]
    refine' tk 6 (by simp only[tkD,tkE,tkG];rfl) (by kernel_rfl) (by exact fun _ _ _ h=>h) (by rfl) hZ0 (by intro V hSw;clear hSw;go_simp;try with_reducible rfl) ?_;try simp only[Act.put,tkA,tkB,tkC]
    refine' tk 7 (by simp only[tkD,tkE,tkG];rfl) (by kernel_rfl) (by exact fun _ _ _ h=>h) (by rfl) hZ0 (by intro V hSw;clear hSw;go_simp;try with_reducible rfl) ?_;try simp only[Act.put,tkA,tkB,tkC]
    refine' tk 8 (by simp only[tkD,tkE,tkG];rfl) (by kernel_rfl) (by exact fun _ _ _ h=>h) (by rfl) hZ0 (by intro V hSw;have f0:=(HJ8.out.keep hSw).blk.cell 0;clear hSw;go_simp;try with_reducible rfl) ?_;try simp only[Act.put,tkA,tkB,tkC]
    refine' tk 9 (by simp only[tkD,tkE,tkG];rfl) (by kernel_rfl) (by exact fun _ _ _ h=>h) (by rfl) hZ0 (by intro V hSw;clear hSw;go_simp;try with_reducible rfl) ?_;try simp only[Act.put,tkA,tkB,tkC]
    refine' tk 10 (by simp only[tkD,tkE,tkG];rfl) (by kernel_rfl) (by exact fun _ _ _ h=>h) (by rfl) hZ0 (by intro V hSw;clear hSw;go_simp;try with_reducible rfl) ?_;try simp only[Act.put,tkA,tkB,tkC]
    refine' tk 11 (by simp only[tkD,tkE,tkG];rfl) (by kernel_rfl) (by exact fun _ _ _ h=>h) (by rfl) hZ0 (by intro V hSw;clear hSw;go_simp;try with_reducible rfl) ?_;try simp only[Act.put,tkA,tkB,tkC]
    refine' tk 12 (by simp only[tkD,tkE,tkG];rfl) (by kernel_rfl) (by exact fun _ _ _ h=>h) (by rfl) hZ0 (by intro V hSw;clear hSw;go_simp;try with_reducible rfl) ?_;try simp only[Act.put,tkA,tkB,tkC]
    refine' tk 13 (by simp only[tkD,tkE,tkG];rfl) (by kernel_rfl) (by exact fun _ _ _ h=>h) (by rfl) hZ0 (by intro V hSw;have f1:=(HJ8.out.keep hSw).blk.cell 1;clear hSw;go_simp;try with_reducible rfl) ?_;try simp only[Act.put,tkA,tkB,tkC]
    refine' tk 14 (by simp only[tkD,tkE,tkG];rfl) (by kernel_rfl) (by exact fun _ _ _ h=>h) (by rfl) hZ0 (by intro V hSw;clear hSw;go_simp;try with_reducible rfl) ?_;try simp only[Act.put,tkA,tkB,tkC]
    refine wpAnyH_ready (rs:=[4]) (by kernel_rfl) (by simp) ?_;refine' AllReadyH.cons (by simp only[tkD,tkE,tkG];rfl) (fun KC hK=>?_) AllReadyH.nil;go_simp;refine (zrw n HI.out _ (HPT.out.next ((HB1.out.mono HPT.out.1).trans (hZ0.mono (Nat.le_trans HPT.out.1 HB1.out.size)))).here.pow).mono ?_;rintro e VB1 ⟨rfl,hb⟩;have hs1:Below VA1.heap.size VA1 VB1:=hZ0.trans (hb.mono hZ0.size);clear hb;go_simp;refine hK.out _ _ hs1 (fun hZ1=>?_);clear hK;try simp only[Act.put,tkA,tkB,tkC]
    have HEQ:Hid (zan n=zhe f++dt↔str (zan n)=TX):=hX (by
     rw[←HTXd.out];constructor
     ·intro h;exact ByteArray.ext (Array.ext' (by simpa [str] using h))
     ·intro h;rw[←h];simp[str])
    by_cases hE:str (zan n)=TX
    ·have HX2:Hid (x = .ok (n,dk)):=hX (by rw[HXE.out,if_pos (HEQ.out.2 hE)]);clear HEQ HXE;refine' tk 15 (by simp only[tkD,tkE,tkG];rfl) (by kernel_rfl) (by exact fun _ _ _ h=>h) (by rfl) hZ1 (by intro V hSw;clear hSw;go_simp;try with_reducible rfl) ?_;try simp only[Act.put,tkA,tkB,tkC]
     refine' tk 16 (by simp only[tkD,tkE,tkG];rfl) (by kernel_rfl) (by exact fun _ _ _ h=>h) (by rfl) hZ1 (by intro V hSw;clear hSw;go_simp;try with_reducible rfl) ?_;try simp only[Act.put,tkA,tkB,tkC]
     refine wpAnyH_done (by kernel_rfl) ?_ _;have HB2:=hX (HB1.out.trans (hZ1.mono HB1.out.size));clear hE hs1 hZ0 hZ1;go_wp2_with fail;go_ret;rw[HX2.out];exact ⟨_,rfl,⟨rfl,HI.out⟩,zaa HG.out (only_of_below HB2.out _),j,by omega,HJ.out.keep HB2.out,HT.out.2⟩
    ·have HX2:Hid (x = .error (f.length,180)):=hX (by rw[HXE.out,if_neg (fun h=>hE (HEQ.out.1 h))])
     have dE:((str (zan n)).toList == TX.toList)=false:=(by rw[beq_eq_false_iff_ne];intro h;exact hE (ByteArray.ext (Array.ext' (by rw[ByteArray.toList_eq,ByteArray.toList_eq] at h;exact h))))
     clear HEQ HXE;refine' tk 15 (by simp only[tkD,tkE,tkG];rfl) (by kernel_rfl) (by exact fun _ _ _ h=>h) (by rfl) hZ1 (by intro V hSw;clear hSw;go_simp;try with_reducible rfl) ?_;try simp only[Act.put,tkA,tkB,tkC]
     refine' tk 16 (by simp only[tkD,tkE,tkG];rfl) (by kernel_rfl) (by exact fun _ _ _ h=>h) (by rfl) hZ1 (by intro V hSw;clear hSw;go_simp;try with_reducible rfl) ?_;try simp only[Act.put,tkA,tkB,tkC]
     refine wpAnyH_done (by kernel_rfl) ?_ _;have HB2:=hX (HB1.out.trans (hZ1.mono HB1.out.size));have HWR:=hX (za1 j0 VB1);clear hE hs1 hZ0 hZ1;go_wp2_with fail;refine HWR.out.mono ?_;rintro e w3 ⟨rfl,rfl⟩;refine ⟨rfl,?_⟩;rw[HX2.out,←HR1.out];exact ⟨zde hj0 180,zaa HG.out (only_of_below HB2.out _)⟩
   ·have HX2:Hid (x = .error (f.length,180)):=hX (by rw[HXM.out,hp]);clear hp;go_upto_region 8 with fail;go_quiet (fail);have HB2:=hX (below_drewN HB1.out nq);have HWR:=hX (za1 j0 (VA1.drewN nq));go_wp2_with fail;refine HWR.out.mono ?_;rintro e w3 ⟨rfl,rfl⟩;refine ⟨rfl,?_⟩;rw[HX2.out,←HR1.out];exact ⟨zde hj0 180,zaa HG.out (only_of_below HB2.out _)⟩
end Go.Proofs.YtplkbdncgkgppaaGreatDoor.Qry
