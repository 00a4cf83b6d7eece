/- Lemmas that the last text leans on. -/
import Derived.Test.YtigfcihakghddaaGreatDoorTake
import Derived.Test.YtigfcihakghddaaGreatDoorChecked
import Derived.Test.YtigfcihakghddaaGreatDoorShelf
import Derived.Test.YtigfcihakghddaaGreatDoorPack15
import Derived.Lib.TrimUEq
import Derived.Lib.MapLaws
import Derived.Lib.SmallJoins
import Derived.Lib.LaidTab
import Derived.Deep.Light
import Derived.Shelf.GgClosure.StringsIndexFunc
import Derived.Outline
set_option linter.all false
section
namespace OrdP
open Go.Lib Go
theorem prefix_minus (l:List UInt8):hasPrefix l [45]=below l∧trimPrefix l [45]=size l:=by
 have h:hasPrefix l [45]=below l:=by
  unfold hasPrefix below
  cases l with
  | nil=>rfl
  | cons c r=>
   simp only[List.isPrefixOf,List.head?_cons,Option.some.injEq,Bool.and_true];rw[Bool.eq_iff_iff,beq_iff_eq,decide_eq_true_eq];exact eq_comm
 refine ⟨h,?_⟩;unfold trimPrefix size;rw[h];rfl
theorem occ_one (l:List UInt8) (i:Nat):occAt l [46] i=true↔l[i]?=some 46:=by
 unfold occAt;rw[←List.head?_drop]
 cases l.drop i with
 | nil=>simp[List.isPrefixOf]
 | cons c r=>
  simp only[List.isPrefixOf,Bool.and_true,List.head?_cons,Option.some.injEq,beq_iff_eq];exact eq_comm
theorem cut_point (l:List UInt8):CutAt l (cut l [46]).1 (cut l [46]).2.1 (cut l [46]).2.2:=by
 unfold cut
 rcases index_spec l [46] with ⟨h1,h2⟩ | ⟨i,h1,h2,h3,h4⟩
 ·rw[if_neg (by omega)];left;refine ⟨rfl,rfl,rfl,fun hm=>?_⟩;obtain ⟨i,hi,e⟩:=List.getElem_of_mem hm;have:=h2 i (by omega);rw[(occ_one l i).2 (by rw[List.getElem?_eq_getElem hi,e])] at this;cases this
 ·rw[h1,if_pos (by omega)];right;have hi:=(occ_one l i).1 h3;have hl:=(List.getElem?_eq_some_iff.1 hi).1;refine ⟨rfl,?_,fun hm=>?_⟩
  ·simp only[Int.toNat_natCast,List.length_singleton];have:=List.drop_eq_getElem_cons hl;rw[(List.getElem?_eq_some_iff.1 hi).2] at this;rw[←this,List.take_append_drop]
  ·simp only[Int.toNat_natCast] at hm;obtain ⟨j,hj,e⟩:=List.getElem_of_mem hm;have hj':j<i:=by rw[List.length_take] at hj;omega
   have:=h4 j hj';rw[List.getElem_take] at e;rw[(occ_one l j).2 (by rw[List.getElem?_eq_getElem (by omega),e])] at this;cases this
def noDig (x:Nat):Bool:=decide (x<48∨57<x)
theorem noDig_N (n b0 b1 b2 b3:Nat) (k0:b0<256):decide ((decodeN n b0 b1 b2 b3).1<48∨57<(decodeN n b0 b1 b2 b3).1) = !(decide (48≤b0∧b0≤57))∧(decide (48≤b0∧b0≤57)=true→(decodeN n b0 b1 b2 b3).2=1):=by
 by_cases h:b0<128
 ·unfold decodeN;rw[if_pos h];dsimp only;refine ⟨?_,fun _=>rfl⟩;rw[Bool.eq_iff_iff];simp only[decide_eq_true_eq,Bool.not_eq_true',decide_eq_false_iff_not];omega
 ·have h2:57<(decodeN n b0 b1 b2 b3).1:=by
   rcases decodeN_shape n b0 b1 b2 b3 with ⟨c,e⟩ | ⟨c1,c2,c3,cv,e⟩ | ⟨c1,c2,c3,c4,cv,cs,e⟩ | ⟨c1,c2,c3,c4,c5,cv,cw,e⟩ | e;all_goals (rw[e];dsimp only;omega)
  refine ⟨?_,fun h3=>?_⟩
  ·rw[Bool.eq_iff_iff];simp only[decide_eq_true_eq,Bool.not_eq_true',decide_eq_false_iff_not];omega
  ·rw[decide_eq_true_eq] at h3;omega
theorem noDig_first (l:List UInt8):noDig (decodeL l).1 = !(digB (l.getD 0 0))∧(digB (l.getD 0 0)=true→(decodeL l).2=1):=by
 rw[decodeL_N];exact noDig_N _ _ _ _ _ (l.getD 0 0).toNat_lt
theorem idx_digits (s:ByteArray):∀(f pos:Nat),s.size - pos≤f→(decide (idxFuncFrom noDig true s f pos<0)=(s.data.toList.drop pos).all digB)
 | 0,pos,h=>by rw[List.drop_eq_nil_of_le (by simp;omega)];rfl
 | f+1,pos,h=>by
  by_cases hlt:pos<s.size
  ·have hd:=Utf8_drop s pos;obtain ⟨h1,h2⟩:=noDig_first (s.data.toList.drop pos)
   have hall:(s.data.toList.drop pos).all digB=(digB ((s.data.toList.drop pos).getD 0 0) && (s.data.toList.drop (pos+1)).all digB):=(by rw[List.drop_eq_getElem_cons (by simpa using hlt)];rfl)
   rw[hd] at h1 h2;unfold idxFuncFrom;rw[if_pos hlt,h1,hall]
   cases hb:digB ((s.data.toList.drop pos).getD 0 0) with
   | false=>
    rw[if_pos (by rfl),Bool.false_and,decide_eq_false_iff_not];omega
   | true=>
    rw[h2 hb,if_neg (by decide),Bool.true_and];exact idx_digits s f (pos+1) (by omega)
  ·rw[idxFuncFrom_end _ _ _ _ _ hlt,List.drop_eq_nil_of_le (by simp;omega)];rfl
where
 Utf8_drop (s:ByteArray) (pos:Nat):decodeL (s.data.toList.drop pos)=Utf8.decode s pos:=decodeL_drop s pos
theorem idx_all (s:ByteArray):decide (idxFunc noDig true s<0)=s.data.toList.all digB:=by
 have:=idx_digits s s.size 0 (by omega);rw[List.drop_zero] at this;exact this
theorem zeros_rep (c:Nat):repeatL [48] c=zeros c:=by
 have:=repeatL_replicate 48 1 c;rw[Nat.mul_one] at this;exact this
end OrdP
namespace Go.Proofs.YtigfcihakghddaaGreatDoor.OrdLib
open Go.RowKit Go.Lib OrdP Kit OrdRef
structure OTabs (w:World):Prop where
 max:∃m,w.cell? ⟨0,0,none⟩=some (.int .i64 m)
 range:∃ev,w.cell? ⟨2,0,none⟩=some ev∧(ev = .nilIface∨∃te pe,ev = .iface te pe)
 pow:Lib.TabIs Tryz.prog w "internal/strconv.uint64pow10" .u64 Lib.pow10Tab
theorem OTabs.next {w w':World} (h:OTabs w) (hb:Below w.heap.size w w'):OTabs w':=by
 obtain ⟨⟨m,hm⟩,⟨ev,he,hv⟩,hp⟩:=h;exact ⟨⟨m,(hb.cell (World.block_lt_of_cell? w _ hm)).trans hm⟩,⟨ev,(hb.cell (World.block_lt_of_cell? w _ he)).trans he,hv⟩,Go.Joins.tab_stays (g:=5) (by kernel_rfl) hp hb (Nat.le_refl _)⟩
theorem below_drewN' {w:World} (n:Nat):Below w.heap.size w (w.drewN n):=⟨rfl,rfl,rfl,Nat.le_refl _,fun _ _=>rfl⟩
def BoolB (b:Bool) (w:World) (e:Ending) (w':World):Prop:=e = .returned (.bool b)∧Below w.heap.size w w'
theorem nodig_any (x:Nat) (hx:x≤1114111) (w:World):Calls Tryz.prog 155 #[.int .i32 x] w (fun e w'=>e = .returned (.bool (noDig x))∧w=w'):=by
 unfold noDig;by_cases h1:x<48
 ·have b1:decide ((x:Int)<48)=true:=by rw[decide_eq_true_eq];omega
  go_enter Tryz.func155,Tryz.ntmps155;go_wp2_with fail;go_ret;exact ⟨by simp[h1],rfl⟩
 ·have b1:decide ((x:Int)<48)=false:=by rw[decide_eq_false_iff_not];omega
  by_cases h2:57<x
  ·have b2:decide ((57:Int)<(x:Int))=true:=by rw[decide_eq_true_eq];omega
   go_enter Tryz.func155,Tryz.ntmps155;go_wp2_with fail;go_ret;exact ⟨by simp[h1,h2],rfl⟩
  ·have b2:decide ((57:Int)<(x:Int))=false:=by rw[decide_eq_false_iff_not];omega
   go_enter Tryz.func155,Tryz.ntmps155;go_wp2_with fail;go_ret;exact ⟨by simp[h1,h2],rfl⟩
theorem index_any (s:ByteArray) (w:World):Calls Tryz.prog 154 #[.string s,.func (.func 155) #[] #[]] w (fun e w'=>e = .returned (.int .i64 (Lib.idxFunc noDig true s))∧Below w.heap.size w w'):=
 Tryz.strings_IndexFunc_grows 155 #[] (enters_of Tryz.func155 (by kernel_rfl) rfl) noDig s w (fun W x hx _=>(nodig_any x hx W).mono fun e w' ⟨he,hw⟩=>⟨he,by subst hw;exact Below.refl _ _⟩)
theorem digits_any (s:ByteArray) (a b:Int) (ha:0≤a) (hb:0≤b) (ha9:a≤1000) (hb9:b≤1000) (hs:s.size≤maxLen) (r:Bool) (hr:digsF s.data.toList a.toNat b.toNat=r) (w:World) :
 Calls Tryz.prog 126 #[.string s,.int .i64 a,.int .i64 b] w (BoolB r w):=by
 unfold maxLen at hs
 obtain ⟨a,rfl⟩:∃n:Nat,a=n:=⟨a.toNat,by omega⟩
 obtain ⟨b,rfl⟩:∃n:Nat,b=n:=⟨b.toNat,by omega⟩
 rw[Int.toNat_natCast,Int.toNat_natCast] at hr;unfold digsF at hr;have hlen:s.data.toList.length=s.size:=by simp
 rw[hlen,←idx_all] at hr;have hrange:=idxFunc_range noDig true s
 obtain ⟨I,hI⟩:∃I,Lib.idxFunc noDig true s=I:=⟨_,rfl⟩
 have HC:=hX (index_any s);rw[hI] at hr hrange;have HI:=hX hI;have HR:=hX hr;clear hr hI hlen;by_cases h1:a≤s.size
 ·have b1:decide (a≤s.size)=true:=by rw[decide_eq_true_eq];exact h1
  by_cases h2:s.size≤b
  ·have b2:decide (s.size≤b)=true:=by rw[decide_eq_true_eq];exact h2
   go_enter Tryz.func126,Tryz.ntmps126;go_wp2_with fail;refine (HC.out _).mono ?_;rintro e w1 ⟨rfl,hb1⟩;have HB:=hX hb1;clear hb1;rw[HI.out];by_cases h3:I<0
   ·have b3:decide (I<0)=true:=by rw[decide_eq_true_eq];exact h3
    clear h3;go_wp2_with fail;go_ret;exact ⟨ret_bool (by rw[←HR.out];simp[h1,h2,b3]),HB.out⟩
   ·have b3:decide (I<0)=false:=by rw[decide_eq_false_iff_not];exact h3
    clear h3;go_wp2_with fail;go_ret;exact ⟨ret_bool (by rw[←HR.out];simp[h1,h2,b3]),HB.out⟩
  ·have b2:decide (s.size≤b)=false:=by rw[decide_eq_false_iff_not];exact h2
   go_enter Tryz.func126,Tryz.ntmps126;go_wp2_with fail;go_ret;exact ⟨ret_bool (by rw[←HR.out];simp[h2]),Below.refl _ _⟩
 ·have b1:decide (a≤s.size)=false:=by rw[decide_eq_false_iff_not];exact h1
  go_enter Tryz.func126,Tryz.ntmps126;go_wp2_with fail;go_ret;exact ⟨ret_bool (by rw[←HR.out];simp[h1]),Below.refl _ _⟩
theorem repeat_any (c:Int) (h0:0≤c) (h1:c≤40) (z:ByteArray) (hz:z=str (zeros c.toNat)) (w:World) :
 Calls Tryz.prog 127 #[.string ⟨#[48]⟩,.int .i64 c] w (fun e w'=>e = .returned (.string z)∧Below w.heap.size w w'):=by
 obtain ⟨c,rfl⟩:∃n:Nat,c=n:=⟨c.toNat,by omega⟩
 rw[Int.toNat_natCast] at hz;subst hz
 match c,h1 with
 | 0,_=>exact (Tryz.strings_Repeat_zero ⟨#[48]⟩ w).mono fun e w' ⟨he,hw⟩=>⟨he,by subst hw;exact Below.refl _ _⟩
 | 1,_=>exact (Tryz.strings_Repeat_one ⟨#[48]⟩ w).mono fun e w' ⟨he,hw⟩=>⟨he,by subst hw;exact Below.refl _ _⟩
 | c+2,h1=>
  refine (Tryz.strings_Repeat_main ⟨#[48]⟩ (c+2) w (by omega) (by omega) (by show 1*(c+2)≤_;omega) (by decide)).mono fun e w' ⟨he,hb⟩=>⟨?_,hb⟩
  rw[he];have e2:(⟨#[48]⟩:ByteArray).data.toList=[48]:=rfl;rw[e2,zeros_rep];rfl
end Go.Proofs.YtigfcihakghddaaGreatDoor.OrdLib
end
section
namespace Go.Proofs.YtigfcihakghddaaGreatDoor.OrdLib
open Go.RowKit Go.Lib OrdP Kit OrdRef
theorem str_size (l:List UInt8):(str l).size=l.length:=by simp[str,ByteArray.size]
theorem size_le (l:List UInt8):(OrdP.size l).length≤l.length:=by unfold OrdP.size;split <;> simp
theorem prefix_any (s z:ByteArray) (b:Bool) (hz:z=str (OrdP.size s.data.toList)) (hb:b=below s.data.toList) (w:World) :
 Calls Tryz.prog 124 #[.string s,.string ⟨#[45]⟩] w (fun e w'=>e = .returned (.tuple #[.string z,.bool b])∧w=w'):=by
 subst hz hb
 refine (Tryz.strings_CutPrefix s ⟨#[45]⟩ w).mono fun e w' ⟨he,hw⟩=>⟨?_,hw.symm⟩
 rw[he];have e1:(⟨#[45]⟩:ByteArray).data.toList=[45]:=rfl;rw[e1,(prefix_minus _).1,(prefix_minus _).2];rfl
theorem cut_any (s wh pa:ByteArray) (pt:Bool) (hs:s.size<4294967281) (h1:wh=str (cut s.data.toList [46]).1) (h2:pa=str (cut s.data.toList [46]).2.1) (h3:pt=(cut s.data.toList [46]).2.2) (w:World) (hT:OTabs w) :
 Calls Tryz.prog 125 #[.string s,.string ⟨#[46]⟩] w (fun e w'=>e = .returned (.tuple #[.string wh,.string pa,.bool pt])∧Below w.heap.size w w'):=by
 subst h1 h2 h3;obtain ⟨m,hm⟩:=hT.max
 refine (Tryz.strings_Cut s ⟨#[46]⟩ m w hs hm).mono fun e w' ⟨he,n,hw⟩=>⟨he,by subst hw;exact below_drewN' n⟩
theorem parse_any (s:ByteArray) (hs:s.size≤1000) (r:Option Int) (hr:Lib.parseIntB 64 s.data.toList=endOf r) (w:World) (hT:OTabs w) :
 Calls Tryz.prog 128 #[.string s,.int .i64 10,.int .i64 64] w (fun e w'=>(∃n a,e = .returned (.tuple #[.int .i64 n,a])∧((a = .nilIface∧r=some n)∨(∃t p,a = .iface t p∧r=none)))∧Below w.heap.size w w'):=by
 cases r with
 | some n=>
  refine (Tryz.strconv_ParseInt_10_at64_ok s (by omega) n hr w).mono fun e w' ⟨he,hw⟩=>⟨⟨n,_,he,.inl ⟨rfl,rfl⟩⟩,?_⟩
  rcases hw with rfl | ⟨t,rfl⟩
  ·exact Below.refl _ _
  ·exact Go.Joins.below_bytesWorld _ _ _ _ (Nat.le_refl _)
 | none=>
  obtain ⟨ev,he,hv⟩:=hT.range
  refine (Tryz.strconv_ParseInt_10_at64_range s (by omega) hr ev w he hv).mono fun e w' ⟨N,he,_,_,hb⟩=>⟨⟨_,_,he,.inr ⟨_,_,rfl,rfl⟩⟩,hb⟩
theorem get_list' (s:ByteArray) (k:Nat) (h:k<s.size):s.data.toList[k]?=some s[k]:=by
 rw[List.getElem?_eq_getElem (by simpa using h)];rfl
set_option maxRecDepth 100000 in
set_option maxHeartbeats 4000000 in
theorem dec_in (s:ByteArray) (sc:Nat) (w:World) (hs:s.size<4294967281) (hsc:sc≤9) (hT:OTabs w) :
 Calls Tryz.prog 103 #[.string s,.int .i64 sc] w (DecRet s.data.toList sc w):=by
 have HT:=hX hT;clear hT
 obtain ⟨z,hz⟩:∃z,z=str (OrdP.size s.data.toList):=⟨_,rfl⟩
 obtain ⟨b,hb⟩:∃b,b=below s.data.toList:=⟨_,rfl⟩
 have hzl:z.data.toList=OrdP.size s.data.toList:=by rw[hz];rfl
 have hzs:z.size≤s.size:=by rw[hz,str_size];have:=size_le s.data.toList;simpa using this
 obtain ⟨wh,hwh⟩:∃x,x=str (cut z.data.toList [46]).1:=⟨_,rfl⟩
 obtain ⟨pa,hpa⟩:∃x,x=str (cut z.data.toList [46]).2.1:=⟨_,rfl⟩
 obtain ⟨pt,hpt⟩:∃x,x=(cut z.data.toList [46]).2.2:=⟨_,rfl⟩
 have HPX:=hX (fun w=>prefix_any s z b hz hb w);have HCUT:=hX (fun w hT=>cut_any z wh pa pt (by omega) hwh hpa hpt w hT)
 have hct:CutAt (OrdP.size s.data.toList) wh.data.toList pa.data.toList pt:=(by rw[hwh,hpa,hpt,hzl];exact cut_point _)
 have hdec:=decF_cut s.data.toList _ _ _ sc hct;rw[←hb] at hdec
 have hwl:wh.size≤s.size∧pa.size≤s.size∧(pt=false→pa.size=0):=by
  have h1:wh.data.toList.length=wh.size:=by simp
  have h2:pa.data.toList.length=pa.size:=by simp
  have h3:(OrdP.size s.data.toList).length≤s.size:=by have:=size_le s.data.toList;simpa using this
  rcases hct with ⟨e0,e1,e2,_⟩ | ⟨e0,e1,_⟩
  ·rw[e1] at h1;rw[e2] at h2;simp at h2;exact ⟨by omega,by omega,fun _=>h2.symm⟩
  ·have h4:=congrArg List.length e1;rw[List.length_append,List.length_cons] at h4;exact ⟨by omega,by omega,fun h=>by rw[h] at e0;cases e0⟩
 obtain ⟨hw1,hw2,hw3⟩:=hwl
 obtain ⟨r1,hr1⟩:∃r,digsF wh.data.toList 1 19=r:=⟨_,rfl⟩
 obtain ⟨r2,hr2⟩:∃r,digsF pa.data.toList 1 sc=r:=⟨_,rfl⟩
 have HD1:=hX (fun w=>digits_any wh 1 19 (by omega) (by omega) (by omega) (by omega) (by unfold maxLen;omega) r1 hr1 w);have HD2:=hX (fun w=>digits_any pa 1 sc (by omega) (by omega) (by omega) (by omega) (by unfold maxLen;omega) r2 (by rw[Int.toNat_natCast];exact hr2) w);unfold okP at hdec;rw[hr1,hr2] at hdec;have HDEC:=hX hdec;have HR1:=hX hr1;have HR2:=hX hr2;have HW3:=hX hw3;clear hz hb hzl hwh hpa hpt hct hdec hr1 hr2 hw3;have d1:decide ((sc:Int)<0)=false:=by rw[decide_eq_false_iff_not];omega
 have d2:decide (9<(sc:Int))=false:=by rw[decide_eq_false_iff_not];omega
 go_enter Tryz.func103,Tryz.ntmps103;go_wp2_with fail;clear d1 d2;refine (HPX.out _).mono ?_;rintro e w' ⟨rfl,rfl⟩;go_wp2_with fail;refine (HCUT.out _ HT.out).mono ?_;rintro e w1 ⟨rfl,hb1⟩;have T1:=hX (HT.out.next hb1);have B1:=hX hb1;clear hb1;go_wp2_with fail;refine (HD1.out _).mono ?_;rintro e w2 ⟨rfl,hb2⟩;have T2:=hX (T1.out.next hb2);have B2:=hX (B1.out.trans (hb2.mono B1.out.size));clear hb2;clear HPX HCUT HD1 T1 B1
 cases r1 with
 | false=>
  go_wp2_with fail;go_ret2;exact dec_none hsc (by rw[HDEC.out];simp) B2.out
 | true=>
  have hd1:=HR1.out;unfold digsF at hd1;rw[Bool.and_eq_true,decide_eq_true_eq] at hd1;have hwl:wh.data.toList.length=wh.size:=by simp
  rw[hwl] at hd1;obtain ⟨⟨hwa,hwb⟩,hwd⟩:=hd1;have HWD:=hX hwd
  have hg0:wh.data.toList.getD 0 0=wh[0]:=(by rw[List.getD_eq_getElem?_getD,get_list' wh 0 (by omega)];rfl)
  have hdec:=HDEC.out;rw[hwl,hg0] at hdec;clear hwd hwl hg0 HDEC;by_cases hbad:1<wh.size∧wh[0].toNat=48
  ·have t1:decide (1<(wh.size:Int))=true:=by rw[decide_eq_true_eq];omega
   have t2:((wh[0].toNat:Int) == 48)=true:=by rw[beq_iff_eq];omega
   have hnone:decF s.data.toList sc=none:=(by rw[hdec];have e48:wh[0]=48:=UInt8.toNat_inj.1 hbad.2;simp[hbad.1,e48])
   have HNONE:=hX hnone;clear hnone hbad hdec;go_wp2_with fail;go_ret2;exact dec_none hsc HNONE.out B2.out
  have hgood:(decide (1<wh.size) && decide (wh[0]=48))=false:=by
   rw[Bool.and_eq_false_iff,decide_eq_false_iff_not,decide_eq_false_iff_not];by_cases h1:1<wh.size
   ·right;intro h2;exact hbad ⟨h1,by rw[h2];rfl⟩
   ·left;exact h1
  rw[hgood] at hdec;have HDEC:=hX hdec
  have t12:decide (1<(wh.size:Int))=false∨(decide (1<(wh.size:Int))=true∧((wh[0].toNat:Int) == 48)=false):=by
   by_cases h1:1<wh.size
   ·right;exact ⟨by rw[decide_eq_true_eq];omega,by rw[beq_eq_false_iff_ne];intro h2;exact hbad ⟨h1,by omega⟩⟩
   ·left;rw[decide_eq_false_iff_not];omega
  clear hdec hgood hbad;have hpal:pa.data.toList.length=pa.size:=by simp
  have hwhl:wh.data.toList.length=wh.size:=by simp
  have facts:pa.size≤sc→pa.data.toList.all digB=true→∀zz,zz=str (zeros (sc - pa.size))→
   ((⟨#[45]⟩:ByteArray)++(wh++pa++zz)).size≤1000∧(wh++pa++zz).size≤1000∧
   Lib.parseIntB 64 ((⟨#[45]⟩:ByteArray)++(wh++pa++zz)).data.toList=endOf (fin true (wh.data.toList++pa.data.toList++zeros (sc - pa.data.toList.length)))∧
   Lib.parseIntB 64 (wh++pa++zz).data.toList=endOf (fin false (wh.data.toList++pa.data.toList++zeros (sc - pa.data.toList.length))):=by
   intro h1 h2 zz hzz;have hzl:zz.data.toList=zeros (sc - pa.data.toList.length):=by rw[hzz,hpal];rfl
   have hzs:zz.size=sc - pa.size:=by rw[hzz,str_size,zeros,List.length_replicate]
   have e1:(wh++pa++zz).data.toList=wh.data.toList++pa.data.toList++zeros (sc - pa.data.toList.length):=(by rw[←hzl];simp[ByteArray.data_append])
   have e2:((⟨#[45]⟩:ByteArray)++(wh++pa++zz)).data.toList=45::(wh.data.toList++pa.data.toList++zeros (sc - pa.data.toList.length)):=(by rw[←e1];simp[ByteArray.data_append])
   have e3:(wh++pa++zz).size=wh.size+pa.size+zz.size:=by rw[ByteArray.size_append,ByteArray.size_append]
   have e4:((⟨#[45]⟩:ByteArray)++(wh++pa++zz)).size=1+(wh++pa++zz).size:=by rw[ByteArray.size_append];rfl
   have hall:(wh.data.toList++pa.data.toList++zeros (sc - pa.data.toList.length)).all digB=true:=(by rw[List.all_append,List.all_append,HWD.out,h2,zeros_digits];rfl)
   have hne:wh.data.toList++pa.data.toList++zeros (sc - pa.data.toList.length)≠[]:=(by intro e;have:=congrArg List.length e;rw[List.length_append,List.length_append,List.length_nil] at this;omega)
   refine ⟨by omega,by omega,?_,?_⟩
   ·rw[e2];exact parse_fin true _ hne hall
   ·rw[e1];exact parse_fin false _ hne hall
  cases pt with
  | true=>
   cases r2 with
   | false=>
    rcases t12 with t1 | ⟨t1,t2⟩
    all_goals
     go_wp2_with fail;refine (HD2.out _).mono ?_;rintro e w3 ⟨rfl,hb3⟩;have B3:=hX (B2.out.trans (hb3.mono B2.out.size));clear hb3;go_wp2_with fail;go_ret2;exact dec_none hsc (by rw[HDEC.out];simp) B3.out
   | true=>
    have hd2:=HR2.out;unfold digsF at hd2;rw[Bool.and_eq_true,decide_eq_true_eq,hpal] at hd2;obtain ⟨⟨hpa1,hpa2⟩,hpd⟩:=hd2
    obtain ⟨zz,hzz⟩:∃zz,zz=str (zeros (sc - pa.size)):=⟨_,rfl⟩
    obtain ⟨hs1,hs0,hp1,hp0⟩:=facts hpa2 hpd zz hzz;have HS1:=hX hs1;have HS0:=hX hs0;have HP1:=hX hp1;have HP0:=hX hp0;have HREP:=hX (fun w=>repeat_any ((sc:Int) - (pa.size:Int)) (by omega) (by omega) zz (by rw[hzz];congr 2;omega) w);have hzs:zz.size≤9:=by rw[hzz,str_size,zeros,List.length_replicate];omega
    have hdec2:=HDEC.out;simp only[Bool.not_false,Bool.and_true,Bool.not_true,Bool.false_or,if_true] at hdec2;have HDEC2:=hX hdec2;clear hs1 hs0 hp1 hp0 hzz hdec2 facts hpd HDEC HR2 HW3
    rcases t12 with t1 | ⟨t1,t2⟩
    all_goals
     go_wp2_with fail;refine (HD2.out _).mono ?_;rintro e w3 ⟨rfl,hb3⟩;have T3:=hX (T2.out.next hb3);have B3:=hX (B2.out.trans (hb3.mono B2.out.size));clear hb3;go_wp2_with fail;refine (HREP.out _).mono ?_;rintro e w4 ⟨rfl,hb4⟩;have T4:=hX (T3.out.next hb4);have B4:=hX (B3.out.trans (hb4.mono B3.out.size));clear hb4
     cases b with
     | true=>
      go_wp2_with fail;refine (parse_any _ HS1.out _ HP1.out _ T4.out).mono ?_;rintro e w5 ⟨⟨n,a,rfl,hna⟩,hb5⟩;have B5:=hX (B4.out.trans (hb5.mono B4.out.size));clear hb5
      rcases hna with ⟨rfl,hr⟩ | ⟨t,p,rfl,hr⟩
      ·have HR:=hX hr;clear hr;go_wp2_with fail;go_ret2;exact dec_some hsc (HDEC2.out.trans HR.out) B5.out
      ·have HR:=hX hr;clear hr;go_wp2_with fail;go_ret2;exact dec_none hsc (HDEC2.out.trans HR.out) B5.out
     | false=>
      go_wp2_with fail;refine (parse_any _ HS0.out _ HP0.out _ T4.out).mono ?_;rintro e w5 ⟨⟨n,a,rfl,hna⟩,hb5⟩;have B5:=hX (B4.out.trans (hb5.mono B4.out.size));clear hb5
      rcases hna with ⟨rfl,hr⟩ | ⟨t,p,rfl,hr⟩
      ·have HR:=hX hr;clear hr;go_wp2_with fail;go_ret2;exact dec_some hsc (HDEC2.out.trans HR.out) B5.out
      ·have HR:=hX hr;clear hr;go_wp2_with fail;go_ret2;exact dec_none hsc (HDEC2.out.trans HR.out) B5.out
  | false=>
   have hpa0:=HW3.out rfl;have hpd:pa.data.toList.all digB=true:=by rw[List.eq_nil_of_length_eq_zero (by omega:pa.data.toList.length=0)];rfl
   obtain ⟨zz,hzz⟩:∃zz,zz=str (zeros (sc - pa.size)):=⟨_,rfl⟩
   obtain ⟨hs1,hs0,hp1,hp0⟩:=facts (by omega) hpd zz hzz;have HS1:=hX hs1;have HS0:=hX hs0;have HP1:=hX hp1;have HP0:=hX hp0;have hpa2:pa.size≤sc:=by omega
   have HREP:=hX (fun w=>repeat_any ((sc:Int) - (pa.size:Int)) (by omega) (by omega) zz (by rw[hzz];congr 2;omega) w);have hzs:zz.size≤9:=by rw[hzz,str_size,zeros,List.length_replicate];omega
   have hdec2:=HDEC.out;simp only[Bool.not_false,Bool.and_true,Bool.true_or,if_true] at hdec2;have HDEC2:=hX hdec2;clear hs1 hs0 hp1 hp0 hzz hdec2 facts hpd HDEC HR2 HW3 hpa0
   rcases t12 with t1 | ⟨t1,t2⟩
   all_goals
    go_wp2_with fail;refine (HREP.out _).mono ?_;rintro e w4 ⟨rfl,hb4⟩;have T4:=hX (T2.out.next hb4);have B4:=hX (B2.out.trans (hb4.mono B2.out.size));clear hb4
    cases b with
    | true=>
     go_wp2_with fail;refine (parse_any _ HS1.out _ HP1.out _ T4.out).mono ?_;rintro e w5 ⟨⟨n,a,rfl,hna⟩,hb5⟩;have B5:=hX (B4.out.trans (hb5.mono B4.out.size));clear hb5
     rcases hna with ⟨rfl,hr⟩ | ⟨t,p,rfl,hr⟩
     ·have HR:=hX hr;clear hr;go_wp2_with fail;go_ret2;exact dec_some hsc (HDEC2.out.trans HR.out) B5.out
     ·have HR:=hX hr;clear hr;go_wp2_with fail;go_ret2;exact dec_none hsc (HDEC2.out.trans HR.out) B5.out
    | false=>
     go_wp2_with fail;refine (parse_any _ HS0.out _ HP0.out _ T4.out).mono ?_;rintro e w5 ⟨⟨n,a,rfl,hna⟩,hb5⟩;have B5:=hX (B4.out.trans (hb5.mono B4.out.size));clear hb5
     rcases hna with ⟨rfl,hr⟩ | ⟨t,p,rfl,hr⟩
     ·have HR:=hX hr;clear hr;go_wp2_with fail;go_ret2;exact dec_some hsc (HDEC2.out.trans HR.out) B5.out
     ·have HR:=hX hr;clear hr;go_wp2_with fail;go_ret2;exact dec_none hsc (HDEC2.out.trans HR.out) B5.out
theorem dec_any (s:ByteArray) (scale:Int) (w:World) (hs:s.size<4294967281) (hT:OTabs w) :
 Calls Tryz.prog 103 #[.string s,.int .i64 scale] w (DecRet s.data.toList scale w):=by
 by_cases h:scale<0∨9<scale
 ·have HO:=hX h
  have d12:decide (scale<0)=true∨(decide (scale<0)=false∧decide (9<scale)=true):=by
   by_cases h1:scale<0
   ·left;rw[decide_eq_true_eq];exact h1
   ·right;exact ⟨by rw[decide_eq_false_iff_not];exact h1,by rw[decide_eq_true_eq];omega⟩
  clear h hT
  rcases d12 with d1 | ⟨d1,d2⟩
  all_goals
   go_enter Tryz.func103,Tryz.ntmps103;go_wp2_with fail;go_ret2;exact dec_out HO.out (Below.refl _ _)
 ·obtain ⟨sc,rfl⟩:∃sc:Nat,scale=sc:=⟨scale.toNat,by omega⟩
  exact dec_in s sc w hs (by omega) hT
end Go.Proofs.YtigfcihakghddaaGreatDoor.OrdLib
end
