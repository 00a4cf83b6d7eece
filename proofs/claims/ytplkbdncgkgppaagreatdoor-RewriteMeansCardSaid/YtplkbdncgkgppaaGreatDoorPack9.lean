/- Lemmas that the last text leans on. -/
import Derived.Test.YtplkbdncgkgppaaGreatDoorTake
import Derived.Test.YtplkbdncgkgppaaGreatDoorPack8
import Derived.Test.YtplkbdncgkgppaaGreatDoorPack7
import Derived.Deep.RegionHeld3
import Derived.Test.YtplkbdncgkgppaaGreatDoorPack6
import Derived.Deep.Light
import Derived.WalkLawsBesides
import Derived.WalkSpells
set_option linter.all false
set_option maxRecDepth 100000
set_option maxHeartbeats 8000000
section
namespace Go.Proofs.YtplkbdncgkgppaaGreatDoor.Qry
open Go.RowKit Words Tree QryP Kit Owned
theorem ygg:(Tryz.prog.info? 5).map (fun i=>(i.zero,i.size,i.bytes))=some (some (.int .u8 0),1,1):=by kernel_rfl
theorem ya4 {w wr wq w':World} {l x:List UInt8} {v v':Value} (hw:Below w.heap.size w wr) (h:wr.ownsRow w.heap.size 5 1 v l.length (Lib.byteCells l)) (hq:Below w.heap.size wr wq)
 (ho:w'.ownsRow w.heap.size 5 1 v' (l.length+x.length) (Lib.byteCells l++Lib.byteCells x)) (hg:wq.grownBy w' v.ownBlock):w'.ownsRow w.heap.size 5 1 v' (l++x).length (Lib.byteCells (l++x))∧Below w.heap.size w w':=by
 refine ⟨?_,((hw.trans hq)).grown hg (Nat.le_trans hw.size hq.size) (fun r e=>(h.lt r e).1)⟩;rw[List.length_append];have:Lib.byteCells (l++x)=Lib.byteCells l++Lib.byteCells x:=by simp[Lib.byteCells]
 rw[this];exact ho
end Go.Proofs.YtplkbdncgkgppaaGreatDoor.Qry
end
section
namespace Go.Proofs.YtplkbdncgkgppaaGreatDoor.Qry
open Go.RowKit Words Tree QryP Kit Owned RewP
def yim (k:IntKind) (n:Int) (w:World) (e:Ending) (w':World):Prop:=e = .returned (.int k n)∧Below w.heap.size w w'
theorem znp (a b:Int) (w:World) (ha:zes a) (hb:zes b):Calls Tryz.prog 28 #[.int .i64 a,.int .i64 b] w (yim .i64 (zd4 (a+b)) w):=by
 obtain ⟨h1,h2,h3⟩:=ya2 ha hb;generalize zd4 (a+b)=r at *
 obtain ⟨c,hc⟩:∃c,wrap64 (a+b)=c:=⟨_,rfl⟩
 rw[hc] at h1 h2 h3;clear ha hb;by_cases p1:0<a
 ·have p2:¬a<0:=by omega
  by_cases p3:0<b
  ·by_cases p4:c<0
   ·obtain rfl:=h1 ⟨p1,p3,p4⟩;clear h1 h2 h3;go_enter Tryz.func28,Tryz.ntmps28;go_wp2_with fail;go_ret;exact ⟨rfl,Below.refl _ _⟩
   ·obtain rfl:=h3 (fun h=>p4 h.2.2) (fun h=>p2 h.1);clear h1 h2 h3;go_enter Tryz.func28,Tryz.ntmps28;go_wp2_with fail;go_ret;exact ⟨rfl,Below.refl _ _⟩
  ·obtain rfl:=h3 (fun h=>p3 h.2.1) (fun h=>p2 h.1);clear h1 h2 h3;go_enter Tryz.func28,Tryz.ntmps28;go_wp2_with fail;go_ret;exact ⟨rfl,Below.refl _ _⟩
 ·by_cases p2:a<0
  ·by_cases p3:b<0
   ·by_cases p4:0≤c
    ·obtain rfl:=h2 (fun h=>p1 h.1) ⟨p2,p3,p4⟩;clear h1 h2 h3;go_enter Tryz.func28,Tryz.ntmps28;go_wp2_with fail;go_ret;exact ⟨rfl,Below.refl _ _⟩
    ·obtain rfl:=h3 (fun h=>p1 h.1) (fun h=>p4 h.2.2);clear h1 h2 h3;go_enter Tryz.func28,Tryz.ntmps28;go_wp2_with fail;go_ret;exact ⟨rfl,Below.refl _ _⟩
   ·obtain rfl:=h3 (fun h=>p1 h.1) (fun h=>p3 h.2.1);clear h1 h2 h3;go_enter Tryz.func28,Tryz.ntmps28;go_wp2_with fail;go_ret;exact ⟨rfl,Below.refl _ _⟩
  ·obtain rfl:=h3 (fun h=>p1 h.1) (fun h=>p2 h.1);clear h1 h2 h3;go_enter Tryz.func28,Tryz.ntmps28;go_wp2_with fail;go_ret;exact ⟨rfl,Below.refl _ _⟩
theorem zjz {a b:Int} (h:a=b):(a == b)=true:=by rw[beq_iff_eq];exact h
theorem zdz {a b:Int} (h:¬a=b):(a == b)=false:=by rw[beq_eq_false_iff_ne];exact h
theorem zo8 (a b:Int) (w:World) (ha:zes a) (hb:zes b):Calls Tryz.prog 25 #[.int .i64 a,.int .i64 b] w (yim .i64 (zd4 (a*b)) w):=by
 by_cases h0:a=0∨b=0
 ·have hr:zd4 (a*b)=0:=by
   rcases h0 with rfl | rfl
   ·rw[Int.zero_mul];rfl
   ·rw[Int.mul_zero];rfl
  rw[hr];by_cases ha0:a=0
  ·have e1:=zjz ha0;clear h0 hr ha hb ha0;go_enter Tryz.func25,Tryz.ntmps25;go_wp2_with fail;go_ret;exact ⟨rfl,Below.refl _ _⟩
  ·have e1:=zdz ha0;have e2:=zjz (h0.resolve_left ha0);clear h0 hr ha hb ha0;go_enter Tryz.func25,Tryz.ntmps25;go_wp2_with fail;go_ret;exact ⟨rfl,Below.refl _ _⟩
 have ha0:¬a=0:=fun h=>h0 (.inl h);have hb0:¬b=0:=fun h=>h0 (.inr h);have e1:=zdz ha0;have e2:=zdz hb0;have ht:=zuq ha hb hb0
 obtain ⟨c,hc⟩:∃c,wrap64 (a*b)=c:=⟨_,rfl⟩
 rw[hc] at ht
 obtain ⟨d,hd⟩:∃d,wrap64 (c.tdiv b)=d:=⟨_,rfl⟩
 rw[hd] at ht;by_cases hin:zes (a*b)
 ·obtain ⟨t1,t2,t3⟩:=ht.2 hin;have hr:zd4 (a*b)=wrap64 (a*b):=by rw[ztb hin,zh8 hin]
  rw[hr];have e3:=zjz t1;clear ht hin hr t1 h0 ha hb ha0;by_cases x1:a = -9223372036854775808
  ·have x2:¬b = -1:=fun h=>t2 ⟨x1,h⟩;have f1:=zjz x1;have f2:=zdz x2;have f4:(a == -1)=false:=zdz (by omega);by_cases x3:b = -9223372036854775808
   ·have f3:=zjz x3;clear t2 t3 x1 x2 x3;go_enter Tryz.func25,Tryz.ntmps25;go_wp2_with fail;go_ret;exact ⟨rfl,Below.refl _ _⟩
   ·have f3:=zdz x3;clear t2 t3 x1 x2 x3;go_enter Tryz.func25,Tryz.ntmps25;go_wp2_with fail;go_ret;exact ⟨rfl,Below.refl _ _⟩
  ·have f1:=zdz x1;by_cases x3:b = -9223372036854775808
   ·have f3:=zjz x3;have f4:(a == -1)=false:=zdz (fun h=>t3 ⟨x3,h⟩);clear t2 t3 x1 x3;go_enter Tryz.func25,Tryz.ntmps25;go_wp2_with fail;go_ret;exact ⟨rfl,Below.refl _ _⟩
   ·have f3:=zdz x3;clear t2 t3 x1 x3;go_enter Tryz.func25,Tryz.ntmps25;go_wp2_with fail;go_ret;exact ⟨rfl,Below.refl _ _⟩
 ·obtain ⟨o1,o2⟩:=zw5 hin;generalize zd4 (a*b)=r at *;have hnt:¬(d=a∧¬(a = -9223372036854775808∧b = -1)∧¬(b = -9223372036854775808∧a = -1)):=fun h=>hin (ht.1 h);clear ht hin h0 ha hb ha0;have HR:=hX (And.intro o1 o2);clear o1 o2
  have hw:((d == a)=false)∨((d == a)=true∧(a == -9223372036854775808)=true∧(b == -1)=true)∨((d == a)=true∧(a == -9223372036854775808)=false∧(b == -9223372036854775808)=true∧(a == -1)=true):=by
   by_cases y1:d=a
   ·by_cases y2:a = -9223372036854775808
    ·by_cases y3:b = -1
     ·exact .inr (.inl ⟨zjz y1,zjz y2,zjz y3⟩)
     ·exact absurd ⟨y1,fun h=>y3 h.2,fun h=>by omega⟩ hnt
    ·by_cases y3:b = -9223372036854775808∧a = -1
     ·exact .inr (.inr ⟨zjz y1,zdz y2,zjz y3.1,zjz y3.2⟩)
     ·exact absurd ⟨y1,fun h=>y2 h.1,y3⟩ hnt
   ·exact .inl (zdz y1)
  clear hnt;by_cases z1:a<0
  ·by_cases z2:b<0
   ·obtain rfl:=HR.out.1 (by rw[decide_eq_true z1,decide_eq_true z2])
    rcases hw with f1 | ⟨f1,f2,f3⟩ | ⟨f1,f2,f3,f4⟩
    all_goals
     go_enter Tryz.func25,Tryz.ntmps25;go_wp2_with fail;go_ret;exact ⟨rfl,Below.refl _ _⟩
   ·obtain rfl:=HR.out.2 (by rw[decide_eq_true z1,decide_eq_false z2];decide)
    rcases hw with f1 | ⟨f1,f2,f3⟩ | ⟨f1,f2,f3,f4⟩
    all_goals
     go_enter Tryz.func25,Tryz.ntmps25;go_wp2_with fail;go_ret;exact ⟨rfl,Below.refl _ _⟩
  ·by_cases z2:b<0
   ·obtain rfl:=HR.out.2 (by rw[decide_eq_false z1,decide_eq_true z2];decide)
    rcases hw with f1 | ⟨f1,f2,f3⟩ | ⟨f1,f2,f3,f4⟩
    all_goals
     go_enter Tryz.func25,Tryz.ntmps25;go_wp2_with fail;go_ret;exact ⟨rfl,Below.refl _ _⟩
   ·obtain rfl:=HR.out.1 (by rw[decide_eq_false z1,decide_eq_false z2])
    rcases hw with f1 | ⟨f1,f2,f3⟩ | ⟨f1,f2,f3,f4⟩
    all_goals
     go_enter Tryz.func25,Tryz.ntmps25;go_wp2_with fail;go_ret;exact ⟨rfl,Below.refl _ _⟩
theorem zo9 (seed:Int) (s:ByteArray) (w:World) (hs:s.size≤9223372036854775807):Calls Tryz.prog 26 #[.int .u64 seed,.string s] w (yim .u64 (ydg seed s.data.toList) w):=by
 obtain ⟨h0,hh⟩:∃h0,bits .xor .u64 seed 11400714819323198485=h0:=⟨_,rfl⟩
 have HM:Hid (ydg seed s.data.toList=ztc (s.data.toList.foldl zfm h0)):=hX (by unfold ydg;rw[hh])
 obtain ⟨r,hr⟩:∃r,ydg seed s.data.toList=r:=⟨_,rfl⟩
 rw[hr] at HM ⊢;clear hr;go_enter Tryz.func26,Tryz.ntmps26;go_wp2_with fail;go_loopw [5,6] (fun h i wr=>∃k:Nat,k≤s.size∧i = .int .i64 k∧h = .int .u64 ((s.data.toList.take k).foldl zfm h0)∧wr=w) (fun _ i _=>s.size - (intOf i).toNat);case atStart=>exact ⟨0,by omega,rfl,rfl,rfl⟩
 case round=>
  obtain ⟨k,hk,rfl,rfl,rfl⟩:=hrel;by_cases hlt:k<s.size
  ·have hlt2:(k:Int)<(s.size:Int):=by omega
   have hwk:wrap64 ((k:Int)+1)=(k:Int)+1:=by unfold wrap64;omega
   have HS:Hid ((s.data.toList.take (k+1)).foldl zfm h0=zfm ((s.data.toList.take k).foldl zfm h0) s[k]):=hX (by
    rw[List.take_succ_eq_append_getElem (by simpa using hlt),List.foldl_append]
    rfl)
   generalize (s.data.toList.take k).foldl zfm h0=h at *;generalize hcc:s[k]=c at *;go_wp2_with fail;go_roundw;case rel=>exact ⟨k+1,by omega,by go_num,by rw[HS.out];rfl,trivial⟩
   case measure=>simp[intOf];omega
  ·obtain rfl:k=s.size:=by omega
   have e:s.data.toList.take s.size=s.data.toList:=List.take_of_length_le (by simp);rw[e];have HM2:Hid (r=ztc (s.data.toList.foldl zfm h0)):=HM;generalize s.data.toList.foldl zfm h0=h at *;go_wp2_with fail;go_ret;exact ⟨by rw[HM2.out];rfl,Below.refl _ _⟩
end Go.Proofs.YtplkbdncgkgppaaGreatDoor.Qry
end
section
namespace Go.Proofs.YtplkbdncgkgppaaGreatDoor.Qry
open Go.RowKit Words Tree QryP Kit
def zgj (n:Nat):List UInt8:=if n=0 then [] else [44,32]
def yin (B b P:Nat) (l:List UInt8) (n:Nat) (w:World) (e:Ending) (w':World):Prop:=e = .returned (.tuple #[])∧Buf B b l w'∧Wr B (fun g=>g=b∨g=P) w w'∧Blk w' P 3 #[.int .i64 (n:Int)]
theorem part_any (B b T P:Nat) (l x:List UInt8) (n:Nat) (F:FuncId) (caps:Array Value) (w:World) (hT:Blk w T 108 #[.pointer (some ⟨b,0,none⟩)]) (hP:Blk w P 3 #[.int .i64 (n:Int)]) (hPb:P≠b) (hTb:T≠b) (hTP:T≠P) (hBP:B≤P) (hn:n≤1000000000000000000)
 (h:Buf B b l w) (hl:l.length+2+x.length≤zfx) (hE:∀args w,(callFunc F args).run Tryz.prog w = .ok (.enter F args) w)
 (hF:∀W,Wr B (fun g=>g=b∨g=P) w W→Buf B b (l++zgj n) W→Calls Tryz.prog F caps W (zl4 B b (l++zgj n) x W)) :
 Calls Tryz.prog 88 #[.func (.func F) #[] caps,.pointer (some ⟨P,0,none⟩),.pointer (some ⟨T,0,none⟩)] w (yin B b P (l++(zgj n++x)) (n+1) w):=by
 have c0:w.cell? ⟨P,0,none⟩=some (.int .i64 (n:Int)):=hP.cell 0;have f0:w.frozen? ⟨P,0,none⟩=false:=hP.frozen 0;have HW1:Hid (Wr B (fun g=>g=b∨g=P) w (w.setCell ⟨P,0,none⟩ (.int .i64 ((n:Int)+1)))):=hX ((Wr.refl _ _ _).set (p:=⟨P,0,none⟩) (.inr rfl) hBP _);have HP1:Hid (Blk (w.setCell ⟨P,0,none⟩ (.int .i64 ((n:Int)+1))) P 3 #[.int .i64 ((n:Int)+1)]):=hX (hP.set_ 0 _);have HT1:Hid (Blk (w.setCell ⟨P,0,none⟩ (.int .i64 ((n:Int)+1))) T 108 #[.pointer (some ⟨b,0,none⟩)]):=hX (HW1.out.blk hT (by simp[hTb,hTP]) (by decide));have HB1:Hid (Buf B b l (w.setCell ⟨P,0,none⟩ (.int .i64 ((n:Int)+1)))):=hX (h.set (p:=⟨P,0,none⟩) hP (by decide) hPb _);have HF:=hX hF;have HL:=hX hl;have hcT:(w.setCell ⟨P,0,none⟩ (.int .i64 ((n:Int)+1))).cell? ⟨T,0,none⟩=some (.pointer (some ⟨b,0,none⟩)):=HT1.out.cell 0;have hcP:(w.setCell ⟨P,0,none⟩ (.int .i64 ((n:Int)+1))).cell? ⟨P,0,none⟩=some (.int .i64 ((n:Int)+1)):=HP1.out.cell 0;clear hT hP h hF hl;by_cases hn0:n=0
 ·subst hn0;go_enter Tryz.func88,Tryz.ntmps88;go_wp2_with fail;refine (HF.out _ HW1.out (by simpa [zgj] using HB1.out)).mono ?_;rintro e w2 ⟨rfl,hb,hw⟩;have HB2:=hX hb;have HW2:=hX (HW1.out.trans (hw.mono fun g e=>.inl e));have HP2:=hX (hw.blk HP1.out hPb (by decide));clear hb hw hcT hcP;go_wp2_with fail;go_end0;exact ⟨rfl,by simpa [zgj] using HB2.out,HW2.out,HP2.out⟩
 ·have hd:decide ((1:Int)<(n:Int)+1)=true:=decide_eq_true (by omega);have hc:zgj n=[44,32]:=if_neg hn0;rw[hc] at HF;have HC:=hX hc;have HS:=hX (zea B b l ⟨#[44,32]⟩ _ HB1.out (by have:=HL.out;show l.length+2≤zfx;omega));clear hc hn0;go_enter Tryz.func88,Tryz.ntmps88;go_wp2_with fail;refine HS.out.mono ?_;rintro e w2 ⟨rfl,hb,hw⟩;have HB2:=hX hb;have HW2:=hX (HW1.out.trans (hw.mono fun g e=>.inl e));have HP2:=hX (hw.blk HP1.out hPb (by decide));clear hb hw hcT hcP;go_wp2_with fail;refine (HF.out _ HW2.out HB2.out).mono ?_;rintro e w3 ⟨rfl,hb,hw⟩;have HB3:=hX hb;have HW3:=hX (HW2.out.trans (hw.mono fun g e=>.inl e));have HP3:=hX (hw.blk HP2.out hPb (by decide));clear hb hw;go_wp2_with fail;go_end0;exact ⟨rfl,by rw[HC.out];simpa [List.append_assoc] using HB3.out,HW3.out,HP3.out⟩
end Go.Proofs.YtplkbdncgkgppaaGreatDoor.Qry
end
section
namespace Go.Proofs.YtplkbdncgkgppaaGreatDoor.Qry
open Go.RowKit Words Tree QryP Kit
def yji (s:ByteArray) (w:World) (e:Ending) (w':World):Prop:=e = .returned (.string s)∧w=w'
theorem word_any (k:Int) (w:World) (hk:1≤k∧k≤10):Calls Tryz.prog 87 #[.int .i64 k] w (yji (str (wordF k)) w):=by
 have:k=1∨k=2∨k=3∨k=4∨k=5∨k=6∨k=7∨k=8∨k=9∨k=10:=by omega
 rcases this with rfl | rfl | rfl | rfl | rfl | rfl | rfl | rfl | rfl | rfl
 ·clear hk;have hi:∀w,(Instr.index 172 (.agg #[.string ⟨#[]⟩,.string ⟨#[97,108,108]⟩,.string ⟨#[110,111,110,101]⟩,.string ⟨#[116,101,114,109]⟩,.string ⟨#[112,104,114,97,115,101]⟩,.string ⟨#[112,114,101,102,105,120]⟩,.string ⟨#[116,101,114,109,115]⟩,.string ⟨#[114,97,110,103,101]⟩,.string ⟨#[98,111,111,108]⟩,.string ⟨#[98,111,111,115,116]⟩,.string ⟨#[119,101,105,103,104]⟩]) (.int .i64 1)).run Tryz.prog w = .ok (.string ⟨#[97,108,108]⟩) w:=fun _=>by kernel_rfl
  go_enter Tryz.func87,Tryz.ntmps87;go_wp2_with fail;go_ret;exact ⟨rfl,rfl⟩
 ·clear hk;have hi:∀w,(Instr.index 172 (.agg #[.string ⟨#[]⟩,.string ⟨#[97,108,108]⟩,.string ⟨#[110,111,110,101]⟩,.string ⟨#[116,101,114,109]⟩,.string ⟨#[112,104,114,97,115,101]⟩,.string ⟨#[112,114,101,102,105,120]⟩,.string ⟨#[116,101,114,109,115]⟩,.string ⟨#[114,97,110,103,101]⟩,.string ⟨#[98,111,111,108]⟩,.string ⟨#[98,111,111,115,116]⟩,.string ⟨#[119,101,105,103,104]⟩]) (.int .i64 2)).run Tryz.prog w = .ok (.string ⟨#[110,111,110,101]⟩) w:=fun _=>by kernel_rfl
  go_enter Tryz.func87,Tryz.ntmps87;go_wp2_with fail;go_ret;exact ⟨rfl,rfl⟩
 ·clear hk;have hi:∀w,(Instr.index 172 (.agg #[.string ⟨#[]⟩,.string ⟨#[97,108,108]⟩,.string ⟨#[110,111,110,101]⟩,.string ⟨#[116,101,114,109]⟩,.string ⟨#[112,104,114,97,115,101]⟩,.string ⟨#[112,114,101,102,105,120]⟩,.string ⟨#[116,101,114,109,115]⟩,.string ⟨#[114,97,110,103,101]⟩,.string ⟨#[98,111,111,108]⟩,.string ⟨#[98,111,111,115,116]⟩,.string ⟨#[119,101,105,103,104]⟩]) (.int .i64 3)).run Tryz.prog w = .ok (.string ⟨#[116,101,114,109]⟩) w:=fun _=>by kernel_rfl
  go_enter Tryz.func87,Tryz.ntmps87;go_wp2_with fail;go_ret;exact ⟨rfl,rfl⟩
 ·clear hk;have hi:∀w,(Instr.index 172 (.agg #[.string ⟨#[]⟩,.string ⟨#[97,108,108]⟩,.string ⟨#[110,111,110,101]⟩,.string ⟨#[116,101,114,109]⟩,.string ⟨#[112,104,114,97,115,101]⟩,.string ⟨#[112,114,101,102,105,120]⟩,.string ⟨#[116,101,114,109,115]⟩,.string ⟨#[114,97,110,103,101]⟩,.string ⟨#[98,111,111,108]⟩,.string ⟨#[98,111,111,115,116]⟩,.string ⟨#[119,101,105,103,104]⟩]) (.int .i64 4)).run Tryz.prog w = .ok (.string ⟨#[112,104,114,97,115,101]⟩) w:=fun _=>by kernel_rfl
  go_enter Tryz.func87,Tryz.ntmps87;go_wp2_with fail;go_ret;exact ⟨rfl,rfl⟩
 ·clear hk;have hi:∀w,(Instr.index 172 (.agg #[.string ⟨#[]⟩,.string ⟨#[97,108,108]⟩,.string ⟨#[110,111,110,101]⟩,.string ⟨#[116,101,114,109]⟩,.string ⟨#[112,104,114,97,115,101]⟩,.string ⟨#[112,114,101,102,105,120]⟩,.string ⟨#[116,101,114,109,115]⟩,.string ⟨#[114,97,110,103,101]⟩,.string ⟨#[98,111,111,108]⟩,.string ⟨#[98,111,111,115,116]⟩,.string ⟨#[119,101,105,103,104]⟩]) (.int .i64 5)).run Tryz.prog w = .ok (.string ⟨#[112,114,101,102,105,120]⟩) w:=fun _=>by kernel_rfl
  go_enter Tryz.func87,Tryz.ntmps87;go_wp2_with fail;go_ret;exact ⟨rfl,rfl⟩
 ·clear hk;have hi:∀w,(Instr.index 172 (.agg #[.string ⟨#[]⟩,.string ⟨#[97,108,108]⟩,.string ⟨#[110,111,110,101]⟩,.string ⟨#[116,101,114,109]⟩,.string ⟨#[112,104,114,97,115,101]⟩,.string ⟨#[112,114,101,102,105,120]⟩,.string ⟨#[116,101,114,109,115]⟩,.string ⟨#[114,97,110,103,101]⟩,.string ⟨#[98,111,111,108]⟩,.string ⟨#[98,111,111,115,116]⟩,.string ⟨#[119,101,105,103,104]⟩]) (.int .i64 6)).run Tryz.prog w = .ok (.string ⟨#[116,101,114,109,115]⟩) w:=fun _=>by kernel_rfl
  go_enter Tryz.func87,Tryz.ntmps87;go_wp2_with fail;go_ret;exact ⟨rfl,rfl⟩
 ·clear hk;have hi:∀w,(Instr.index 172 (.agg #[.string ⟨#[]⟩,.string ⟨#[97,108,108]⟩,.string ⟨#[110,111,110,101]⟩,.string ⟨#[116,101,114,109]⟩,.string ⟨#[112,104,114,97,115,101]⟩,.string ⟨#[112,114,101,102,105,120]⟩,.string ⟨#[116,101,114,109,115]⟩,.string ⟨#[114,97,110,103,101]⟩,.string ⟨#[98,111,111,108]⟩,.string ⟨#[98,111,111,115,116]⟩,.string ⟨#[119,101,105,103,104]⟩]) (.int .i64 7)).run Tryz.prog w = .ok (.string ⟨#[114,97,110,103,101]⟩) w:=fun _=>by kernel_rfl
  go_enter Tryz.func87,Tryz.ntmps87;go_wp2_with fail;go_ret;exact ⟨rfl,rfl⟩
 ·clear hk;have hi:∀w,(Instr.index 172 (.agg #[.string ⟨#[]⟩,.string ⟨#[97,108,108]⟩,.string ⟨#[110,111,110,101]⟩,.string ⟨#[116,101,114,109]⟩,.string ⟨#[112,104,114,97,115,101]⟩,.string ⟨#[112,114,101,102,105,120]⟩,.string ⟨#[116,101,114,109,115]⟩,.string ⟨#[114,97,110,103,101]⟩,.string ⟨#[98,111,111,108]⟩,.string ⟨#[98,111,111,115,116]⟩,.string ⟨#[119,101,105,103,104]⟩]) (.int .i64 8)).run Tryz.prog w = .ok (.string ⟨#[98,111,111,108]⟩) w:=fun _=>by kernel_rfl
  go_enter Tryz.func87,Tryz.ntmps87;go_wp2_with fail;go_ret;exact ⟨rfl,rfl⟩
 ·clear hk;have hi:∀w,(Instr.index 172 (.agg #[.string ⟨#[]⟩,.string ⟨#[97,108,108]⟩,.string ⟨#[110,111,110,101]⟩,.string ⟨#[116,101,114,109]⟩,.string ⟨#[112,104,114,97,115,101]⟩,.string ⟨#[112,114,101,102,105,120]⟩,.string ⟨#[116,101,114,109,115]⟩,.string ⟨#[114,97,110,103,101]⟩,.string ⟨#[98,111,111,108]⟩,.string ⟨#[98,111,111,115,116]⟩,.string ⟨#[119,101,105,103,104]⟩]) (.int .i64 9)).run Tryz.prog w = .ok (.string ⟨#[98,111,111,115,116]⟩) w:=fun _=>by kernel_rfl
  go_enter Tryz.func87,Tryz.ntmps87;go_wp2_with fail;go_ret;exact ⟨rfl,rfl⟩
 ·clear hk;have hi:∀w,(Instr.index 172 (.agg #[.string ⟨#[]⟩,.string ⟨#[97,108,108]⟩,.string ⟨#[110,111,110,101]⟩,.string ⟨#[116,101,114,109]⟩,.string ⟨#[112,104,114,97,115,101]⟩,.string ⟨#[112,114,101,102,105,120]⟩,.string ⟨#[116,101,114,109,115]⟩,.string ⟨#[114,97,110,103,101]⟩,.string ⟨#[98,111,111,108]⟩,.string ⟨#[98,111,111,115,116]⟩,.string ⟨#[119,101,105,103,104]⟩]) (.int .i64 10)).run Tryz.prog w = .ok (.string ⟨#[119,101,105,103,104]⟩) w:=fun _=>by kernel_rfl
  go_enter Tryz.func87,Tryz.ntmps87;go_wp2_with fail;go_ret;exact ⟨rfl,rfl⟩
theorem ygh (k:Int) (w:World) (hk:1≤k∧k≤3):Calls Tryz.prog 80 #[.int .i64 k] w (yji (str (opF k)) w):=by
 have:k=1∨k=2∨k=3:=by omega
 rcases this with rfl | rfl | rfl
 ·clear hk;have hi:∀w,(Instr.index 169 (.agg #[.string ⟨#[]⟩,.string ⟨#[97,100,100]⟩,.string ⟨#[109,117,108]⟩,.string ⟨#[109,97,120]⟩]) (.int .i64 1)).run Tryz.prog w = .ok (.string ⟨#[97,100,100]⟩) w:=fun _=>by kernel_rfl
  go_enter Tryz.func80,Tryz.ntmps80;go_wp2_with fail;go_ret;exact ⟨rfl,rfl⟩
 ·clear hk;have hi:∀w,(Instr.index 169 (.agg #[.string ⟨#[]⟩,.string ⟨#[97,100,100]⟩,.string ⟨#[109,117,108]⟩,.string ⟨#[109,97,120]⟩]) (.int .i64 2)).run Tryz.prog w = .ok (.string ⟨#[109,117,108]⟩) w:=fun _=>by kernel_rfl
  go_enter Tryz.func80,Tryz.ntmps80;go_wp2_with fail;go_ret;exact ⟨rfl,rfl⟩
 ·clear hk;have hi:∀w,(Instr.index 169 (.agg #[.string ⟨#[]⟩,.string ⟨#[97,100,100]⟩,.string ⟨#[109,117,108]⟩,.string ⟨#[109,97,120]⟩]) (.int .i64 3)).run Tryz.prog w = .ok (.string ⟨#[109,97,120]⟩) w:=fun _=>by kernel_rfl
  go_enter Tryz.func80,Tryz.ntmps80;go_wp2_with fail;go_ret;exact ⟨rfl,rfl⟩
end Go.Proofs.YtplkbdncgkgppaaGreatDoor.Qry
end
section
namespace Go.Proofs.YtplkbdncgkgppaaGreatDoor.Qry
open Go.RowKit Words Tree QryP Kit
abbrev zap (n:Int):List UInt8:=Lib.itoa n
theorem zky (sep:List UInt8):∀a b:List (List UInt8),(zby sep a).length≤(zby sep (a++b)).length
 | [],b=>Nat.zero_le _
 | [x],[]=>Nat.le_refl _
 | [x],y::b=>by simp[zby]
 | x::y::a,b=>by have:=zky sep (y::a) b;simp only[List.cons_append,zby,List.length_append] at *;omega
theorem zxh {l:List Int} {k:Nat} (h:k<l.length):zcu zap (l.take (k+1))=(if k=0 then zap l[k] else zcu zap (l.take k)++[32]++zap l[k]):=by
 unfold zcu;rw[List.take_succ_eq_append_getElem h,List.map_append,List.map_cons,List.map_nil,ziu];by_cases hk:k=0
 ·subst hk;rfl
 ·rw[if_neg hk,if_neg];intro e;have:=congrArg List.length e;rw[List.length_map,List.length_take] at this;simp only[List.length_nil] at this;omega
theorem yd8 {l:List Int} {k:Nat}:(zcu zap (l.take k)).length≤(zcu zap l).length:=by
 unfold zcu;conv=>rhs;rw[←List.take_append_drop k l,List.map_append]
 exact zky _ _ _
theorem ztj (z:Int) (h:I64 z) (w:World) (hT:Lib.TabIs Tryz.prog w "internal/strconv.uint64pow10" .u64 Lib.pow10Tab) :
 Calls Tryz.prog 125 #[.int .i64 z,.int .i64 10] w (fun e w'=>e = .returned (.string (str (zap z)))∧Below w.heap.size w w'):=OrdLib.zuv z h.1 h.2 _ rfl w hT
theorem zrl (B b D:Nat) (l0:List UInt8) (A:Option Addr) (c:Nat) (l:List Int) (w:World) (hR:∀W,Wr B (fun g=>g=b) w W→Reads W D 1 A l.length (l.map (Value.int .i64))) (hl:l.length*8≤140737488351232) (hI:∀z∈l,I64 z) (h:Buf B b l0 w) (hm:l0.length+(zcu zap l).length≤zfx)
 (hP:∀W,Wr B (fun g=>g=b) w W→Lib.TabIs Tryz.prog W "internal/strconv.uint64pow10" .u64 Lib.pow10Tab) :
 Calls Tryz.prog 91 #[.pointer (some ⟨b,0,none⟩),.slice A l.length c] w (zl4 B b l0 (zcu zap l) w):=by
 have HR:=hX hR;have HI:=hX hI;have HP:=hX hP;have HM:=hX hm;have H0:Hid (Buf B b (l0++zcu zap (l.take 0)) w):=hX (by simpa [zcu,zby] using h);have HBw:=hX (And.intro h.ge h.size);clear hR hI hP hm h;go_enter Tryz.func91,Tryz.ntmps91;go_wp2_with fail;go_loopw [8] (fun i wr=>∃k:Nat,k≤l.length∧i = .int .i64 k∧Hid (Buf B b (l0++zcu zap (l.take k)) wr)∧Hid (Wr B (fun g=>g=b) w wr)) (fun i _=>l.length - (intOf i).toNat);case atStart=>exact ⟨0,by omega,rfl,H0,hX (Wr.refl _ _ _)⟩
 case round=>
  obtain ⟨k,hk,rfl,HB,HW⟩:=hrel;by_cases hlt:k<l.length
  ·have hlt2:(k:Int)<(l.length:Int):=by omega
   obtain ⟨ad,u,rfl,hbl,hu,hce⟩:=(HR.out _ HW.out).at_ hlt
   obtain rfl:u = .int .i64 l[k]:=(by rw[List.getElem?_map,List.getElem?_eq_getElem hlt] at hu;exact (Option.some.inj hu).symm)
   have hz:=HI.out l[k] (List.getElem_mem _);have HS:=hX (zxh hlt);have HLE:Hid ((zcu zap (l.take (k+1))).length≤(zcu zap l).length):=hX yd8;clear hu hbl;generalize l[k]=z at *;have HF:=hX (fun W hW=>ztj z hz W (HP.out W hW));clear hz;by_cases hk0:k=0
   ·subst hk0;have e0:ad.add 0=ad:=by unfold Addr.add;split <;> simp_all
    rw[e0] at hce;clear e0
    have HX:=hX (fun (W:World) (hW:Buf B b (l0++zcu zap (l.take 0)) W)=>zea B b _ (str (zap z)) W hW (by
     have h1:=HM.out;have h2:=HLE.out;have h3:=HS.out;rw[if_pos rfl] at h3;rw[h3] at h2;show (l0++zcu zap (l.take 0)).length+(zap z).length≤zfx;simp only[List.take_zero,zcu,List.map_nil,zby,List.append_nil] at *
     omega))
    go_wp2_with fail;refine (HF.out _ HW.out).mono ?_;rintro e w2 ⟨rfl,hb⟩;have HB2:=hX (HB.out.keep hb);have HW2:=hX (HW.out.trans (Wr.same hb (by have h1:=HBw.out;have h2:=HW.out.below.size;omega)));clear hb hce;go_wp2_with fail;refine (HX.out _ HB2.out).mono ?_;rintro e w3 ⟨rfl,hb,hw⟩
    have HB3:Hid (Buf B b (l0++zcu zap (l.take (0+1))) w3):=hX (by
     have hb':Buf B b (l0++zcu zap (l.take 0)++zap z) w3:=hb;rw[HS.out]
     simpa [zcu,zby] using hb')
    have HW3:=hX (HW2.out.trans hw);clear hb hw;go_wp2_with fail;go_roundw;case rel=>exact ⟨1,by omega,by go_num,HB3,HW3⟩
    case measure=>simp[intOf];omega
   ·have hkp:(0:Int)<(k:Int):=by omega
    have HXL:Hid ((l0++zcu zap (l.take k)).length+1+(zap z).length≤zfx):=hX (by
     have h1:=HM.out;have h2:=HLE.out;have h3:=HS.out;rw[if_neg hk0] at h3;rw[h3] at h2;simp only[List.length_append,List.length_cons,List.length_nil] at *
     omega)
    have HP1:=hX (fun (W:World) (hW:Buf B b (l0++zcu zap (l.take k)) W)=>zb5 B b _ 32 W hW (by have:=HXL.out;omega))
    have HX:=hX (fun (W:World) (hW:Buf B b (l0++zcu zap (l.take k)++[32]) W)=>zea B b _ (str (zap z)) W hW (by
     have:=HXL.out;show _+(zap z).length≤zfx;simp only[List.length_append,List.length_cons,List.length_nil] at *
     omega))
    have HST:Hid (∀W,Buf B b (l0++zcu zap (l.take k)++[32]++zap z) W→Buf B b (l0++zcu zap (l.take (k+1))) W):=hX (fun W hW=>by
     rw[HS.out,if_neg hk0]
     simpa [List.append_assoc] using hW)
    clear hk0;go_wp2_with fail;refine (HP1.out _ HB.out).mono ?_;rintro e w2 ⟨rfl,hb,hw⟩;have HB2:=hX hb;have HW2:=hX (HW.out.trans hw);clear hb hw hce;go_wp2_with fail;refine (HF.out _ HW2.out).mono ?_;rintro e w3 ⟨rfl,hb⟩;have HB3:=hX (HB2.out.keep hb);have HW3:=hX (HW2.out.trans (Wr.same hb (by have h1:=HBw.out;have h2:=HW2.out.below.size;omega)));clear hb;go_wp2_with fail;refine (HX.out _ HB3.out).mono ?_;rintro e w4 ⟨rfl,hb,hw⟩;have HB4:=hX (HST.out _ hb);have HW4:=hX (HW3.out.trans hw);clear hb hw;go_wp2_with fail;go_roundw;case rel=>exact ⟨k+1,by omega,by go_num,HB4,HW4⟩
    case measure=>simp[intOf];omega
  ·obtain rfl:k=l.length:=by omega
   have HB1:Hid (Buf B b (l0++zcu zap l) wr):=hX (by
    have:=HB.out
    rwa [List.take_length] at this)
   clear HB;go_wp2_with fail;go_end0;exact ⟨rfl,HB1.out,HW.out⟩
end Go.Proofs.YtplkbdncgkgppaaGreatDoor.Qry
end
section
namespace Go.Proofs.YtplkbdncgkgppaaGreatDoor.Qry
open Go.RowKit Words Tree QryP Kit
theorem Wr.drew {B:Nat} {S:Nat→Prop} {w w':World} (h:Wr B S w w'):Wr B S w w'.drew:=⟨h.below.drew,h.kept⟩
structure Caps (B b T Q:Nat) (kd oc:Int) (f t u:ByteArray) (lo hi:List Int) (bo op:Int) (n:Nat) (L Hh K:Option Addr) (cl ch ck:Nat) (w:World):Prop where
 tB:Blk w T 108 #[.pointer (some ⟨b,0,none⟩)]
 qB:Blk w Q 28 #[.int .i64 kd,.int .i64 oc,.string f,.string t,.string u,.slice L lo.length cl,.slice Hh hi.length ch,.int .i64 bo,.int .i64 op,.slice K n ck]
 low:Reads w B 1 L lo.length (lo.map (Value.int .i64))
 high:Reads w B 1 Hh hi.length (hi.map (Value.int .i64))
 pow:Lib.TabIs Tryz.prog w "internal/strconv.uint64pow10" .u64 Lib.pow10Tab
 powB:∀W,Below B w W→Lib.TabIs Tryz.prog W "internal/strconv.uint64pow10" .u64 Lib.pow10Tab
 tb:T≠b
 qb:Q≠b
theorem Caps.wr {B b T Q:Nat} {S:Nat→Prop} {kd oc:Int} {f t u:ByteArray} {lo hi:List Int} {bo op:Int} {n:Nat} {L Hh K:Option Addr} {cl ch ck:Nat} {w W:World} (h:Caps B b T Q kd oc f t u lo hi bo op n L Hh K cl ch ck w) (hw:Wr B S w W) (hT:¬S T) (hQ:¬S Q):Caps B b T Q kd oc f t u lo hi bo op n L Hh K cl ch ck W:=
 ⟨hw.blk h.tB hT (by decide),hw.blk h.qB hQ (by decide),h.low.below hw.below,h.high.below hw.below,h.powB W hw.below,fun V hV=>h.powB V (hw.below.trans hV),h.tb,h.qb⟩
section
variable {B b T Q:Nat} {kd oc:Int} {f t u:ByteArray} {lo hi:List Int} {bo op:Int} {n:Nat} {L Hh K:Option Addr} {cl ch ck:Nat} {w:World} {l:List UInt8}
theorem yio (hc:Caps B b T Q kd oc f t u lo hi bo op n L Hh K cl ch ck w) (h:Buf B b l w) (hl:l.length+(f.data.toList).length≤zfx) :
 Calls Tryz.prog 93 #[.pointer (some ⟨T,0,none⟩),.pointer (some ⟨Q,0,none⟩)] w (zl4 B b l (f.data.toList) w):=by
 have c0:w.cell? ⟨T,0,none⟩=some (.pointer (some ⟨b,0,none⟩)):=hc.tB.cell 0;have c1:w.cell? ⟨Q,2,none⟩=some (.string f):=hc.qB.cell 2;have HS:=hX (zea B b l f w h hl);clear hc h hl;go_enter Tryz.func93,Tryz.ntmps93;go_wp2_with fail;refine HS.out.mono ?_;rintro e w2 ⟨rfl,hb,hw⟩;have HB2:=hX hb;have HW2:=hX hw;clear hb hw;go_wp2_with fail;go_end0;exact ⟨rfl,HB2.out,HW2.out⟩
theorem yip (hc:Caps B b T Q kd oc f t u lo hi bo op n L Hh K cl ch ck w) (h:Buf B b l w) (hl:l.length+(zcw t).length≤zfx) (hs:t.size≤140737488351232) :
 Calls Tryz.prog 97 #[.pointer (some ⟨T,0,none⟩),.pointer (some ⟨Q,0,none⟩)] w (zl4 B b l (zcw t) w):=by
 have c0:w.cell? ⟨T,0,none⟩=some (.pointer (some ⟨b,0,none⟩)):=hc.tB.cell 0;have c1:w.cell? ⟨Q,3,none⟩=some (.string t):=hc.qB.cell 3;have HS:=hX (zxg B b l t w hs h hl);clear hc h hl;go_enter Tryz.func97,Tryz.ntmps97;go_wp2_with fail;refine HS.out.mono ?_;rintro e w2 ⟨rfl,hb,hw⟩;have HB2:=hX hb;have HW2:=hX hw;clear hb hw;go_wp2_with fail;go_end0;exact ⟨rfl,HB2.out,HW2.out⟩
theorem yiq (hc:Caps B b T Q kd oc f t u lo hi bo op n L Hh K cl ch ck w) (h:Buf B b l w) (hl:l.length+(zap bo).length≤zfx) (hI:I64 bo) :
 Calls Tryz.prog 90 #[.pointer (some ⟨T,0,none⟩),.pointer (some ⟨Q,0,none⟩)] w (zl4 B b l (zap bo) w):=by
 have c0:w.cell? ⟨T,0,none⟩=some (.pointer (some ⟨b,0,none⟩)):=hc.tB.cell 0;have c1:w.cell? ⟨Q,7,none⟩=some (.int .i64 bo):=hc.qB.cell 7;have hBw:B≤w.heap.size:=by have:=h.ge;have:=h.size;omega
 have hw0:Wr B (fun g=>g=b) w (w.alloc (.cells #[.int .i64 bo] 2)):=(Wr.refl _ _ _).alloc hBw _;have hbn:w.heap.size≠b:=by have:=h.size;omega
 have HS:=hX (zrl B b (w.heap.size+1) l (some ⟨w.heap.size,0,none⟩) 1 [bo] (w.alloc (.cells #[.int .i64 bo] 2)) (fun W hW=>⟨rfl,fun _=>⟨_,rfl,Nat.lt_succ_self _,World.news_of_block (hW.blk (Blk.new w _ _) hbn (by decide))⟩⟩) (by simp) (by simpa using hI) (h.keep ((Below.refl _ _).alloc (Nat.le_refl _) _)) hl (fun W hW=>hc.powB W (hw0.trans hW).below));have HW0:=hX hw0;clear hc h hl hw0 hbn hBw;go_enter Tryz.func90,Tryz.ntmps90;go_wp2_with fail;refine HS.out.mono ?_;rintro e w2 ⟨rfl,hb,hw⟩;have HB2:=hX hb;have HW2:=hX (HW0.out.trans hw);clear hb hw;go_wp2_with fail;go_end0;exact ⟨rfl,HB2.out,HW2.out⟩
end
end Go.Proofs.YtplkbdncgkgppaaGreatDoor.Qry
end
section
namespace Go.Proofs.YtplkbdncgkgppaaGreatDoor.Qry
open Go.RowKit Words Tree QryP Kit
theorem Wr.more {B b P:Nat} {w0 w w':World} (h:Wr B (fun g=>g=b) w0 w) (k:Wr B (fun g=>g=b∨g=P) w w') (hP:w0.heap.size≤P):Wr B (fun g=>g=b) w0 w':=
 ⟨h.below.trans k.below,fun g o h1 h2 h3=>k.kept g o (h.kept g o h1 h2 h3) (fun e=>by
  rcases e with rfl | rfl
  ·exact h2 rfl
  ·have:=(Array.getElem?_eq_some_iff.1 h1).1;omega) h3⟩
structure WS (B b T Q P:Nat) (kd oc:Int) (f t u:ByteArray) (lo hi:List Int) (bo op:Int) (n:Nat) (L Hh K:Option Addr) (cl ch ck:Nat) (l0:List UInt8) (w0:World) (ps:List (List UInt8)) (w:World):Prop where
 caps:Caps B b T Q kd oc f t u lo hi bo op n L Hh K cl ch ck w
 buf:Buf B b (l0++zby [44,32] ps) w
 cnt:Blk w P 3 #[.int .i64 (ps.length:Int)]
 wr:Wr B (fun g=>g=b) w0 w
 pb:P≠b
 tp:T≠P
 qp:Q≠P
 new:w0.heap.size≤P
 bp:B≤P
theorem zrm (ps:List (List UInt8)) (x:List UInt8):zby [44,32] ps++(zgj ps.length++x)=zby [44,32] (ps++[x]):=by
 rw[ziu];by_cases h:ps=[]
 ·subst h;rfl
 ·rw[if_neg h];have:ps.length≠0:=fun e=>h (List.eq_nil_of_length_eq_zero e);rw[zgj,if_neg this];simp
section
variable {B b T Q P:Nat} {kd oc:Int} {f t u:ByteArray} {lo hi:List Int} {bo op:Int} {n:Nat} {L Hh K:Option Addr} {cl ch ck:Nat} {l0:List UInt8} {w0 w:World} {ps:List (List UInt8)} {x:List UInt8}
theorem znq (h:WS B b T Q P kd oc f t u lo hi bo op n L Hh K cl ch ck l0 w0 ps w) (F:FuncId) (caps:Array Value) (hE:∀args w,(callFunc F args).run Tryz.prog w = .ok (.enter F args) w)
 (hm:l0.length+(zby [44,32] (ps++[x])).length+50≤zfx) (hn:ps.length≤1000000000000000000)
 (hF:∀W,Caps B b T Q kd oc f t u lo hi bo op n L Hh K cl ch ck W→Wr B (fun g=>g=b∨g=P) w W→Buf B b (l0++zby [44,32] ps++zgj ps.length) W→(l0++zby [44,32] ps++zgj ps.length).length+x.length=l0.length+(zby [44,32] (ps++[x])).length→Calls Tryz.prog F caps W (zl4 B b (l0++zby [44,32] ps++zgj ps.length) x W)) :
 Calls Tryz.prog 88 #[.func (.func F) #[] caps,.pointer (some ⟨P,0,none⟩),.pointer (some ⟨T,0,none⟩)] w (fun e w'=>e = .returned (.tuple #[])∧WS B b T Q P kd oc f t u lo hi bo op n L Hh K cl ch ck l0 w0 (ps++[x]) w'):=by
 have hj:=zrm ps x
 have hjl:(zby [44,32] ps).length+x.length≤(zby [44,32] (ps++[x])).length:=(by have:=congrArg List.length hj;simp only[List.length_append] at this;omega)
 have hT:¬(T=b∨T=P):=fun e=>e.elim h.caps.tb h.tp;have hQ:¬(Q=b∨Q=P):=fun e=>e.elim h.caps.qb h.qp;refine (part_any B b T P _ x ps.length F caps w h.caps.tB h.cnt h.pb h.caps.tb h.tp h.bp hn h.buf (by simp only[List.length_append];omega) hE (fun W hW hb=>?_)).mono ?_
 ·refine hF W (h.caps.wr hW hT hQ) hW hb ?_;have:=congrArg List.length hj;simp only[List.length_append] at *;omega
 ·rintro e w' ⟨rfl,hb,hw,hc⟩;refine ⟨rfl,h.caps.wr hw hT hQ,?_,?_,h.wr.more hw h.new,h.pb,h.tp,h.qp,h.new,h.bp⟩
  ·rw[←hj];simpa [List.append_assoc] using hb
  ·simpa using hc
end
end Go.Proofs.YtplkbdncgkgppaaGreatDoor.Qry
end
