/- Lemmas that the last text leans on. -/
import Derived.Test.YtplkbdncgkgppaaGreatDoorTake
import Derived.Test.YtplkbdncgkgppaaGreatDoorPack7
import Derived.Test.YtplkbdncgkgppaaGreatDoorPack9
import Derived.Deep.RegionHeld3
import Derived.Test.YtplkbdncgkgppaaGreatDoorPack6
import Derived.Test.YtplkbdncgkgppaaGreatDoorPack2
import Derived.Test.YtplkbdncgkgppaaGreatDoorPack8
import Derived.WalkLawsBesides
import Derived.WalkSpells
set_option linter.all false
set_option maxRecDepth 100000
set_option maxHeartbeats 8000000
section
namespace Go.Proofs.YtplkbdncgkgppaaGreatDoor.Qry
open Go.RowKit Words Tree QryP Kit
def zfh (n:Nat):List UInt8:=if n=0 then [] else [44,32]
def yfi (B b P:Nat) (l:List UInt8) (n:Nat) (w:World) (e:Ending) (w':World):Prop:=e = .returned (.tuple #[])∧Buf B b l w'∧Wr B (fun g=>g=b∨g=P) w w'∧Blk w' P 3 #[.int .i64 (n:Int)]
theorem part_any (B b T P:Nat) (l x:List UInt8) (n:Nat) (F:FuncId) (caps:Array Value) (w:World) (hT:Blk w T 108 #[.pointer (some ⟨b,0,none⟩)]) (hP:Blk w P 3 #[.int .i64 (n:Int)]) (hPb:P≠b) (hTb:T≠b) (hTP:T≠P) (hBP:B≤P) (hn:n≤1000000000000000000)
 (h:Buf B b l w) (hl:l.length+2+x.length≤ze0) (hE:∀args w,(callFunc F args).run Tryz.prog w = .ok (.enter F args) w)
 (hF:∀W,Wr B (fun g=>g=b∨g=P) w W→Buf B b (l++zfh n) W→Calls Tryz.prog F caps W (zk5 B b (l++zfh n) x W)) :
 Calls Tryz.prog 88 #[.func (.func F) #[] caps,.pointer (some ⟨P,0,none⟩),.pointer (some ⟨T,0,none⟩)] w (yfi B b P (l++(zfh n++x)) (n+1) w):=by
 have c0:w.cell? ⟨P,0,none⟩=some (.int .i64 (n:Int)):=hP.cell 0;have f0:w.frozen? ⟨P,0,none⟩=false:=hP.frozen 0;have HW1:Hid (Wr B (fun g=>g=b∨g=P) w (w.setCell ⟨P,0,none⟩ (.int .i64 ((n:Int)+1)))):=hX ((Wr.refl _ _ _).set (p:=⟨P,0,none⟩) (.inr rfl) hBP _);have HP1:Hid (Blk (w.setCell ⟨P,0,none⟩ (.int .i64 ((n:Int)+1))) P 3 #[.int .i64 ((n:Int)+1)]):=hX (hP.set_ 0 _);have HT1:Hid (Blk (w.setCell ⟨P,0,none⟩ (.int .i64 ((n:Int)+1))) T 108 #[.pointer (some ⟨b,0,none⟩)]):=hX (HW1.out.blk hT (by simp[hTb,hTP]) (by decide));have HB1:Hid (Buf B b l (w.setCell ⟨P,0,none⟩ (.int .i64 ((n:Int)+1)))):=hX (h.set (p:=⟨P,0,none⟩) hP (by decide) hPb _);have HF:=hX hF;have HL:=hX hl;have hcT:(w.setCell ⟨P,0,none⟩ (.int .i64 ((n:Int)+1))).cell? ⟨T,0,none⟩=some (.pointer (some ⟨b,0,none⟩)):=HT1.out.cell 0;have hcP:(w.setCell ⟨P,0,none⟩ (.int .i64 ((n:Int)+1))).cell? ⟨P,0,none⟩=some (.int .i64 ((n:Int)+1)):=HP1.out.cell 0;clear hT hP h hF hl;by_cases hn0:n=0
 ·subst hn0;go_enter Tryz.func88,Tryz.ntmps88;go_wp2_with fail;refine (HF.out _ HW1.out (by simpa [zfh] using HB1.out)).mono ?_;rintro e w2 ⟨rfl,hb,hw⟩;have HB2:=hX hb;have HW2:=hX (HW1.out.trans (hw.mono fun g e=>.inl e));have HP2:=hX (hw.blk HP1.out hPb (by decide));clear hb hw hcT hcP;go_wp2_with fail;go_end0;exact ⟨rfl,by simpa [zfh] using HB2.out,HW2.out,HP2.out⟩
 ·have hd:decide ((1:Int)<(n:Int)+1)=true:=decide_eq_true (by omega);have hc:zfh n=[44,32]:=if_neg hn0;rw[hc] at HF;have HC:=hX hc;have HS:=hX (zdk B b l ⟨#[44,32]⟩ _ HB1.out (by have:=HL.out;show l.length+2≤ze0;omega));clear hc hn0;go_enter Tryz.func88,Tryz.ntmps88;go_wp2_with fail;refine HS.out.mono ?_;rintro e w2 ⟨rfl,hb,hw⟩;have HB2:=hX hb;have HW2:=hX (HW1.out.trans (hw.mono fun g e=>.inl e));have HP2:=hX (hw.blk HP1.out hPb (by decide));clear hb hw hcT hcP;go_wp2_with fail;refine (HF.out _ HW2.out HB2.out).mono ?_;rintro e w3 ⟨rfl,hb,hw⟩;have HB3:=hX hb;have HW3:=hX (HW2.out.trans (hw.mono fun g e=>.inl e));have HP3:=hX (hw.blk HP2.out hPb (by decide));clear hb hw;go_wp2_with fail;go_end0;exact ⟨rfl,by rw[HC.out];simpa [List.append_assoc] using HB3.out,HW3.out,HP3.out⟩
end Go.Proofs.YtplkbdncgkgppaaGreatDoor.Qry
end
section
namespace Go.Proofs.YtplkbdncgkgppaaGreatDoor.Qry
open Go.RowKit Words Tree QryP Kit
theorem zlp {s:ByteArray} {k:Nat} (h:k<s.size):(s.data.toList.take (k+1)).flatMap zbs=(s.data.toList.take k).flatMap zbs++zbs s[k]:=by
 rw[List.take_succ_eq_append_getElem (by simpa using h),List.flatMap_append];simp;rfl
theorem zs8 {s:ByteArray} {k:Nat}:((s.data.toList.take k).flatMap zbs).length≤(s.data.toList.flatMap zbs).length:=by
 conv=>rhs;rw[←List.take_append_drop k s.data.toList,List.flatMap_append,List.length_append]
 omega
theorem ydz:∀(n:Nat) (h:n<16),(⟨#[48,49,50,51,52,53,54,55,56,57,65,66,67,68,69,70]⟩:ByteArray)[n]'h=zye n:=by
 intro n h;have:∀m:Fin 16,(⟨#[48,49,50,51,52,53,54,55,56,57,65,66,67,68,69,70]⟩:ByteArray)[m.val]'m.isLt=zye m.val:=by decide
 exact this ⟨n,h⟩
theorem zvq (B b:Nat) (l:List UInt8) (n:Nat) (hn:n<16) (w:World) (h:Buf B b l w) (hl:l.length+1≤ze0):Calls Tryz.prog 89 #[.pointer (some ⟨b,0,none⟩),.int .u8 ((⟨#[48,49,50,51,52,53,54,55,56,57,65,66,67,68,69,70]⟩:ByteArray)[n]'hn).toNat] w fun e w'=>e = .returned .nilIface∧Put B b l [zye n] w e w':=by
 rw[ydz n hn];exact zbz B b l _ w h hl
theorem zvr (B b:Nat) (l:List UInt8) (s:ByteArray) (w:World) (hs:s.size≤140737488351232) (h:Buf B b l w) (hl:l.length+(zcf s).length≤ze0):Calls Tryz.prog 95 #[.pointer (some ⟨b,0,none⟩),.string s] w (zk5 B b l (zcf s) w):=by
 have hq:(zcf s).length=(s.data.toList.flatMap zbs).length+2:=by simp[zcf]
 have HL:=hX hl;have HQ:=hX hq;have H1:=hX (zbz B b l 34 w h (by omega));clear h hl hq;go_enter Tryz.func95,Tryz.ntmps95;go_wp2_with fail;refine H1.out.mono ?_;rintro e w1 ⟨rfl,hb,hw⟩;have HB:=hX hb;have HW:=hX hw;clear hb hw H1;go_wp2_with fail;go_loopw [10] (fun i wr=>∃k:Nat,k≤s.size∧i = .int .i64 k∧Hid (Buf B b (l++34::(s.data.toList.take k).flatMap zbs) wr)∧Hid (Wr B (fun g=>g=b) w wr)) (fun i _=>s.size - (intOf i).toNat);case atStart=>exact ⟨0,by omega,rfl,HB,HW⟩
 case round=>
  clear HB HW;obtain ⟨k,hk,rfl,HB,HW⟩:=hrel;by_cases hlt:k<s.size
  ·have hlt2:(k:Int)<(s.size:Int):=by omega
   have HS:=hX (zlp hlt)
   have HLE:Hid (l.length+(34::((s.data.toList.take k).flatMap zbs++zbs s[k])).length≤ze0):=hX (by
    have:=zs8 (s:=s) (k:=k+1);rw[zlp hlt] at this;have h1:=HL.out;have h2:=HQ.out;simp only[List.length_cons] at *
    omega)
   generalize hc:s[k]=c at *;have hcl:=c.toNat_lt
   have HX:Hid ((l++34::(s.data.toList.take k).flatMap zbs).length+(zbs c).length≤ze0):=hX (by
    have:=HLE.out;simp only[List.length_append,List.length_cons] at *
    omega)
   have HNX:Hid (∀W,Buf B b (l++34::(s.data.toList.take k).flatMap zbs++zbs c) W→Buf B b (l++34::(s.data.toList.take (k+1)).flatMap zbs) W):=hX (fun W hW=>by rw[HS.out];simpa [List.append_assoc] using hW);clear HLE HS;generalize l++34::(s.data.toList.take k).flatMap zbs=L at *;by_cases h1:c.toNat=34∨c.toNat=92
   ·have hq:zbs c=[92,c]:=by
     unfold zbs;rw[if_pos];rcases h1 with h1 | h1
     ·exact .inl (UInt8.toNat_inj.1 (by rw[h1];rfl))
     ·exact .inr (UInt8.toNat_inj.1 (by rw[h1];rfl))
    rw[hq] at HX HNX;have HXL:=HX.out;simp only[List.length_cons,List.length_nil] at HXL;have HP:=hX (fun W (hW:Buf B b L W)=>zbz B b L 92 W hW (by omega));have HP2:=hX (fun W (hW:Buf B b (L++[92]) W)=>zbz B b (L++[92]) c W hW (by simp;omega));clear hq HX HXL;by_cases h34:c.toNat=34
    ·have d1:((c.toNat:Int) == 34)=true:=by rw[h34];rfl
     clear h1 h34;go_wp2_with fail;refine (HP.out _ HB.out).mono ?_;rintro e w2 ⟨rfl,hb,hw⟩;have HB2:=hX hb;have HW2:=hX (HW.out.trans hw);clear hb hw;go_wp2_with fail;refine (HP2.out _ HB2.out).mono ?_;rintro e w3 ⟨rfl,hb,hw⟩;have HB3:=hX (HNX.out _ (by simpa using hb));have HW3:=hX (HW2.out.trans hw);clear hb hw;go_wp2_with fail;go_roundw;case rel=>exact ⟨k+1,by omega,by go_num,HB3,HW3⟩
     case measure=>simp[intOf];omega
    ·have d1:((c.toNat:Int) == 34)=false:=by rw[beq_eq_false_iff_ne];omega
     have d2:((c.toNat:Int) == 92)=true:=by rw[beq_iff_eq];omega
     clear h1 h34;go_wp2_with fail;refine (HP.out _ HB.out).mono ?_;rintro e w2 ⟨rfl,hb,hw⟩;have HB2:=hX hb;have HW2:=hX (HW.out.trans hw);clear hb hw;go_wp2_with fail;refine (HP2.out _ HB2.out).mono ?_;rintro e w3 ⟨rfl,hb,hw⟩;have HB3:=hX (HNX.out _ (by simpa using hb));have HW3:=hX (HW2.out.trans hw);clear hb hw;go_wp2_with fail;go_roundw;case rel=>exact ⟨k+1,by omega,by go_num,HB3,HW3⟩
     case measure=>simp[intOf];omega
   ·have d1:((c.toNat:Int) == 34)=false:=by rw[beq_eq_false_iff_ne];omega
    have d2:((c.toNat:Int) == 92)=false:=by rw[beq_eq_false_iff_ne];omega
    have hn:¬(c=34∨c=92):=(by rintro (rfl | rfl) <;> exact h1 (by decide))
    by_cases h2:c.toNat<32∨127≤c.toNat
    ·have hq:zbs c=[92,120]++[zye (c.toNat / 16)]++[zye (c.toNat % 16)]:=by unfold zbs;rw[if_neg hn,if_pos h2];rfl
     rw[hq] at HX HNX;have HXL:=HX.out;simp only[List.length_cons,List.length_nil,List.length_append] at HXL;have HP:=hX (fun W (hW:Buf B b L W)=>zdk B b L ⟨#[92,120]⟩ W hW (by show L.length+2≤ze0;omega));have HP2:=hX (fun W (hW:Buf B b (L++[92,120]) W)=>zvq B b (L++[92,120]) (c.toNat / 16) (by omega) W hW (by simp;omega));have HP3:=hX (fun W (hW:Buf B b (L++[92,120]++[zye (c.toNat / 16)]) W)=>zvq B b (L++[92,120]++[zye (c.toNat / 16)]) (c.toNat % 16) (by omega) W hW (by simp;omega));clear hq HX HXL h1 hn
     have d34:(decide ((c.toNat:Int)<32)=true)∨(decide ((c.toNat:Int)<32)=false∧decide (127≤(c.toNat:Int))=true):=by
      by_cases h3:c.toNat<32
      ·exact .inl (decide_eq_true (by omega))
      ·exact .inr ⟨decide_eq_false (by omega),decide_eq_true (by omega)⟩
     clear h2
     rcases d34 with d3 | ⟨d3,d4⟩
     all_goals
      go_wp2_with fail;refine (HP.out _ HB.out).mono ?_;rintro e w2 ⟨rfl,hb,hw⟩;have HB2:=hX hb;have HW2:=hX (HW.out.trans hw);clear hb hw;go_wp2_with fail;refine (HP2.out _ HB2.out).mono ?_;rintro e w3 ⟨rfl,hb,hw⟩;have HB3:=hX hb;have HW3:=hX (HW2.out.trans hw);clear hb hw;go_wp2_with fail;refine (HP3.out _ HB3.out).mono ?_;rintro e w4 ⟨rfl,hb,hw⟩;have HB4:=hX (HNX.out _ (by simpa using hb));have HW4:=hX (HW3.out.trans hw);clear hb hw;go_wp2_with fail;go_roundw;case rel=>exact ⟨k+1,by omega,by go_num,HB4,HW4⟩
      case measure=>simp[intOf];omega
    ·have hq:zbs c=[c]:=by unfold zbs;rw[if_neg hn,if_neg h2]
     rw[hq] at HX HNX;have HXL:=HX.out;simp only[List.length_cons,List.length_nil] at HXL;have HP:=hX (fun W (hW:Buf B b L W)=>zbz B b L c W hW (by omega));have d3:decide ((c.toNat:Int)<32)=false:=decide_eq_false (by omega);have d4:decide (127≤(c.toNat:Int))=false:=decide_eq_false (by omega);clear hq HX HXL h1 h2 hn;go_wp2_with fail;refine (HP.out _ HB.out).mono ?_;rintro e w2 ⟨rfl,hb,hw⟩;have HB2:=hX (HNX.out _ hb);have HW2:=hX (HW.out.trans hw);clear hb hw;go_wp2_with fail;go_roundw;case rel=>exact ⟨k+1,by omega,by go_num,HB2,HW2⟩
     case measure=>simp[intOf];omega
  ·obtain rfl:k=s.size:=by omega
   have HB1:Hid (Buf B b (l++34::s.data.toList.flatMap zbs) wr):=hX (by
    have:=HB.out
    rwa [List.take_of_length_le (by simp)] at this)
   have HP:=hX (zbz B b _ 34 wr HB1.out (by
    have h1:=HL.out;have h2:=HQ.out;simp only[List.length_append,List.length_cons]
    omega))
   clear HB HB1;go_wp2_with fail;refine HP.out.mono ?_;rintro e w2 ⟨rfl,hb,hw⟩;have HB2:Hid (Buf B b (l++zcf s) w2):=hX (by simpa [zcf] using hb);have HW2:=hX (HW.out.trans hw);clear hb hw;go_wp2_with fail;go_end0;exact ⟨rfl,HB2.out,HW2.out⟩
end Go.Proofs.YtplkbdncgkgppaaGreatDoor.Qry
end
section
namespace Go.Proofs.YtplkbdncgkgppaaGreatDoor.Qry
open Go.RowKit Words Tree QryP Kit
theorem Wr.drew {B:Nat} {S:Nat→Prop} {w w':World} (h:Wr B S w w'):Wr B S w w'.drew:=⟨h.below.drew,h.kept⟩
structure Caps (B b T Q:Nat) (kd oc:Int) (f t u:ByteArray) (lo hi:List Int) (bo op:Int) (n:Nat) (L Hh K:Option Addr) (cl ch ck:Nat) (w:World):Prop where
 tB:Blk w T 108 #[.pointer (some ⟨b,0,none⟩)]
 qB:Blk w Q 28 #[.int .i64 kd,.int .i64 oc,.string f,.string t,.string u,.slice L lo.length cl,.slice Hh hi.length ch,.int .i64 bo,.int .i64 op,.slice K n ck]
 low:Reads w B 1 L lo.length (lo.map (Value.int .i64))
 high:Reads w B 1 Hh hi.length (hi.map (Value.int .i64))
 pow:Lib.TabIs Tryz.prog w "internal/strconv.uint64pow10" .u64 Lib.pow10Tab
 powB:∀W,Below B w W→Lib.TabIs Tryz.prog W "internal/strconv.uint64pow10" .u64 Lib.pow10Tab
 tb:T≠b
 qb:Q≠b
theorem Caps.wr {B b T Q:Nat} {S:Nat→Prop} {kd oc:Int} {f t u:ByteArray} {lo hi:List Int} {bo op:Int} {n:Nat} {L Hh K:Option Addr} {cl ch ck:Nat} {w W:World} (h:Caps B b T Q kd oc f t u lo hi bo op n L Hh K cl ch ck w) (hw:Wr B S w W) (hT:¬S T) (hQ:¬S Q):Caps B b T Q kd oc f t u lo hi bo op n L Hh K cl ch ck W:=
 ⟨hw.blk h.tB hT (by decide),hw.blk h.qB hQ (by decide),h.low.below hw.below,h.high.below hw.below,h.powB W hw.below,fun V hV=>h.powB V (hw.below.trans hV),h.tb,h.qb⟩
section
variable {B b T Q:Nat} {kd oc:Int} {f t u:ByteArray} {lo hi:List Int} {bo op:Int} {n:Nat} {L Hh K:Option Addr} {cl ch ck:Nat} {w:World} {l:List UInt8}
theorem yfj (hc:Caps B b T Q kd oc f t u lo hi bo op n L Hh K cl ch ck w) (h:Buf B b l w) (hl:l.length+(f.data.toList).length≤ze0) :
 Calls Tryz.prog 93 #[.pointer (some ⟨T,0,none⟩),.pointer (some ⟨Q,0,none⟩)] w (zk5 B b l (f.data.toList) w):=by
 have c0:w.cell? ⟨T,0,none⟩=some (.pointer (some ⟨b,0,none⟩)):=hc.tB.cell 0;have c1:w.cell? ⟨Q,2,none⟩=some (.string f):=hc.qB.cell 2;have HS:=hX (zdk B b l f w h hl);clear hc h hl;go_enter Tryz.func93,Tryz.ntmps93;go_wp2_with fail;refine HS.out.mono ?_;rintro e w2 ⟨rfl,hb,hw⟩;have HB2:=hX hb;have HW2:=hX hw;clear hb hw;go_wp2_with fail;go_end0;exact ⟨rfl,HB2.out,HW2.out⟩
theorem yfk (hc:Caps B b T Q kd oc f t u lo hi bo op n L Hh K cl ch ck w) (h:Buf B b l w) (hl:l.length+(zcf t).length≤ze0) (hs:t.size≤140737488351232) :
 Calls Tryz.prog 97 #[.pointer (some ⟨T,0,none⟩),.pointer (some ⟨Q,0,none⟩)] w (zk5 B b l (zcf t) w):=by
 have c0:w.cell? ⟨T,0,none⟩=some (.pointer (some ⟨b,0,none⟩)):=hc.tB.cell 0;have c1:w.cell? ⟨Q,3,none⟩=some (.string t):=hc.qB.cell 3;have HS:=hX (zvr B b l t w hs h hl);clear hc h hl;go_enter Tryz.func97,Tryz.ntmps97;go_wp2_with fail;refine HS.out.mono ?_;rintro e w2 ⟨rfl,hb,hw⟩;have HB2:=hX hb;have HW2:=hX hw;clear hb hw;go_wp2_with fail;go_end0;exact ⟨rfl,HB2.out,HW2.out⟩
theorem yfl (hc:Caps B b T Q kd oc f t u lo hi bo op n L Hh K cl ch ck w) (h:Buf B b l w) (hl:l.length+(zan bo).length≤ze0) (hI:I64 bo) :
 Calls Tryz.prog 90 #[.pointer (some ⟨T,0,none⟩),.pointer (some ⟨Q,0,none⟩)] w (zk5 B b l (zan bo) w):=by
 have c0:w.cell? ⟨T,0,none⟩=some (.pointer (some ⟨b,0,none⟩)):=hc.tB.cell 0;have c1:w.cell? ⟨Q,7,none⟩=some (.int .i64 bo):=hc.qB.cell 7;have hBw:B≤w.heap.size:=by have:=h.ge;have:=h.size;omega
 have hw0:Wr B (fun g=>g=b) w (w.alloc (.cells #[.int .i64 bo] 2)):=(Wr.refl _ _ _).alloc hBw _;have hbn:w.heap.size≠b:=by have:=h.size;omega
 have HS:=hX (zp2 B b (w.heap.size+1) l (some ⟨w.heap.size,0,none⟩) 1 [bo] (w.alloc (.cells #[.int .i64 bo] 2)) (fun W hW=>⟨rfl,fun _=>⟨_,rfl,Nat.lt_succ_self _,World.news_of_block (hW.blk (Blk.new w _ _) hbn (by decide))⟩⟩) (by simp) (by simpa using hI) (h.keep ((Below.refl _ _).alloc (Nat.le_refl _) _)) hl (fun W hW=>hc.powB W (hw0.trans hW).below));have HW0:=hX hw0;clear hc h hl hw0 hbn hBw;go_enter Tryz.func90,Tryz.ntmps90;go_wp2_with fail;refine HS.out.mono ?_;rintro e w2 ⟨rfl,hb,hw⟩;have HB2:=hX hb;have HW2:=hX (HW0.out.trans hw);clear hb hw;go_wp2_with fail;go_end0;exact ⟨rfl,HB2.out,HW2.out⟩
end
end Go.Proofs.YtplkbdncgkgppaaGreatDoor.Qry
end
section
namespace Go.Proofs.YtplkbdncgkgppaaGreatDoor.Qry
open Go.RowKit Words Tree QryP Kit
theorem Wr.more {B b P:Nat} {w0 w w':World} (h:Wr B (fun g=>g=b) w0 w) (k:Wr B (fun g=>g=b∨g=P) w w') (hP:w0.heap.size≤P):Wr B (fun g=>g=b) w0 w':=
 ⟨h.below.trans k.below,fun g o h1 h2 h3=>k.kept g o (h.kept g o h1 h2 h3) (fun e=>by
  rcases e with rfl | rfl
  ·exact h2 rfl
  ·have:=(Array.getElem?_eq_some_iff.1 h1).1;omega) h3⟩
structure WS (B b T Q P:Nat) (kd oc:Int) (f t u:ByteArray) (lo hi:List Int) (bo op:Int) (n:Nat) (L Hh K:Option Addr) (cl ch ck:Nat) (l0:List UInt8) (w0:World) (ps:List (List UInt8)) (w:World):Prop where
 caps:Caps B b T Q kd oc f t u lo hi bo op n L Hh K cl ch ck w
 buf:Buf B b (l0++zbq [44,32] ps) w
 cnt:Blk w P 3 #[.int .i64 (ps.length:Int)]
 wr:Wr B (fun g=>g=b) w0 w
 pb:P≠b
 tp:T≠P
 qp:Q≠P
 new:w0.heap.size≤P
 bp:B≤P
theorem zqf (ps:List (List UInt8)) (x:List UInt8):zbq [44,32] ps++(zfh ps.length++x)=zbq [44,32] (ps++[x]):=by
 rw[zh5];by_cases h:ps=[]
 ·subst h;rfl
 ·rw[if_neg h];have:ps.length≠0:=fun e=>h (List.eq_nil_of_length_eq_zero e);rw[zfh,if_neg this];simp
section
variable {B b T Q P:Nat} {kd oc:Int} {f t u:ByteArray} {lo hi:List Int} {bo op:Int} {n:Nat} {L Hh K:Option Addr} {cl ch ck:Nat} {l0:List UInt8} {w0 w:World} {ps:List (List UInt8)} {x:List UInt8}
theorem zmq (h:WS B b T Q P kd oc f t u lo hi bo op n L Hh K cl ch ck l0 w0 ps w) (F:FuncId) (caps:Array Value) (hE:∀args w,(callFunc F args).run Tryz.prog w = .ok (.enter F args) w)
 (hm:l0.length+(zbq [44,32] (ps++[x])).length+50≤ze0) (hn:ps.length≤1000000000000000000)
 (hF:∀W,Caps B b T Q kd oc f t u lo hi bo op n L Hh K cl ch ck W→Wr B (fun g=>g=b∨g=P) w W→Buf B b (l0++zbq [44,32] ps++zfh ps.length) W→(l0++zbq [44,32] ps++zfh ps.length).length+x.length=l0.length+(zbq [44,32] (ps++[x])).length→Calls Tryz.prog F caps W (zk5 B b (l0++zbq [44,32] ps++zfh ps.length) x W)) :
 Calls Tryz.prog 88 #[.func (.func F) #[] caps,.pointer (some ⟨P,0,none⟩),.pointer (some ⟨T,0,none⟩)] w (fun e w'=>e = .returned (.tuple #[])∧WS B b T Q P kd oc f t u lo hi bo op n L Hh K cl ch ck l0 w0 (ps++[x]) w'):=by
 have hj:=zqf ps x
 have hjl:(zbq [44,32] ps).length+x.length≤(zbq [44,32] (ps++[x])).length:=(by have:=congrArg List.length hj;simp only[List.length_append] at this;omega)
 have hT:¬(T=b∨T=P):=fun e=>e.elim h.caps.tb h.tp;have hQ:¬(Q=b∨Q=P):=fun e=>e.elim h.caps.qb h.qp;refine (part_any B b T P _ x ps.length F caps w h.caps.tB h.cnt h.pb h.caps.tb h.tp h.bp hn h.buf (by simp only[List.length_append];omega) hE (fun W hW hb=>?_)).mono ?_
 ·refine hF W (h.caps.wr hW hT hQ) hW hb ?_;have:=congrArg List.length hj;simp only[List.length_append] at *;omega
 ·rintro e w' ⟨rfl,hb,hw,hc⟩;refine ⟨rfl,h.caps.wr hw hT hQ,?_,?_,h.wr.more hw h.new,h.pb,h.tp,h.qp,h.new,h.bp⟩
  ·rw[←hj];simpa [List.append_assoc] using hb
  ·simpa using hc
end
end Go.Proofs.YtplkbdncgkgppaaGreatDoor.Qry
end
section
namespace Go.Proofs.YtplkbdncgkgppaaGreatDoor.Qry
open Go.RowKit Words Tree QryP Kit Sch
def zbh (f t u:ByteArray) (nl nh:Nat) (b op:Int) (nk:Nat):Bool:=decide (f.size=0) && decide (t.size=0) && decide (u.size=0) && decide (nl=0) && decide (nh=0) && decide (b=0) && decide (op=0) && decide (nk=0)
theorem zmr {s:ByteArray}:s.toList=[]↔s.size=0:=by
 rw[ByteArray.toList_eq,←List.length_eq_zero_iff];exact Iff.of_eq rfl
theorem zdt (kd oc:Int) (f t u:ByteArray) (L H K:Option Addr) (nl cl nh ch nk ck:Nat) (b op:Int) (w:World) :
 Calls Tryz.prog 105 #[.agg #[.int .i64 kd,.int .i64 oc,.string f,.string t,.string u,.slice L nl cl,.slice H nh ch,.int .i64 b,.int .i64 op,.slice K nk ck]] w (ze2 (zbh f t u nl nh b op nk) w):=by
 obtain ⟨r,hr⟩:∃r,zbh f t u nl nh b op nk=r:=⟨_,rfl⟩
 rw[hr];have HR:=hX hr;clear hr;go_enter Tryz.func105,Tryz.ntmps105;go_wp2_with fail
 all_goals
  go_ret;refine ⟨?_,(Below.refl _ w).alloc (Nat.le_refl _) _⟩;rw[←HR.out];simp_all [zbh,zmr] <;> (rw[Bool.eq_iff_iff];simp)
end Go.Proofs.YtplkbdncgkgppaaGreatDoor.Qry
end
