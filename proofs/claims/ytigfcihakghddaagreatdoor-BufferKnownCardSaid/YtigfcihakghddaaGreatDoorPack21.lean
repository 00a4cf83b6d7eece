/- Lemmas that the last text leans on. -/
import Derived.Test.YtigfcihakghddaaGreatDoorTake
import Derived.Test.YtigfcihakghddaaGreatDoorPack20
import Derived.Test.YtigfcihakghddaaGreatDoorPack6
import Derived.RangeFuncNested
import Derived.RangeFuncBound
import Derived.RangeFuncCalls
import Derived.RangeFuncLeaves
import Derived.RangeFuncBox
import Derived.OwnWalkIn
import Derived.TacticsInMore
import Derived.LoopNIn
import Derived.LoopIn
import Derived.Lib.FrozenHead2
import Derived.Lib.OthersKept
import Derived.Test.YtigfcihakghddaaGreatDoorPack4
import Derived.Maps.AppendAt
import Derived.RangeFuncWrites
set_option linter.all false
set_option maxRecDepth 100000
set_option maxHeartbeats 2000000
section
namespace Go.Proofs.YtigfcihakghddaaGreatDoor.FoldIter
open Go.RowKit Go.Lib FoldP FoldInts Kit FoldForms FoldNext
theorem only_of_below {a w:World} (h:Below a.heap.size a w) (row:Option Nat):a.grownBy w row:=⟨h.os,h.tape,h.output,h.size,fun i hi _=>h.block i hi⟩
attribute [local go_sem] Oper.semAt_some
abbrev RuneOf (l:List UInt8):Type:={ x:Nat × Int // x∈runesL l }
def KpR (Bs:Nat) (W W':World):Prop:=Below 5 W W'∧W'.heap[Bs]?=W.heap[Bs]?
theorem KpR.trans {Bs:Nat} {A B C:World} (h:KpR Bs A B) (k:KpR Bs B C):KpR Bs A C:=⟨h.1.trans k.1,k.2.trans h.2⟩
theorem KpR.below {Bs B:Nat} {W W':World} (h:Below B W W') (h2:5≤B) (hB:Bs<B):KpR Bs W W':=⟨h.mono h2,h.block Bs hB⟩
def encR {l:List UInt8} (x:RuneOf l):Array Value:=#[.int .i64 (x.1.1:Int),.int .i32 x.1.2]
def allR (l:List UInt8) (xs:List (RuneOf l)):Prop:=xs.map (·.1)=runesL l
def someR (l:List UInt8) (pre:List (RuneOf l)):Prop:=∃rest,pre.map (·.1)++rest=runesL l
theorem box_cell {W:World} {Bs:Nat} {v:Value} {t:TypeId} (h:W.heap[Bs]?=some (.cells #[v] t (0,0))):W.cell? ⟨Bs,0,none⟩=some v:=by simp[World.cell?,h]
theorem runes1_in (l0 Bs:Nat) (s:ByteArray) (hs:s.size≤9223372036854775807) (J Jx:List (RuneOf s.data.toList)→World→Prop) (W:World)
 (hJ:AbidesFrom W.heap.size J)
 (hY:∀pre x W1,J pre W1→pre.length<(runesL s.data.toList).length→YieldAt Fence.wide 4 Tryz.prog l0 (encR x) W1 fun e W'=>
   (e = .returned (.bool true)∧J (pre++[x]) W'∧KpR Bs W1 W')∨(e = .returned (.bool false)∧Jx (pre++[x]) W'))
 (hBs:W.heap[Bs]?=some (.cells #[.string s] 9 (0,0))) (hT:Tabs W) (h0:J [] W) :
 CallsIn Fence.wide 5 Tryz.prog 247 #[.func (.yield l0) #[] #[],.pointer (some ⟨Bs,0,none⟩)] W fun e W'=>(∃v,e = .returned v)∧
  ((∃ys,allR s.data.toList ys∧J ys W')∨(∃pre,someR s.data.toList pre∧Jx pre W')):=by
 have HJ:=hX hJ;clear hJ;have HY:=hX hY;clear hY;have HBS:=hX hBs;clear hBs;refine callsIn_of_wp Tryz.func247 rfl trivial ?_ rfl;simp only[Tryz.ntmps247,List.size_toArray,List.length_cons,List.length_nil,Nat.reduceAdd,Nat.reduceSub,Array.replicate_succ,Array.replicate_zero,List.push_toArray,List.append_toArray,List.nil_append,List.cons_append];gi_wp2
 gi_loopw [3] (fun i wr=>∃(k:Nat) (pre:List (RuneOf s.data.toList)),k≤s.size∧i = .int .i64 k∧J pre wr∧Hid (pre.map (·.1)++runesFrom k (s.data.toList.drop k)=runesL s.data.toList)∧KpR Bs W wr∧W.heap.size≤wr.heap.size)
  (fun i _=>s.size - (RowKit.intOf i).toNat)
 case atStart=>exact ⟨0,[],Nat.zero_le _,rfl,h0,hX rfl,⟨Below.refl _ _,rfl⟩,Nat.le_refl _⟩
 case round=>
  obtain ⟨k,pre,hk,rfl,hJs,hpre,hkp,hsz⟩:=hrel;have hlen:s.data.toList.length=s.size:=by simp
  have hcb:wr.cell? ⟨Bs,0,none⟩=some (.string s):=box_cell (hkp.2.trans HBS.out);have hTr:Tabs wr:=hT.below hkp.1 (Nat.le_refl _);by_cases hlt:k<s.size
  ·have hst:=step_le s.data.toList k (by rw[hlen];exact hlt);have hat:=runesAt s.data.toList k (by rw[hlen];exact hlt);have hnx:=next_any s k wr (by unfold maxLen;omega) hTr;unfold NextRet at hnx;rw[next_in _ k (by rw[hlen];exact hlt)] at hnx;have hle:=decodeL_rune (s.data.toList.drop k);rw[hat] at hpre;rw[hlen] at hst;clear hat hlen;generalize hdr:decodeL (s.data.toList.drop k)=d at *;have HDR:=hX hdr;clear hdr;obtain ⟨rr,nn⟩:=d;dsimp only at *;obtain ⟨hst1,hst2⟩:=hst;have hmem:((k,(rr:Int)):Nat × Int)∈runesL s.data.toList:=by rw[←hpre.out];simp
   have hplen:pre.length<(runesL s.data.toList).length:=by rw[←hpre.out];simp
   have HP:Hid ((pre++[(⟨(k,(rr:Int)),hmem⟩:RuneOf s.data.toList)]).map (·.1)++runesFrom (k+nn) (s.data.toList.drop (k+nn))=runesL s.data.toList):=(by unfold Hid;refine Eq.trans ?_ hpre.out;simp)
   have HPL:=hX hplen;clear hplen;have HN:=hX hnx;clear hnx;gi_wp2_with fail
   refine ⟨trivial,?_⟩;refine (callsIn_wide.2 HN.out).mono ?_;rintro e w2 ⟨rfl,hb2⟩;have hJ2:J pre w2:=HJ.out _ _ _ none hJs (only_of_below hb2 none) (fun r e=>by cases e)
   have hB2:Bs<wr.heap.size:=by
    have h1:=hkp.2.trans HBS.out;rcases Nat.lt_or_ge Bs wr.heap.size with h' | h'
    ·exact h'
    ·rw[Array.getElem?_eq_none h'] at h1;cases h1
   have hkp2:KpR Bs W w2:=hkp.trans (KpR.below hb2 hTr.2 hB2);have hsz2:W.heap.size≤w2.heap.size:=Nat.le_trans hsz hb2.size;obtain ⟨fn,tmps,assign,body,hy,hR⟩:=HY.out pre ⟨(k,(rr:Int)),hmem⟩ w2 hJ2 HPL.out;dsimp only[encR] at hy;have HKP:=hX hkp2;clear hkp hkp2 hb2;gi_wp2
   refine hR.mono ?_;rintro e W3 (⟨rfl,hJ3,hk3⟩ | ⟨rfl,hJx3⟩)
   ·have HK3:=hX hk3;clear hk3;gi_wp2
    go_roundw;case rel=>exact ⟨k+nn,_,hst2,by go_num,hJ3,HP,HKP.out.trans HK3.out,Nat.le_trans hsz2 HK3.out.1.size⟩
    case measure=>simp[RowKit.intOf];omega
   ·gi_wp2
    refine bodyPost_ret (results_none rfl _ _ _) rfl ?_;exact ⟨⟨_,rfl⟩,.inr ⟨_,⟨_,HP.out⟩,hJx3⟩⟩
  ·obtain rfl:k=s.size:=by omega
   have hfin:allR s.data.toList pre:=(by have:=hpre.out;rw[runesEnd _ _ (by rw[hlen];exact Nat.le_refl _),List.append_nil] at this;exact this)
   have HF:=hX hfin;clear hfin hlen;gi_wp2
   go_end0;exact ⟨⟨_,rfl⟩,.inl ⟨_,HF.out,hJs⟩⟩
theorem runes_in (n:Nat) (s:ByteArray) (w:World) :
 CallsIn Fence.wide n Tryz.prog 209 #[.string s] w fun e w'=>e = .returned (.func (.func 247) #[] #[.pointer (some ⟨w.heap.size,0,none⟩)])∧w'=w.alloc (.cells #[.string s] 9):=by
 refine callsIn_of_wp Tryz.func209 rfl trivial ?_ rfl;simp only[Tryz.ntmps209,List.size_toArray,List.length_cons,List.length_nil,Nat.reduceAdd,Nat.reduceSub,Array.replicate_succ,Array.replicate_zero,List.push_toArray,List.append_toArray,List.nil_append,List.cons_append];gi_wp2
 go_ret;exact ⟨rfl,rfl⟩
theorem kpR_b {Bs:Nat} {w:World} (h2:5≤w.heap.size) (hB:Bs<w.heap.size) (W:World) (l:Nat) (o o':Obj) (hl:w.heap.size≤l) (h:W.heap[l]?=some o) (_:o.isCells=false) (_:o.isWalk=false):KpR Bs W (W.putObj l o'):=
 KpR.below (B:=w.heap.size) (belowK_b (w:=w) (Nat.le_refl _) W l o o' hl h ‹_› ‹_›) h2 hB
theorem keepsOthers_below {W W':World} (h:Below W.heap.size W W'):KeepsOthers W W':=
 ⟨h.size,fun k o hk _=>(h.block k (Array.getElem?_eq_some_iff.1 hk).1).trans hk⟩
theorem keepsOthers_others {e:TypeId} {b:Nat} {w w':World} (h:Lib.OthersKept e (some b) w w') (hs:w.heap.size≤w'.heap.size) (hb:∃c t fz,w.heap[b]?=some (.cells c t fz)):KeepsOthers w w':=
 ⟨hs,fun k o hk ho=>h k o hk (fun e=>by
  obtain ⟨c,t,fz,hc⟩:=hb
  cases e;rw[hc] at hk;cases hk;cases ho) (fun c fz e=>by subst e;cases ho)⟩
theorem builder_cells {T e:TypeId} {B b:Nat} {bs:List Value} {w:World} (h:Lib.IsBuilderF T e B b bs w):∃c t fz,w.heap[b]?=some (.cells c t fz):=by
 rcases h with ⟨_,v,hb,_⟩ | ⟨_,v,hb,_⟩ <;> exact ⟨_,_,_,hb⟩
theorem builder_kept {T e:TypeId} {B b:Nat} {bs:List Value} {W W':World} {row:Option Nat} (h:Lib.IsBuilderF T e B b bs W) (hg:W.grownBy W' row) (hr:∀r,row=some r→∃o:Obj,W.heap[r]?=some o∧o.isCells=false):Lib.IsBuilderF T e B b bs W':=by
 have one:∀p,Lib.BuilderAtF T e B b p bs W→Lib.BuilderAtF T e B b p bs W':=by
  intro p ⟨hB,v,hb,hown,hne⟩;refine ⟨hB,v,(hg.block b (Array.getElem?_eq_some_iff.1 hb).1 (fun e=>?_)).trans hb,hown.kept hg ?_,hne⟩
  ·obtain ⟨o,ho,hc⟩:=hr b e.symm;rw[hb] at ho;cases ho;cases hc
  ·cases hv:v.ownBlock with
   | none=>exact .inl rfl
   | some g=>
    refine .inr (fun e=>?_);obtain ⟨o,ho,hc⟩:=hr g e.symm;obtain ⟨c,fz,hk⟩:=Lib.ownsRowF_kind hown g hv;rw[hk] at ho;cases ho;cases hc
 exact h.elim (fun x=>.inl (one _ x)) (fun x=>.inr (one _ x))
theorem runes_stops (Bs:Nat) (s:ByteArray) (hs:s.size≤9223372036854775807) (w:World) (hBs:w.heap[Bs]?=some (.cells #[.string s] 9 (0,0))) (hT:Tabs w) :
 SeqStopsK Fence.wide 5 Tryz.prog 247 #[.pointer (some ⟨Bs,0,none⟩)] (encR (l:=s.data.toList)) (KpR Bs) (allR s.data.toList) (someR s.data.toList) (runesL s.data.toList).length w:=fun l J Jx W hW hJ _ hY h0=>by
 have hlt:Bs<w.heap.size:=by
  rcases Nat.lt_or_ge Bs w.heap.size with h' | h'
  ·exact h'
  ·rw[Array.getElem?_eq_none h'] at hBs;cases hBs
 exact runes1_in l Bs s hs J Jx W hJ hY ((hW.block Bs hlt).trans hBs) (hT.next hW) h0
end Go.Proofs.YtigfcihakghddaaGreatDoor.FoldIter
end
section
namespace Go.Proofs.YtigfcihakghddaaGreatDoor.Ana
open Go.RowKit Go.Lib FoldP FoldInts Kit FoldForms FoldNext FoldIter AnaP Words Owned
attribute [local go_sem] Oper.semAt_some
theorem infoInt:(Tryz.prog.info? 3).map (fun i=>(i.zero,i.size,i.bytes))=some (some (.int .i64 0),1,8):=by kernel_rfl
def cellN (n:Nat):Value:=.int .i64 (n:Int)
def cellX {l:List UInt8} (x:RuneOf l):Value:=.int .i64 (x.1.1:Int)
theorem not_cells {o:Obj} (h:o.isCells=false):∀c t fz,o≠.cells c t fz:=by rintro c t fz rfl;cases h
theorem allR_cells {l:List UInt8} {xs:List (RuneOf l)} (h:allR l xs):xs.map cellX=(runesL l).map (fun x=>cellN x.1)∧xs.length=(runesL l).length:=by
 rw[←h];exact ⟨by simp[cellX,cellN],by simp⟩
def OwnInts (l:List Nat) (w:World) (e:Ending) (w':World):Prop:=∃v,e = .returned v∧w'.ownsRow w.heap.size 3 1 v l.length (l.map cellN)∧Below w.heap.size w w'
theorem places_in (s:ByteArray) (w:World) (hs:s.size≤17592186044415) (hT:Tabs w) :
 CallsIn Fence.wide 6 Tryz.prog 151 #[.string s] w (OwnInts (posL s.data.toList) w):=by
 have HT:=hX hT;clear hT;obtain ⟨i0,hi,hz0,hz1,hz2⟩:=info_parts infoInt;refine callsIn_of_wp_marks Tryz.func151 rfl trivial ?_ rfl;simp only[Tryz.ntmps151,List.size_toArray,List.length_cons,List.length_nil,Nat.reduceAdd,Nat.reduceSub,Array.replicate_succ,Array.replicate_zero,List.push_toArray,List.append_toArray,List.nil_append,List.cons_append];gi_wp2_with fail
 refine ⟨trivial,?_⟩;refine (runes_in _ _ _).mono ?_;rintro e w' ⟨rfl,rfl⟩;gi_wp2_with fail
 have hb0:Below w.heap.size w ((w.alloc (.cells #[.slice none 0 0] 57)).alloc (.cells #[.string s] 9)):=((Below.refl _ _).alloc (Nat.le_refl _) _).alloc (by simp) _;have hbx:Boxed ((w.alloc (.cells #[.slice none 0 0] 57)).alloc (.cells #[.string s] 9)) w.heap.size 57 (.slice none 0 0):=(Boxed.new w 57 (.slice none 0 0)).alloc _
 have hk2:((w.alloc (.cells #[.slice none 0 0] 57)).alloc (.cells #[.string s] 9)).heap[w.heap.size+1]?=some (.cells #[.string s] 9 (0,0)):=(by have:=heap_alloc_new (w.alloc (.cells #[.slice none 0 0] 57)) (.cells #[.string s] 9);simpa using this)
 have hsz:((w.alloc (.cells #[.slice none 0 0] 57)).alloc (.cells #[.string s] 9)).heap.size=w.heap.size+2:=by simp
 obtain ⟨W0,hW0⟩:∃W0,((w.alloc (.cells #[.slice none 0 0] 57)).alloc (.cells #[.string s] 9))=W0:=⟨_,rfl⟩
 rw[hW0] at hsz hb0 hbx hk2 ⊢;have hT0:Tabs W0:=HT.out.next hb0;have h2:5≤w.heap.size:=HT.out.2;clear hW0
 refine wpIn_rangeFunc_ownF rfl (by omega) (gf:=247) (lb:=#[.pointer (some ⟨w.heap.size+1,0,none⟩)]) rfl trivial (enters_of Tryz.func247 (by kernel_rfl) rfl)
  (runes_stops (w.heap.size+1) s (by omega) W0 hk2 hT0) KpR.trans (kpR_b (by omega) (by omega)) (Below.refl _ _) (fun _=>rfl)
  (fun pre W=>(∃v,Boxed W w.heap.size 57 v∧W.ownsRow w.heap.size 3 1 v pre.length (pre.map cellX))∧W.heap[w.heap.size+1]?=some (.cells #[.string s] 9 (0,0))∧Below w.heap.size w W)
  (fun _ _ _=>False)
  (fun pre A B row hI hg hr=>⟨by
    obtain ⟨v,hv,hrow⟩:=hI.1;exact ⟨v,hv.kept hg (fun e=>by obtain ⟨_,o,ho,hc⟩:=hr _ e.symm;rw[show A.heap[w.heap.size]?=_ from hv] at ho;cases ho;cases hc),own_cells_kept hrow hg (fun r e=>by obtain ⟨_,o,ho,hc⟩:=hr r e;exact ⟨o,ho,not_cells hc⟩)⟩,
    (hg.block (w.heap.size+1) (Array.getElem?_eq_some_iff.1 hI.2.1).1 (fun e=>by have:=(hr _ e.symm).1;omega)).trans hI.2.1,
    hI.2.2.grown hg hI.2.2.size (fun k e=>by have:=(hr k e).1;omega)⟩)
  (fun _ _ _ _ _ hs _ _=>hs)
  ⟨⟨_,hbx,World.ownsRow_nil _ _ _ _⟩,hk2,hb0⟩
  (fun x=>{ tmps:=#[.string s,undef,.slice none 0 0,.pointer (some ⟨w.heap.size,0,none⟩),.int .i64 (x.1.1:Int),.string s,.func (.func 247) #[] #[.pointer (some ⟨w.heap.size+1,0,none⟩)],.int .i64 (x.1.1:Int),.int .i32 x.1.2,undef,undef,undef,undef,undef,undef,undef,undef,undef],defers:=[] }) ?assign ?body ?done ?stop
 case assign=>
  intro l x W K hK;dsimp only[FoldIter.encR];gi_wp2
  exact hK
 case body=>
  rintro l0 pre x W ⟨⟨v,hv,hrow⟩,hby,hB⟩ hlt;have hrl:=runesL_length s.data.toList;have hlen:s.data.toList.length=s.size:=by simp
  rw[hlen] at hrl;have hc:=hv.cell;have hBW:w.heap.size≤W.heap.size:=hB.size;have hyn:∀g,v.ownBlock=some g→g≠w.heap.size+1:=fun g hg e=>by subst e;exact own_blk_ne hrow (t:=9) (cs:=#[.string s]) hby (by decide) hg
  gi_wp2_with (gi_at_builtin;refine wpListIn_append_own _ rfl (.tmp 9) (.tmp 11) 57 rfl w.heap.size 3 i0 (.int .i64 0) 1 8 Tryz.underlying57 hi hz0 hz1 hz2 rfl (by decide) _ _ _ rfl (hrow.alloc _) ⟨W.heap.size,0,none⟩ 1 1 [.int .i64 (x.1.1:Int)] rfl rfl ?c1 ?c2 ?c3 ?c4 ?c5 ?_)
  case c1=>exact cell_one_new _ _ _
  case c2=>simp[Value.oneCell']
  case c3=>unfold maxLen;omega
  case c4=>omega
  case c5=>simp;omega
  intro v' w1 hown' hgrow _;obtain ⟨g',cap',rfl⟩:=ownsRow_succ hown';obtain ⟨hv1,hv2,hr2,hk2',hb2⟩:=hv.appended (by decide) hrow hB.size (Nat.le_refl _) hown' hgrow;have hc1:=hv1.cell;have hf1:=hv1.frozen
  have hby1:w1.heap[w.heap.size+1]?=some (.cells #[.string s] 9 (0,0)):=(by have hlt':=(Array.getElem?_eq_some_iff.1 hby).1;rw[hgrow.block _ (by simp;omega) (fun e=>hyn _ e.symm rfl),Below.heap_alloc _ _ _ hlt'];exact hby)
  have HBY:=hX hby1;have HK2:=hX hk2';have HB2:=hX hb2;have HV2:=hX hv2;have HR2:=hX hr2;clear hby1 hk2' hb2 hv2 hr2 hown' hgrow hyn;gi_wp2_with fail
  have hfar:(w1.setCell ⟨w.heap.size,0,none⟩ (.slice (some ⟨g',0,none⟩) (pre.length+1) cap')).heap[w.heap.size+1]?=some (.cells #[.string s] 9 (0,0)):=(by rw[Below.heap_setCell _ _ _ _ (by simp)];exact HBY.out)
  refine ⟨HK2.out,⟨HB2.out.mono h2,by rw[hfar,hby]⟩,⟨_,HV2.out,?_⟩,hfar,hB.trans HB2.out⟩;have:=HR2.out;rw[List.length_append,List.map_append];exact this
 case done=>
  rintro D ys W hD hall ⟨⟨v,hv,hrow⟩,hby,hB⟩ hK;obtain ⟨hcs,hln⟩:=allR_cells hall;rw[hcs,hln] at hrow;have hrl:=runesL_length s.data.toList;have hlen:s.data.toList.length=s.size:=by simp
  rw[hlen] at hrl;have hc:=hv.cell;have hBW:w.heap.size≤W.heap.size:=hB.size;have HL:=hX hlen;clear hcs hln hlen;gi_wp2_with (gi_at_builtin;refine wpListIn_append_own _ rfl (.tmp 13) (.tmp 16) 57 rfl w.heap.size 3 i0 (.int .i64 0) 1 8 Tryz.underlying57 hi hz0 hz1 hz2 rfl (by decide) _ _ _ rfl (hrow.alloc _) ⟨W.heap.size,0,none⟩ 1 1 [.int .i64 (s.size:Int)] rfl rfl ?d1 ?d2 ?d3 ?d4 ?d5 ?_)
  case d1=>exact cell_one_new _ _ _
  case d2=>simp[Value.oneCell']
  case d3=>unfold maxLen;omega
  case d4=>omega
  case d5=>simp;omega
  intro v' w1 hown' hgrow _;have hb1:Below w.heap.size w w1:=(hB.alloc hBW _).grown hgrow (by simp;omega) (fun r e=>(hrow.lt r e).1)
  have hK1:w1.heap[D]?=some (.deferred (some [])):=by
   have hlt':=(Array.getElem?_eq_some_iff.1 hK).1;refine (hgrow.block D (by simp;omega) (fun e=>?_)).trans ((Below.heap_alloc _ _ _ hlt').trans hK)
   rcases hrow.2 with ⟨rfl,_⟩ | ⟨g,cap,cur,rfl,_,hh,_⟩
   ·cases e
   ·simp only[Value.ownBlock,Option.some.injEq] at e;subst e;rw[hK] at hh;cases hh
  have HB1:=hX hb1;have HO:=hX hown';have HK1:=hX hK1;clear hb1 hown' hK1 hgrow;gi_wp2_with fail
  refine ⟨by simp,.inl ⟨_,_,rfl,run_takeDeferred HK1.out,?_⟩⟩;refine ⟨_,results_tmp rfl _ _ _,?_⟩;refine ⟨_,rfl,?_,HB1.out.trans (belowK_b (w:=w) (Nat.le_refl _) _ D _ _ (by omega) HK1.out rfl rfl)⟩;rw[posL_len]
  have e:(posL s.data.toList).map cellN=(runesL s.data.toList).map (fun x=>cellN x.1)++[.int .i64 (s.size:Int)]:=(by unfold posL posFrom;rw[List.drop_zero,List.map_append,List.map_map,HL.out];rfl)
  rw[e];exact ownsRow_putObj HO.out _ HK1.out rfl
 case stop=>
  rintro D c pre W hD _ h _;exact h.elim
theorem places_any (s:ByteArray) (w:World) (hs:s.size≤17592186044415) (hT:Tabs w):Calls Tryz.prog 151 #[.string s] w (OwnInts (posL s.data.toList) w):=(callsIn_wide.1 (places_in s w hs hT))
end Go.Proofs.YtigfcihakghddaaGreatDoor.Ana
end
