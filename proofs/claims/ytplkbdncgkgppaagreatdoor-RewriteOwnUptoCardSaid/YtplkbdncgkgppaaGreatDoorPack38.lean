/- Lemmas that the last text leans on. -/
import Derived.Test.YtplkbdncgkgppaaGreatDoorTake
import Derived.Test.YtplkbdncgkgppaaGreatDoorPack37
import Derived.Test.YtplkbdncgkgppaaGreatDoorPack24
import Derived.RangeFuncNested
import Derived.RangeFuncBound
import Derived.RangeFuncCalls
import Derived.RangeFuncLeaves
import Derived.RangeFuncBox
import Derived.OwnWalkIn
import Derived.TacticsInMore
import Derived.LoopNIn
import Derived.LoopIn
import Derived.Lib.FrozenHead2
import Derived.Lib.OthersKept
import Derived.Test.YtplkbdncgkgppaaGreatDoorPack6
import Derived.Test.YtplkbdncgkgppaaGreatDoorPack25
import Derived.Maps.AppendAt
import Derived.RangeFuncWrites
import Derived.Deep.QuietTactic
import Derived.BigQuiet
import Derived.Deep.RegionHeld3
import Derived.Lib.AppendStr
import Derived.Test.YtplkbdncgkgppaaGreatDoorPack5
set_option linter.all false
set_option maxRecDepth 100000
set_option maxHeartbeats 2000000
section
namespace Go.Proofs.YtplkbdncgkgppaaGreatDoor.FoldIter
open Go.RowKit Go.Lib FoldP FoldInts Kit FoldForms FoldNext
theorem only_of_below {a w:World} (h:Below a.heap.size a w) (row:Option Nat):a.grownBy w row:=⟨h.os,h.tape,h.output,h.size,fun i hi _=>h.block i hi⟩
attribute [local go_sem] Oper.semAt_some
abbrev zd6 (l:List UInt8):Type:={ x:Nat × Int // x∈zbe l }
def KpR (Bs:Nat) (W W':World):Prop:=Below 6 W W'∧W'.heap[Bs]?=W.heap[Bs]?
theorem KpR.trans {Bs:Nat} {A B C:World} (h:KpR Bs A B) (k:KpR Bs B C):KpR Bs A C:=⟨h.1.trans k.1,k.2.trans h.2⟩
theorem KpR.below {Bs B:Nat} {W W':World} (h:Below B W W') (h2:6≤B) (hB:Bs<B):KpR Bs W W':=⟨h.mono h2,h.block Bs hB⟩
def yes {l:List UInt8} (x:zd6 l):Array Value:=#[.int .i64 (x.1.1:Int),.int .i32 x.1.2]
def yet (l:List UInt8) (xs:List (zd6 l)):Prop:=xs.map (·.1)=zbe l
def yeu (l:List UInt8) (pre:List (zd6 l)):Prop:=∃rest,pre.map (·.1)++rest=zbe l
theorem znf {W:World} {Bs:Nat} {v:Value} {t:TypeId} (h:W.heap[Bs]?=some (.cells #[v] t (0,0))):W.cell? ⟨Bs,0,none⟩=some v:=by simp[World.cell?,h]
theorem zxk (l0 Bs:Nat) (s:ByteArray) (hs:s.size≤9223372036854775807) (J Jx:List (zd6 s.data.toList)→World→Prop) (W:World)
 (hJ:AbidesFrom W.heap.size J)
 (hY:∀pre x W1,J pre W1→pre.length<(zbe s.data.toList).length→YieldAt Fence.wide 4 Tryz.prog l0 (yes x) W1 fun e W'=>
   (e = .returned (.bool true)∧J (pre++[x]) W'∧KpR Bs W1 W')∨(e = .returned (.bool false)∧Jx (pre++[x]) W'))
 (hBs:W.heap[Bs]?=some (.cells #[.string s] 9 (0,0))) (hT:zdi W) (h0:J [] W) :
 CallsIn Fence.wide 5 Tryz.prog 168 #[.func (.yield l0) #[] #[],.pointer (some ⟨Bs,0,none⟩)] W fun e W'=>(∃v,e = .returned v)∧
  ((∃ys,yet s.data.toList ys∧J ys W')∨(∃pre,yeu s.data.toList pre∧Jx pre W')):=by
 have HJ:=hX hJ;clear hJ;have HY:=hX hY;clear hY;have HBS:=hX hBs;clear hBs;refine callsIn_of_wp Tryz.func168 rfl trivial ?_ rfl;simp only[Tryz.ntmps168,List.size_toArray,List.length_cons,List.length_nil,Nat.reduceAdd,Nat.reduceSub,Array.replicate_succ,Array.replicate_zero,List.push_toArray,List.append_toArray,List.nil_append,List.cons_append];gi_wp2
 gi_loopw [3] (fun i wr=>∃(k:Nat) (pre:List (zd6 s.data.toList)),k≤s.size∧i = .int .i64 k∧J pre wr∧Hid (pre.map (·.1)++za9 k (s.data.toList.drop k)=zbe s.data.toList)∧KpR Bs W wr∧W.heap.size≤wr.heap.size)
  (fun i _=>s.size - (RowKit.intOf i).toNat)
 case atStart=>exact ⟨0,[],Nat.zero_le _,rfl,h0,hX rfl,⟨Below.refl _ _,rfl⟩,Nat.le_refl _⟩
 case round=>
  obtain ⟨k,pre,hk,rfl,hJs,hpre,hkp,hsz⟩:=hrel;have hlen:s.data.toList.length=s.size:=by simp
  have hcb:wr.cell? ⟨Bs,0,none⟩=some (.string s):=znf (hkp.2.trans HBS.out);have hTr:zdi wr:=hT.below hkp.1 (Nat.le_refl _);by_cases hlt:k<s.size
  ·have hst:=zfm s.data.toList k (by rw[hlen];exact hlt);have hat:=zg1 s.data.toList k (by rw[hlen];exact hlt);have hnx:=zne s k wr (by unfold maxLen;omega) hTr;unfold znb at hnx;rw[znc _ k (by rw[hlen];exact hlt)] at hnx;have hle:=decodeL_rune (s.data.toList.drop k);rw[hat] at hpre;rw[hlen] at hst;clear hat hlen;generalize hdr:decodeL (s.data.toList.drop k)=d at *;have HDR:=hX hdr;clear hdr;obtain ⟨rr,nn⟩:=d;dsimp only at *;obtain ⟨hst1,hst2⟩:=hst;have hmem:((k,(rr:Int)):Nat × Int)∈zbe s.data.toList:=by rw[←hpre.out];simp
   have hplen:pre.length<(zbe s.data.toList).length:=by rw[←hpre.out];simp
   have HP:Hid ((pre++[(⟨(k,(rr:Int)),hmem⟩:zd6 s.data.toList)]).map (·.1)++za9 (k+nn) (s.data.toList.drop (k+nn))=zbe s.data.toList):=(by unfold Hid;refine Eq.trans ?_ hpre.out;simp)
   have HPL:=hX hplen;clear hplen;have HN:=hX hnx;clear hnx;gi_wp2_with fail
   refine ⟨trivial,?_⟩;refine (callsIn_wide.2 HN.out).mono ?_;rintro e w2 ⟨rfl,hb2⟩;have hJ2:J pre w2:=HJ.out _ _ _ none hJs (only_of_below hb2 none) (fun r e=>by cases e)
   have hB2:Bs<wr.heap.size:=by
    have h1:=hkp.2.trans HBS.out;rcases Nat.lt_or_ge Bs wr.heap.size with h' | h'
    ·exact h'
    ·rw[Array.getElem?_eq_none h'] at h1;cases h1
   have hkp2:KpR Bs W w2:=hkp.trans (KpR.below hb2 hTr.2 hB2);have hsz2:W.heap.size≤w2.heap.size:=Nat.le_trans hsz hb2.size;obtain ⟨fn,tmps,assign,body,hy,hR⟩:=HY.out pre ⟨(k,(rr:Int)),hmem⟩ w2 hJ2 HPL.out;dsimp only[yes] at hy;have HKP:=hX hkp2;clear hkp hkp2 hb2;gi_wp2
   refine hR.mono ?_;rintro e W3 (⟨rfl,hJ3,hk3⟩ | ⟨rfl,hJx3⟩)
   ·have HK3:=hX hk3;clear hk3;gi_wp2
    go_roundw;case rel=>exact ⟨k+nn,_,hst2,by go_num,hJ3,HP,HKP.out.trans HK3.out,Nat.le_trans hsz2 HK3.out.1.size⟩
    case measure=>simp[RowKit.intOf];omega
   ·gi_wp2
    refine bodyPost_ret (results_none rfl _ _ _) rfl ?_;exact ⟨⟨_,rfl⟩,.inr ⟨_,⟨_,HP.out⟩,hJx3⟩⟩
  ·obtain rfl:k=s.size:=by omega
   have hfin:yet s.data.toList pre:=(by have:=hpre.out;rw[zci _ _ (by rw[hlen];exact Nat.le_refl _),List.append_nil] at this;exact this)
   have HF:=hX hfin;clear hfin hlen;gi_wp2
   go_end0;exact ⟨⟨_,rfl⟩,.inl ⟨_,HF.out,hJs⟩⟩
theorem zng (n:Nat) (s:ByteArray) (w:World) :
 CallsIn Fence.wide n Tryz.prog 152 #[.string s] w fun e w'=>e = .returned (.func (.func 168) #[] #[.pointer (some ⟨w.heap.size,0,none⟩)])∧w'=w.alloc (.cells #[.string s] 9):=by
 refine callsIn_of_wp Tryz.func152 rfl trivial ?_ rfl;simp only[Tryz.ntmps152,List.size_toArray,List.length_cons,List.length_nil,Nat.reduceAdd,Nat.reduceSub,Array.replicate_succ,Array.replicate_zero,List.push_toArray,List.append_toArray,List.nil_append,List.cons_append];gi_wp2
 go_ret;exact ⟨rfl,rfl⟩
theorem ycy {Bs:Nat} {w:World} (h2:6≤w.heap.size) (hB:Bs<w.heap.size) (W:World) (l:Nat) (o o':Obj) (hl:w.heap.size≤l) (h:W.heap[l]?=some o) (_:o.isCells=false) (_:o.isWalk=false):KpR Bs W (W.putObj l o'):=
 KpR.below (B:=w.heap.size) (belowK_b (w:=w) (Nat.le_refl _) W l o o' hl h ‹_› ‹_›) h2 hB
theorem zir {W W':World} (h:Below W.heap.size W W'):KeepsOthers W W':=
 ⟨h.size,fun k o hk _=>(h.block k (Array.getElem?_eq_some_iff.1 hk).1).trans hk⟩
theorem zd7 {e:TypeId} {b:Nat} {w w':World} (h:Lib.OthersKept e (some b) w w') (hs:w.heap.size≤w'.heap.size) (hb:∃c t fz,w.heap[b]?=some (.cells c t fz)):KeepsOthers w w':=
 ⟨hs,fun k o hk ho=>h k o hk (fun e=>by
  obtain ⟨c,t,fz,hc⟩:=hb
  cases e;rw[hc] at hk;cases hk;cases ho) (fun c fz e=>by subst e;cases ho)⟩
theorem zey {T e:TypeId} {B b:Nat} {bs:List Value} {w:World} (h:Lib.IsBuilderF T e B b bs w):∃c t fz,w.heap[b]?=some (.cells c t fz):=by
 rcases h with ⟨_,v,hb,_⟩ | ⟨_,v,hb,_⟩ <;> exact ⟨_,_,_,hb⟩
theorem zd8 {T e:TypeId} {B b:Nat} {bs:List Value} {W W':World} {row:Option Nat} (h:Lib.IsBuilderF T e B b bs W) (hg:W.grownBy W' row) (hr:∀r,row=some r→∃o:Obj,W.heap[r]?=some o∧o.isCells=false):Lib.IsBuilderF T e B b bs W':=by
 have one:∀p,Lib.BuilderAtF T e B b p bs W→Lib.BuilderAtF T e B b p bs W':=by
  intro p ⟨hB,v,hb,hown,hne⟩;refine ⟨hB,v,(hg.block b (Array.getElem?_eq_some_iff.1 hb).1 (fun e=>?_)).trans hb,hown.kept hg ?_,hne⟩
  ·obtain ⟨o,ho,hc⟩:=hr b e.symm;rw[hb] at ho;cases ho;cases hc
  ·cases hv:v.ownBlock with
   | none=>exact .inl rfl
   | some g=>
    refine .inr (fun e=>?_);obtain ⟨o,ho,hc⟩:=hr g e.symm;obtain ⟨c,fz,hk⟩:=Lib.ownsRowF_kind hown g hv;rw[hk] at ho;cases ho;cases hc
 exact h.elim (fun x=>.inl (one _ x)) (fun x=>.inr (one _ x))
theorem zkz (Bs:Nat) (s:ByteArray) (hs:s.size≤9223372036854775807) (w:World) (hBs:w.heap[Bs]?=some (.cells #[.string s] 9 (0,0))) (hT:zdi w) :
 SeqStopsK Fence.wide 5 Tryz.prog 168 #[.pointer (some ⟨Bs,0,none⟩)] (yes (l:=s.data.toList)) (KpR Bs) (yet s.data.toList) (yeu s.data.toList) (zbe s.data.toList).length w:=fun l J Jx W hW hJ _ hY h0=>by
 have hlt:Bs<w.heap.size:=by
  rcases Nat.lt_or_ge Bs w.heap.size with h' | h'
  ·exact h'
  ·rw[Array.getElem?_eq_none h'] at hBs;cases hBs
 exact zxk l Bs s hs J Jx W hJ hY ((hW.block Bs hlt).trans hBs) (hT.next hW) h0
end Go.Proofs.YtplkbdncgkgppaaGreatDoor.FoldIter
end
section
namespace Go.Proofs.YtplkbdncgkgppaaGreatDoor.Ana
open Go.RowKit Go.Lib FoldP FoldInts Kit FoldForms FoldNext FoldIter AnaP Words Owned
attribute [local go_sem] Oper.semAt_some
theorem ycz:(Tryz.prog.info? 3).map (fun i=>(i.zero,i.size,i.bytes))=some (some (.int .i64 0),1,8):=by kernel_rfl
def znh (n:Nat):Value:=.int .i64 (n:Int)
def yc0 {l:List UInt8} (x:zd6 l):Value:=.int .i64 (x.1.1:Int)
theorem zo8 {o:Obj} (h:o.isCells=false):∀c t fz,o≠.cells c t fz:=by rintro c t fz rfl;cases h
theorem zty {l:List UInt8} {xs:List (zd6 l)} (h:yet l xs):xs.map yc0=(zbe l).map (fun x=>znh x.1)∧xs.length=(zbe l).length:=by
 rw[←h];exact ⟨by simp[yc0,znh],by simp⟩
def zk0 (l:List Nat) (w:World) (e:Ending) (w':World):Prop:=∃v,e = .returned v∧w'.ownsRow w.heap.size 3 1 v l.length (l.map znh)∧Below w.heap.size w w'
theorem zxl (s:ByteArray) (w:World) (hs:s.size≤17592186044415) (hT:zdi w) :
 CallsIn Fence.wide 6 Tryz.prog 122 #[.string s] w (zk0 (zk6 s.data.toList) w):=by
 have HT:=hX hT;clear hT;obtain ⟨i0,hi,hz0,hz1,hz2⟩:=info_parts ycz;refine callsIn_of_wp_marks Tryz.func122 rfl trivial ?_ rfl;simp only[Tryz.ntmps122,List.size_toArray,List.length_cons,List.length_nil,Nat.reduceAdd,Nat.reduceSub,Array.replicate_succ,Array.replicate_zero,List.push_toArray,List.append_toArray,List.nil_append,List.cons_append];gi_wp2_with fail
 refine ⟨trivial,?_⟩;refine (zng _ _ _).mono ?_;rintro e w' ⟨rfl,rfl⟩;gi_wp2_with fail
 have hb0:Below w.heap.size w ((w.alloc (.cells #[.slice none 0 0] 59)).alloc (.cells #[.string s] 9)):=((Below.refl _ _).alloc (Nat.le_refl _) _).alloc (by simp) _;have hbx:Boxed ((w.alloc (.cells #[.slice none 0 0] 59)).alloc (.cells #[.string s] 9)) w.heap.size 59 (.slice none 0 0):=(Boxed.new w 59 (.slice none 0 0)).alloc _
 have hk2:((w.alloc (.cells #[.slice none 0 0] 59)).alloc (.cells #[.string s] 9)).heap[w.heap.size+1]?=some (.cells #[.string s] 9 (0,0)):=(by have:=heap_alloc_new (w.alloc (.cells #[.slice none 0 0] 59)) (.cells #[.string s] 9);simpa using this)
 have hsz:((w.alloc (.cells #[.slice none 0 0] 59)).alloc (.cells #[.string s] 9)).heap.size=w.heap.size+2:=by simp
 obtain ⟨W0,hW0⟩:∃W0,((w.alloc (.cells #[.slice none 0 0] 59)).alloc (.cells #[.string s] 9))=W0:=⟨_,rfl⟩
 rw[hW0] at hsz hb0 hbx hk2 ⊢;have hT0:zdi W0:=HT.out.next hb0;have h2:6≤w.heap.size:=HT.out.2;clear hW0
 refine wpIn_rangeFunc_ownF rfl (by omega) (gf:=168) (lb:=#[.pointer (some ⟨w.heap.size+1,0,none⟩)]) rfl trivial (enters_of Tryz.func168 (by kernel_rfl) rfl)
  (zkz (w.heap.size+1) s (by omega) W0 hk2 hT0) KpR.trans (ycy (by omega) (by omega)) (Below.refl _ _) (fun _=>rfl)
  (fun pre W=>(∃v,Boxed W w.heap.size 59 v∧W.ownsRow w.heap.size 3 1 v pre.length (pre.map yc0))∧W.heap[w.heap.size+1]?=some (.cells #[.string s] 9 (0,0))∧Below w.heap.size w W)
  (fun _ _ _=>False)
  (fun pre A B row hI hg hr=>⟨by
    obtain ⟨v,hv,hrow⟩:=hI.1;exact ⟨v,hv.kept hg (fun e=>by obtain ⟨_,o,ho,hc⟩:=hr _ e.symm;rw[show A.heap[w.heap.size]?=_ from hv] at ho;cases ho;cases hc),zgr hrow hg (fun r e=>by obtain ⟨_,o,ho,hc⟩:=hr r e;exact ⟨o,ho,zo8 hc⟩)⟩,
    (hg.block (w.heap.size+1) (Array.getElem?_eq_some_iff.1 hI.2.1).1 (fun e=>by have:=(hr _ e.symm).1;omega)).trans hI.2.1,
    hI.2.2.grown hg hI.2.2.size (fun k e=>by have:=(hr k e).1;omega)⟩)
  (fun _ _ _ _ _ hs _ _=>hs)
  ⟨⟨_,hbx,World.ownsRow_nil _ _ _ _⟩,hk2,hb0⟩
  (fun x=>{ tmps:=#[.string s,undef,.slice none 0 0,.pointer (some ⟨w.heap.size,0,none⟩),.int .i64 (x.1.1:Int),.string s,.func (.func 168) #[] #[.pointer (some ⟨w.heap.size+1,0,none⟩)],.int .i64 (x.1.1:Int),.int .i32 x.1.2,undef,undef,undef,undef,undef,undef,undef,undef,undef],defers:=[] }) ?assign ?body ?done ?stop
 case assign=>
  intro l x W K hK;dsimp only[FoldIter.yes];gi_wp2
  exact hK
 case body=>
  rintro l0 pre x W ⟨⟨v,hv,hrow⟩,hby,hB⟩ hlt;have hrl:=zdh s.data.toList;have hlen:s.data.toList.length=s.size:=by simp
  rw[hlen] at hrl;have hc:=hv.cell;have hBW:w.heap.size≤W.heap.size:=hB.size;have hyn:∀g,v.ownBlock=some g→g≠w.heap.size+1:=fun g hg e=>by subst e;exact zfv hrow (t:=9) (cs:=#[.string s]) hby (by decide) hg
  gi_wp2_with (gi_at_builtin;refine wpListIn_append_own _ rfl (.tmp 9) (.tmp 11) 59 rfl w.heap.size 3 i0 (.int .i64 0) 1 8 Tryz.underlying59 hi hz0 hz1 hz2 rfl (by decide) _ _ _ rfl (hrow.alloc _) ⟨W.heap.size,0,none⟩ 1 1 [.int .i64 (x.1.1:Int)] rfl rfl ?c1 ?c2 ?c3 ?c4 ?c5 ?_)
  case c1=>exact cell_one_new _ _ _
  case c2=>simp[Value.oneCell']
  case c3=>unfold maxLen;omega
  case c4=>omega
  case c5=>simp;omega
  intro v' w1 hown' hgrow _;obtain ⟨g',cap',rfl⟩:=ownsRow_succ hown';obtain ⟨hv1,hv2,hr2,hk2',hb2⟩:=hv.appended (by decide) hrow hB.size (Nat.le_refl _) hown' hgrow;have hc1:=hv1.cell;have hf1:=hv1.frozen
  have hby1:w1.heap[w.heap.size+1]?=some (.cells #[.string s] 9 (0,0)):=(by have hlt':=(Array.getElem?_eq_some_iff.1 hby).1;rw[hgrow.block _ (by simp;omega) (fun e=>hyn _ e.symm rfl),Below.heap_alloc _ _ _ hlt'];exact hby)
  have HBY:=hX hby1;have HK2:=hX hk2';have HB2:=hX hb2;have HV2:=hX hv2;have HR2:=hX hr2;clear hby1 hk2' hb2 hv2 hr2 hown' hgrow hyn;gi_wp2_with fail
  have hfar:(w1.setCell ⟨w.heap.size,0,none⟩ (.slice (some ⟨g',0,none⟩) (pre.length+1) cap')).heap[w.heap.size+1]?=some (.cells #[.string s] 9 (0,0)):=(by rw[Below.heap_setCell _ _ _ _ (by simp)];exact HBY.out)
  refine ⟨HK2.out,⟨HB2.out.mono h2,by rw[hfar,hby]⟩,⟨_,HV2.out,?_⟩,hfar,hB.trans HB2.out⟩;have:=HR2.out;rw[List.length_append,List.map_append];exact this
 case done=>
  rintro D ys W hD hall ⟨⟨v,hv,hrow⟩,hby,hB⟩ hK;obtain ⟨hcs,hln⟩:=zty hall;rw[hcs,hln] at hrow;have hrl:=zdh s.data.toList;have hlen:s.data.toList.length=s.size:=by simp
  rw[hlen] at hrl;have hc:=hv.cell;have hBW:w.heap.size≤W.heap.size:=hB.size;have HL:=hX hlen;clear hcs hln hlen;gi_wp2_with (gi_at_builtin;refine wpListIn_append_own _ rfl (.tmp 13) (.tmp 16) 59 rfl w.heap.size 3 i0 (.int .i64 0) 1 8 Tryz.underlying59 hi hz0 hz1 hz2 rfl (by decide) _ _ _ rfl (hrow.alloc _) ⟨W.heap.size,0,none⟩ 1 1 [.int .i64 (s.size:Int)] rfl rfl ?d1 ?d2 ?d3 ?d4 ?d5 ?_)
  case d1=>exact cell_one_new _ _ _
  case d2=>simp[Value.oneCell']
  case d3=>unfold maxLen;omega
  case d4=>omega
  case d5=>simp;omega
  intro v' w1 hown' hgrow _;have hb1:Below w.heap.size w w1:=(hB.alloc hBW _).grown hgrow (by simp;omega) (fun r e=>(hrow.lt r e).1)
  have hK1:w1.heap[D]?=some (.deferred (some [])):=by
   have hlt':=(Array.getElem?_eq_some_iff.1 hK).1;refine (hgrow.block D (by simp;omega) (fun e=>?_)).trans ((Below.heap_alloc _ _ _ hlt').trans hK)
   rcases hrow.2 with ⟨rfl,_⟩ | ⟨g,cap,cur,rfl,_,hh,_⟩
   ·cases e
   ·simp only[Value.ownBlock,Option.some.injEq] at e;subst e;rw[hK] at hh;cases hh
  have HB1:=hX hb1;have HO:=hX hown';have HK1:=hX hK1;clear hb1 hown' hK1 hgrow;gi_wp2_with fail
  refine ⟨by simp,.inl ⟨_,_,rfl,run_takeDeferred HK1.out,?_⟩⟩;refine ⟨_,results_tmp rfl _ _ _,?_⟩;refine ⟨_,rfl,?_,HB1.out.trans (belowK_b (w:=w) (Nat.le_refl _) _ D _ _ (by omega) HK1.out rfl rfl)⟩;rw[zet]
  have e:(zk6 s.data.toList).map znh=(zbe s.data.toList).map (fun x=>znh x.1)++[.int .i64 (s.size:Int)]:=(by unfold zk6 zcu;rw[List.drop_zero,List.map_append,List.map_map,HL.out];rfl)
  rw[e];exact ownsRow_putObj HO.out _ HK1.out rfl
 case stop=>
  rintro D c pre W hD _ h _;exact h.elim
theorem zgm (s:ByteArray) (w:World) (hs:s.size≤17592186044415) (hT:zdi w):Calls Tryz.prog 122 #[.string s] w (zk0 (zk6 s.data.toList) w):=(callsIn_wide.1 (zxl s w hs hT))
end Go.Proofs.YtplkbdncgkgppaaGreatDoor.Ana
end
section
namespace Go.Proofs.YtplkbdncgkgppaaGreatDoor.FoldNext
open Go.RowKit Go.Lib FoldP FoldInts Kit FoldForms
end Go.Proofs.YtplkbdncgkgppaaGreatDoor.FoldNext
end
section
namespace Go.Proofs.YtplkbdncgkgppaaGreatDoor.FoldValid
open Go.RowKit Go.Lib FoldP FoldInts Kit FoldForms FoldNext
def zo9 (r n:Nat) (w:World) (e:Ending) (w':World):Prop:=e = .returned (.tuple #[.int .i32 (r:Int),.int .i64 (n:Int)])∧Below w.heap.size w w'
theorem zxm (s:ByteArray) (k:Nat) (w:World) (hs:s.size≤9223372036854775807) (hT:zdi w) (h:k<s.size) (rr nn:Nat) (hd:decodeL (s.data.toList.drop k)=(rr,nn)) :
 Calls Tryz.prog 163 #[.string s,.int .i64 k] w (zo9 rr nn w):=by
 refine (zne s k w (by unfold maxLen;omega) hT).mono ?_;rintro e w' ⟨rfl,hb⟩;rw[znc _ k (by simpa using h),hd];exact ⟨rfl,hb⟩
end Go.Proofs.YtplkbdncgkgppaaGreatDoor.FoldValid
end
section
namespace Go.Proofs.YtplkbdncgkgppaaGreatDoor.FoldRefFold
open Go.RowKit Go.Lib FoldP FoldInts Kit FoldForms FoldNext FoldValid Words Owned FoldAmong
def zsj (l:List UInt8) (w:World) (e:Ending) (w':World):Prop:=e = .returned (.string (str l))∧Below w.heap.size w w'
end Go.Proofs.YtplkbdncgkgppaaGreatDoor.FoldRefFold
end
section
namespace Go.Proofs.YtplkbdncgkgppaaGreatDoor.FoldFold
open Go.RowKit Go.Lib FoldP FoldInts Kit FoldForms FoldNext FoldIter FoldValid FoldRefFold SBuilder
attribute [local go_sem] Oper.semAt_some
def zft (l:List UInt8) (pre:List (zd6 l)):List UInt8:=pre.flatMap (fun x=>zg2 (l.drop x.1.1))
theorem zq3 (l:List UInt8) (pre:List (zd6 l)) (x:zd6 l):zft l (pre++[x])=zft l pre++zg2 (l.drop x.1.1):=by simp[zft]
theorem zz7 (l:List UInt8) (x:zd6 l):(zg2 (l.drop x.1.1)).length≤4:=by
 have hx:=zgj x.2;have hne:l.drop x.1.1≠[]:=by intro e;have:=congrArg List.length e;simp at this;omega
 rw[zv8 _ hne];rw[decodeL_N];rcases decodeN_shape (l.drop x.1.1).length ((l.drop x.1.1).getD 0 0).toNat ((l.drop x.1.1).getD 1 0).toNat ((l.drop x.1.1).getD 2 0).toNat ((l.drop x.1.1).getD 3 0).toNat with ⟨c,e⟩ | ⟨c1,c2,c3,cv,e⟩ | ⟨c1,c2,c3,c4,cv,cs,e⟩ | ⟨c1,c2,c3,c4,c5,cv,cw,e⟩ | e
 all_goals (rw[e];dsimp only;omega)
theorem zpa (l:List UInt8):∀pre:List (zd6 l),(zft l pre).length≤4*pre.length
 | []=>by simp[zft]
 | x::r=>by
  have h1:=zpa l r;have h2:=zz7 l x;have e:zft l (x::r)=zg2 (l.drop x.1.1)++zft l r:=by simp[zft]
  rw[e];simp only[List.length_append,List.length_cons];omega
theorem zk1 (l:List UInt8):∀(f k:Nat),l.length - k≤f→(za9 k (l.drop k)).flatMap (fun x=>zg2 (l.drop x.1))=zej (l.drop k)
 | 0,k,hf=>by rw[zci l k (by omega),zv6 l k (by omega)];rfl
 | f+1,k,hf=>by
  by_cases h:k<l.length
  ·rw[zg1 l k h,yea l k h];have hs:=zfm l k h;rw[←zk1 l f _ (by omega)];simp
  ·rw[zci l k (by omega),zv6 l k (by omega)];rfl
theorem ztz (l:List UInt8) (xs:List (zd6 l)) (h:yet l xs):zft l xs=zej l:=by
 have h1:=zk1 l l.length 0 (by omega);simp only[List.drop_zero] at h1;rw[←h1];have h2:za9 0 l=xs.map (·.1):=h.symm;rw[h2,List.flatMap_map];rfl
theorem yc1 (s:ByteArray) (w:World) (hs:s.size≤17592186044416) (hT:zdi w) :
 CallsIn Fence.wide 6 Tryz.prog 160 #[.string s] w (zsj (zej s.data.toList) w):=by
 have HT:=hX hT;clear hT;refine callsIn_of_wp_marks Tryz.func160 rfl trivial ?_ rfl;simp only[Tryz.ntmps160,List.size_toArray,List.length_cons,List.length_nil,Nat.reduceAdd,Nat.reduceSub,Array.replicate_succ,Array.replicate_zero,List.push_toArray,List.append_toArray,List.nil_append,List.cons_append];gi_wp2_with fail
 refine ⟨trivial,?_⟩;refine (zng _ _ _).mono ?_;rintro e w' ⟨rfl,rfl⟩;gi_wp2_with fail
 have hsz:(((w.alloc (.cells #[.string s] 9)).alloc (.cells #[.pointer none,.slice none 0 0] 110)).alloc (.cells #[.string s] 9)).heap.size=w.heap.size+3:=by simp
 have hw0:∃W0,(((w.alloc (.cells #[.string s] 9)).alloc (.cells #[.pointer none,.slice none 0 0] 110)).alloc (.cells #[.string s] 9))=W0:=⟨_,rfl⟩
 have hb0:Below w.heap.size w (((w.alloc (.cells #[.string s] 9)).alloc (.cells #[.pointer none,.slice none 0 0] 110)).alloc (.cells #[.string s] 9)):=(((Below.refl _ _).alloc (Nat.le_refl _) _).alloc (by simp) _).alloc (by simp;omega) _
 have hk0:(((w.alloc (.cells #[.string s] 9)).alloc (.cells #[.pointer none,.slice none 0 0] 110)).alloc (.cells #[.string s] 9)).heap[w.heap.size]?=some (.cells #[.string s] 9 (0,0)):=(by rw[Below.heap_alloc _ _ _ (by simp;omega),Below.heap_alloc _ _ _ (by simp)];exact heap_alloc_new w _)
 have hk2:(((w.alloc (.cells #[.string s] 9)).alloc (.cells #[.pointer none,.slice none 0 0] 110)).alloc (.cells #[.string s] 9)).heap[w.heap.size+2]?=some (.cells #[.string s] 9 (0,0)):=(by have:=heap_alloc_new ((w.alloc (.cells #[.string s] 9)).alloc (.cells #[.pointer none,.slice none 0 0] 110)) (.cells #[.string s] 9);simpa using this)
 have hbd:Lib.IsBuilderF 110 5 w.heap.size (w.heap.size+1) [] (((w.alloc (.cells #[.string s] 9)).alloc (.cells #[.pointer none,.slice none 0 0] 110)).alloc (.cells #[.string s] 9)):=by
  refine .inl ⟨by omega,.slice none 0 0,?_,?_,by simp[Value.ownBlock]⟩
  ·rw[Below.heap_alloc _ _ _ (by simp)];have:=heap_alloc_new (w.alloc (.cells #[.string s] 9)) (.cells #[.pointer none,.slice none 0 0] 110);simpa using this
  ·exact World.ownsRowF_of (World.ownsRow_nil _ _ _ _)
 obtain ⟨W0,hW0⟩:=hw0;rw[hW0] at hsz hb0 hk0 hk2 hbd ⊢;have hT0:zdi W0:=HT.out.next hb0;have h2:6≤w.heap.size:=HT.out.2;clear hW0
 refine wpIn_rangeFunc_ownF rfl (by omega) (gf:=168) (lb:=#[.pointer (some ⟨w.heap.size+1+1,0,none⟩)]) rfl trivial (enters_of Tryz.func168 (by kernel_rfl) rfl)
  (zkz (w.heap.size+1+1) s (by omega) W0 hk2 hT0) KpR.trans (ycy (by omega) (by omega)) (Below.refl _ _) (fun _=>rfl)
  (fun pre W=>Lib.IsBuilderF 110 5 w.heap.size (w.heap.size+1) (byteCells (zft s.data.toList pre)) W∧W.heap[w.heap.size]?=some (.cells #[.string s] 9 (0,0))∧W.heap[w.heap.size+1+1]?=some (.cells #[.string s] 9 (0,0))∧Below w.heap.size w W)
  (fun _ _ _=>False)
  (fun pre A B row hI hg hr=>⟨zd8 hI.1 hg (fun r e=>(hr r e).2),(hg.block w.heap.size (Array.getElem?_eq_some_iff.1 hI.2.1).1 (fun e=>by have:=(hr _ e.symm).1;omega)).trans hI.2.1,
    (hg.block (w.heap.size+1+1) (Array.getElem?_eq_some_iff.1 hI.2.2.1).1 (fun e=>by have:=(hr _ e.symm).1;omega)).trans hI.2.2.1,
    hI.2.2.2.grown hg hI.2.2.2.size (fun k e=>by have:=(hr k e).1;omega)⟩)
  (fun _ _ _ _ _ hs _ _=>hs)
  ⟨hbd,hk0,hk2,hb0⟩
  (fun x=>{ tmps:=#[.string s,.pointer (some ⟨w.heap.size,0,none⟩),.string ⟨#[]⟩,.pointer (some ⟨w.heap.size+1,0,none⟩),.int .i64 (x.1.1:Int),.int .i32 x.1.2,undef,undef,undef,.string s,.func (.func 168) #[] #[.pointer (some ⟨w.heap.size+1+1,0,none⟩)],.int .i64 (x.1.1:Int),.int .i32 x.1.2,undef,undef,undef,undef,undef,undef,undef,undef,undef,undef,undef,undef,undef,undef,undef,undef,undef,undef,undef,undef,undef],defers:=[] }) ?assign ?body ?done ?stop
 case assign=>
  intro l x W K hK;dsimp only[FoldIter.yes];gi_wp2
  exact hK
 case body=>
  rintro l0 pre x W ⟨hbl,hbx,hby,hB⟩ hlt;have hx:=zgj x.2;have hrl:=zdh s.data.toList;have hpl:=zpa s.data.toList pre;have hlen:s.data.toList.length=s.size:=by simp
  have hsn:=zq3 s.data.toList pre x;rw[hlen] at hx hrl;obtain ⟨⟨p,r⟩,hmem⟩:=x;dsimp only at hx hsn ⊢;obtain ⟨hx1,hx2⟩:=hx;have hst:=zfm s.data.toList p (by rw[hlen];exact hx1);have hr:=decodeL_rune (s.data.toList.drop p);rw[hlen] at hst;clear hlen;unfold zg2 at hsn
  cases hdr:decodeL (s.data.toList.drop p) with
  | mk rr nn=>
  rw[hdr] at hst hr hx2 hsn;dsimp only at hst hr hx2 hsn;subst hx2;obtain ⟨hst1,hst2⟩:=hst;have hnn:nn≤s.size:=by omega
  have HN:=hX (zxm s p W (by omega) (HT.out.next (hB.mono (Nat.le_refl _))) hx1 rr nn hdr);have HSN:=hX hsn;clear hsn;clear hdr;have hbc:W.cell? ⟨w.heap.size,0,none⟩=some (.string s):=znf hbx;have hbl2:(byteCells (zft s.data.toList pre)).length+s.size+4≤140737488355328:=by rw[byteCells_length];omega
  have HBL:=hX hbl2;have hBW:w.heap.size≤W.heap.size:=hB.size;by_cases hlow:za4 rr=rr
  ·have hneq:(za4 rr != (rr:Int))=false:=by rw[hlow];simp
   have HLOW:=hX hlow;clear hlow;gi_wp2_with fail
   refine ⟨trivial,?_⟩;refine CallsIn.inRound l0 (callsIn_wide.2 (zo7 rr W)) |>.mono ?_
   rintro e w' ⟨rfl,rfl⟩;gi_wp2_with fail
   refine ⟨trivial,?_⟩;refine CallsIn.inRound l0 (callsIn_wide.2 HN.out) |>.mono ?_
   rintro e w2 ⟨rfl,hb2⟩;have hbc2:w2.cell? ⟨w.heap.size,0,none⟩=some (.string s):=(hb2.cell (p:=⟨w.heap.size,0,none⟩) (Array.getElem?_eq_some_iff.1 hbx).1).trans hbc;have hbl2:=zd8 hbl (only_of_below hb2 none) (fun r e=>by cases e);have HB2:=hX hb2;clear hb2;gi_wp2_with fail
   refine ⟨trivial,?_⟩;have hsz:(s.extract p (p+nn)).size=nn:=by simp;omega
   refine CallsIn.inRound l0 (callsIn_wide.2 (zdp w.heap.size (w.heap.size+1) _ (s.extract p (p+nn)) w2 hbl2 ?_ (Nat.le_trans hBW HB2.out.size))) |>.mono ?_
   ·rw[hsz];have:=HBL.out;omega
   rintro e w3 ⟨rfl,hbl3,hb3,hk3⟩;gi_wp2_with fail
   have hcells:strCells (s.extract p (p+nn))=byteCells ((s.data.toList.drop p).take nn):=(by rw[strCells_eq,extract_data,show p+nn - p=nn by omega])
   refine ⟨(zir HB2.out).trans (zd7 hk3 hb3.size (zey hbl2)),(KpR.below HB2.out (by omega) (Array.getElem?_eq_some_iff.1 hby).1).trans ⟨hb3.mono h2,?_⟩,?_,?_,?_,?_⟩
   ·have hy2:=(HB2.out.block _ (Array.getElem?_eq_some_iff.1 hby).1).trans hby;rw[hk3 _ _ hy2 (by simp) (by intro c fz e;cases e),hy2]
   ·rw[HSN.out,if_pos HLOW.out,byteCells_append,←hcells];exact .inr hbl3
   ·have hx2:=(HB2.out.block _ (Array.getElem?_eq_some_iff.1 hbx).1).trans hbx;exact hk3 _ _ hx2 (by simp) (by intro c fz e;cases e)
   ·have hy2:=(HB2.out.block _ (Array.getElem?_eq_some_iff.1 hby).1).trans hby;exact hk3 _ _ hy2 (by simp) (by intro c fz e;cases e)
   ·exact (hB.trans (HB2.out.mono hBW)).trans hb3
  ·have hneq:(za4 rr != (rr:Int))=true:=by rw[bne_iff_ne];exact hlow
   have HLOW:=hX hlow;clear hlow;have hlv:=zg3 rr (by omega) HLOW.out;have hl0 : -2147483648≤za4 rr:=by omega
   have hl1:za4 rr≤2147483647:=by omega
   clear hlv;gi_wp2_with fail
   refine ⟨trivial,?_⟩;refine CallsIn.inRound l0 (callsIn_wide.2 (zo7 rr W)) |>.mono ?_
   rintro e w' ⟨rfl,rfl⟩;gi_wp2_with fail
   refine ⟨trivial,?_⟩;refine CallsIn.inRound l0 (callsIn_wide.2 (zmf w.heap.size (w.heap.size+1) _ (za4 rr) hl0 hl1 W hbl (by have:=HBL.out;omega) hBW)) |>.mono ?_
   rintro e w3 ⟨rfl,hbl3,hb3,hk3⟩;gi_wp2_with fail
   refine ⟨zd7 hk3 hb3.size (zey hbl),⟨hb3.mono h2,?_⟩,?_,?_,?_,?_⟩
   ·rw[hk3 _ _ hby (by simp) (by intro c fz e;cases e),hby]
   ·rw[HSN.out,if_neg HLOW.out,byteCells_append,←zjo];exact .inr hbl3
   ·exact hk3 _ _ hbx (by simp) (by intro c fz e;cases e)
   ·exact hk3 _ _ hby (by simp) (by intro c fz e;cases e)
   ·exact hB.trans hb3
 case done=>
  rintro D ys W hD hall ⟨hbl,hbx,hby,hB⟩ hK;rw[ztz _ _ hall] at hbl;gi_wp2_with fail
  refine ⟨trivial,?_⟩;refine (callsIn_wide.2 (Tryz.Builder_String_any_k w.heap.size (w.heap.size+1) _ W hbl hB.size)).mono ?_;rintro e w3 ⟨rfl,hbl3,hb3,hk3⟩;gi_wp2_with fail
  have hK3:w3.heap[D]?=some (.deferred (some [])):=hk3 D _ hK (by intro e;cases e;obtain ⟨c,t,fz,hc⟩:=zey hbl;rw[hc] at hK;cases hK) (by intro c fz e;cases e);refine ⟨by simp,.inl ⟨_,_,rfl,run_takeDeferred hK3,?_⟩⟩;refine ⟨_,results_tmp rfl _ _ _,?_⟩;exact ⟨rfl,(hB.trans hb3).trans (belowK_b (w:=w) (Nat.le_refl _) _ D _ _ (by omega) hK3 rfl rfl)⟩
 case stop=>
  rintro D c pre W hD _ h _;exact h.elim
end Go.Proofs.YtplkbdncgkgppaaGreatDoor.FoldFold
end
