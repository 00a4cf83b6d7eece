/- Lemmas that the last text leans on. -/
import Derived.Test.YtigfcihakghddaaGreatDoorTake
import Derived.Test.YtigfcihakghddaaGreatDoorPack20
import Derived.Deep.QuietTactic
import Derived.BigQuiet
import Derived.Deep.RegionHeld3
import Derived.Test.YtigfcihakghddaaGreatDoorPack6
import Derived.Test.YtigfcihakghddaaGreatDoorPack4
import Derived.Lib.AppendStr
import Derived.Test.YtigfcihakghddaaGreatDoorShelf
import Derived.Test.YtigfcihakghddaaGreatDoorPack3
import Derived.Lib.FrozenHead2
import Derived.Lib.OthersKept
import Derived.Lib.Builder
import Derived.Laws.Externs
import Derived.Laws.IdiomCopy
import Derived.Test.YtigfcihakghddaaGreatDoorPack21
set_option linter.all false
set_option maxRecDepth 100000
set_option maxHeartbeats 4000000
section
namespace Go.Proofs.YtigfcihakghddaaGreatDoor.FoldNext
open Go.RowKit Go.Lib FoldP FoldInts Kit FoldForms
end Go.Proofs.YtigfcihakghddaaGreatDoor.FoldNext
end
section
namespace Go.Proofs.YtigfcihakghddaaGreatDoor.FoldValid
open Go.RowKit Go.Lib FoldP FoldInts Kit FoldForms FoldNext
def PairBelow (r n:Nat) (w:World) (e:Ending) (w':World):Prop:=e = .returned (.tuple #[.int .i32 (r:Int),.int .i64 (n:Int)])∧Below w.heap.size w w'
theorem next_at (s:ByteArray) (k:Nat) (w:World) (hs:s.size≤9223372036854775807) (hT:Tabs w) (h:k<s.size) (rr nn:Nat) (hd:decodeL (s.data.toList.drop k)=(rr,nn)) :
 Calls Tryz.prog 202 #[.string s,.int .i64 k] w (PairBelow rr nn w):=by
 refine (next_any s k w (by unfold maxLen;omega) hT).mono ?_;rintro e w' ⟨rfl,hb⟩;rw[next_in _ k (by simpa using h),hd];exact ⟨rfl,hb⟩
end Go.Proofs.YtigfcihakghddaaGreatDoor.FoldValid
end
section
namespace Go.Proofs.YtigfcihakghddaaGreatDoor.FoldRefFold
open Go.RowKit Go.Lib FoldP FoldInts Kit FoldForms FoldNext FoldValid Words Owned FoldAmong
def StrBelow (l:List UInt8) (w:World) (e:Ending) (w':World):Prop:=e = .returned (.string (str l))∧Below w.heap.size w w'
end Go.Proofs.YtigfcihakghddaaGreatDoor.FoldRefFold
end
section
namespace Go.Proofs.YtigfcihakghddaaGreatDoor.SBuilder
open Go.RowKit Go.Lib
theorem sizeB:(Tryz.prog.info? 228).map (·.size)=some 2:=by kernel_rfl
theorem infoByte:(Tryz.prog.info? 5).map (fun i=>(i.zero,i.size,i.bytes))=some (some (.int .u8 0),1,1):=by kernel_rfl
theorem copyCheck_used (b:Nat) (w:World) (h0:w.cell? ⟨b,0,none⟩=some (.pointer (some ⟨b,0,none⟩))) :
 Calls Tryz.prog 215 #[.pointer (some ⟨b,0,none⟩)] w fun e w'=>e = .returned (.tuple #[])∧w'=w:=by
 obtain ⟨j,hj,_⟩:=Option.map_eq_some_iff.1 sizeB;go_enter Tryz.func215,Tryz.ntmps215;go_wp2;rw[Lib.run_neq_ptr_same w _ Tryz.underlying226 hj];go_wp2;go_end0;exact ⟨rfl,rfl⟩
theorem copyCheck_fresh (b:Nat) (w:World) (h0:w.cell? ⟨b,0,none⟩=some (.pointer none)) (hsh:w.shape? b=some (228,2)) (hfz:w.frozen? ⟨b,0,none⟩=false) :
 Calls Tryz.prog 215 #[.pointer (some ⟨b,0,none⟩)] w fun e w'=>e = .returned (.tuple #[])∧w'=w.setCell ⟨b,0,none⟩ (.pointer (some ⟨b,0,none⟩)):=by
 obtain ⟨j,hj,hjs⟩:=Option.map_eq_some_iff.1 sizeB;go_enter Tryz.func215,Tryz.ntmps215;go_wp2;rw[Lib.run_to_unsafe w ⟨b,0,none⟩ Tryz.underlying226 Tryz.underlying295 hj (by rw[hjs];decide) hsh (Nat.zero_lt_succ 1)];simp only[Result.andThen];rw[Oper.upon_value];go_wp2;rw[run_callFunc_extern Tryz.func252 (by kernel_rfl) (by kernel_rfl) (by kernel_rfl) (e:=Extern.AbiNoEscape.same) (by kernel_rfl)];rw[Lib.run_noEscape];simp only[Result.andThen];rw[Oper.upon_value];go_wp2;rw[Lib.run_from_unsafe w ⟨b,0,none⟩ Tryz.underlying295 Tryz.underlying226 hj hsh (by kernel_rfl)];simp only[Result.andThen];rw[Oper.upon_value];go_wp2;go_end0;exact ⟨rfl,rfl⟩
theorem copyCheck_any (B b:Nat) (bs:List Value) (w:World) (h:Lib.IsBuilderF 228 5 B b bs w) :
 Calls Tryz.prog 215 #[.pointer (some ⟨b,0,none⟩)] w fun e w'=>e = .returned (.tuple #[])∧(Lib.BuilderAtF 228 5 B b (.pointer (some ⟨b,0,none⟩)) bs w'∧Below B w w'∧Lib.OthersKept 5 (some b) w w'):=by
 rcases h with h | h
 ·refine (copyCheck_fresh b w h.cell0 h.shape h.frozen0).mono ?_;rintro e w' ⟨rfl,rfl⟩;exact ⟨rfl,h.used _,(Below.refl B w).setCell (p:=⟨b,0,none⟩) h.1 _,(Lib.OthersKept.refl _ _ w).setCell ⟨b,0,none⟩ rfl _⟩
 ·refine (copyCheck_used b w h.cell0).mono ?_;rintro e w' ⟨rfl,rfl⟩;exact ⟨rfl,h,Below.refl B _,Lib.OthersKept.refl _ _ _⟩
theorem writeString_any (B b:Nat) (bs:List Value) (s:ByteArray) (w:World) (h:Lib.IsBuilderF 228 5 B b bs w) (hlen:bs.length+s.size≤140737488355328) (hBw:B≤w.heap.size) :
 Calls Tryz.prog 159 #[.pointer (some ⟨b,0,none⟩),.string s] w fun e w'=>e = .returned (.tuple #[.int .i64 s.size,.nilIface])∧(Lib.BuilderAtF 228 5 B b (.pointer (some ⟨b,0,none⟩)) (bs++Lib.strCells s) w'∧Below B w w'∧Lib.OthersKept 5 (some b) w w'):=by
 obtain ⟨i0,hi,hz0,hz1,hz2⟩:=info_parts infoByte;go_enter Tryz.func159,Tryz.ntmps159;go_wp2_with (go_at_call 215;refine (copyCheck_any B b bs _ h).mono ?_);rintro e w1 ⟨rfl,h1,hb1,hk1⟩;obtain ⟨hB,v,hbk,hown,hne⟩:=h1;have c0:w1.cell? ⟨b,0,none⟩=some (.pointer (some ⟨b,0,none⟩)):=by rw[Lib.cell_of_heap hbk];rfl
 have c1:w1.cell? ⟨b,1,none⟩=some v:=by rw[Lib.cell_of_heap hbk];rfl
 go_wp2_with (at_builtin;refine Lib.wpList_append_own_stringF _ rfl _ _ 170 9 rfl B 5 i0 Tryz.underlying170 Tryz.underlying9 hi hz0 hz1 hz2 _ _ _ rfl hown s rfl ?c3 ?c4 ?c5 ?_);case c3=>unfold maxLen;omega
 case c4=>omega
 case c5=>have:=hb1.size;omega
 intro v' w2 hown' hgrow _
 have hlt:b<w1.heap.size:=by
  rcases Nat.lt_or_ge b w1.heap.size with h' | h'
  ·exact h'
  ·simp[Array.getElem?_eq_none h'] at hbk
 have hb2:w2.heap[b]?=some (.cells #[.pointer (some ⟨b,0,none⟩),v] 228 (0,0)):=(by rw[hgrow.block b hlt (fun e=>hne e.symm)];exact hbk)
 have d0:w2.cell? ⟨b,0,none⟩=some (.pointer (some ⟨b,0,none⟩)):=by rw[Lib.cell_of_heap hb2];rfl
 have d1:w2.cell? ⟨b,1,none⟩=some v:=by rw[Lib.cell_of_heap hb2];rfl
 have f1:w2.frozen? ⟨b,1,none⟩=false:=Lib.frozen_of_heap hb2 1
 obtain ⟨ao,n',cap,rfl⟩:∃ao n' cap,v' = .slice ao n' cap:=by
  rcases hown'.2 with ⟨hv,_⟩ | ⟨g,cap,cur,fz,hv,_⟩
  ·exact ⟨_,_,_,hv⟩
  ·exact ⟨_,_,_,hv⟩
 go_wp2;go_ret2;refine ⟨rfl,?_,?_,(hk1.grown hgrow (Lib.ownsRowF_kind hown)).setCell ⟨b,1,none⟩ rfl _⟩
 ·exact Lib.BuilderAtF.put (T:=228) (e:=5) hB hb2 (bs':=bs++Lib.strCells s) (by simpa [Lib.strCells_length] using hown') (by decide)
 ·exact (hb1.grown hgrow (by have:=hb1.size;omega) (fun k hk=>(hown.lt k hk).1)).setCell (p:=⟨b,1,none⟩) hB _
theorem writeRune_any (B b:Nat) (bs:List Value) (r:Int) (hr0 : -2147483648≤r) (hr1:r≤2147483647) (w:World) (h:Lib.IsBuilderF 228 5 B b bs w) (hlen:bs.length+4≤140737488355328) (hBw:B≤w.heap.size) :
 Calls Tryz.prog 244 #[.pointer (some ⟨b,0,none⟩),.int .i32 r] w fun e w'=>e = .returned (.tuple #[.int .i64 (Lib.runeCells r).length,.nilIface])∧(Lib.BuilderAtF 228 5 B b (.pointer (some ⟨b,0,none⟩)) (bs++Lib.runeCells r) w'∧Below B w w'∧Lib.OthersKept 5 (some b) w w'):=by
 have hk4:=Lib.runeCells_le r;go_enter Tryz.func244,Tryz.ntmps244;go_wp2_with (go_at_call 215;refine (copyCheck_any B b bs _ h).mono ?_);rintro e w1 ⟨rfl,h1,hb1,hk1⟩;obtain ⟨hB,v,hbk,hown,hne⟩:=h1
 obtain ⟨ao,cap,rfl⟩:∃ao cap,v = .slice ao bs.length cap:=by
  rcases hown.2 with ⟨hv,h0⟩ | ⟨g,cap,cur,fz,hv,_⟩
  ·exact ⟨none,0,by rw[hv,h0]⟩
  ·exact ⟨_,_,hv⟩
 have c0:w1.cell? ⟨b,0,none⟩=some (.pointer (some ⟨b,0,none⟩)):=by rw[Lib.cell_of_heap hbk];rfl
 have c1:w1.cell? ⟨b,1,none⟩=some (.slice ao bs.length cap):=by rw[Lib.cell_of_heap hbk];rfl
 go_wp2_with (go_at_call 263;refine (Tryz.utf8_AppendRune_row B _ bs.length bs r hr0 hr1 _ hown hlen (by have:=hb1.size;omega)).mono ?_);rintro e w2 ⟨v',rfl,hown',o,hgrow⟩
 have hlt:b<w1.heap.size:=by
  rcases Nat.lt_or_ge b w1.heap.size with h' | h'
  ·exact h'
  ·simp[Array.getElem?_eq_none h'] at hbk
 have hb2:w2.heap[b]?=some (.cells #[.pointer (some ⟨b,0,none⟩),.slice ao bs.length cap] 228 (0,0)):=(by rw[hgrow.block b (by simp;omega) (fun e=>hne e.symm),Lib.alloc_old w1 _ b hlt];exact hbk)
 have d0:w2.cell? ⟨b,0,none⟩=some (.pointer (some ⟨b,0,none⟩)):=by rw[Lib.cell_of_heap hb2];rfl
 have d1:w2.cell? ⟨b,1,none⟩=some (.slice ao bs.length cap):=by rw[Lib.cell_of_heap hb2];rfl
 have f1:w2.frozen? ⟨b,1,none⟩=false:=Lib.frozen_of_heap hb2 1
 obtain ⟨g,cap',rfl⟩:∃g cap',v' = .slice (some ⟨g,0,none⟩) (bs.length+(Lib.runeCells r).length) cap':=by
  rcases hown'.2 with ⟨_,h0⟩ | ⟨g,cap',cur,fz,hv,_⟩
  ·omega
  ·exact ⟨g,cap',hv⟩
 go_wp2;go_ret2;refine ⟨?_,?_,?_,((hk1.alloc _).grown hgrow (Lib.ownsRowF_kind (hown.alloc _))).setCell ⟨b,1,none⟩ rfl _⟩
 ·have e:((bs.length:Int)+((Lib.runeCells r).length:Int) - (bs.length:Int))=((Lib.runeCells r).length:Int):=by omega
  simp[e]
 ·exact Lib.BuilderAtF.put (T:=228) (e:=5) hB hb2 (bs':=bs++Lib.runeCells r) (by simpa using hown') (by decide)
 ·exact ((hb1.alloc (by have:=hb1.size;omega) _).grown hgrow (by have:=hb1.size;simp;omega) (fun k hk=>(hown.lt k hk).1)).setCell (p:=⟨b,1,none⟩) hB _
end Go.Proofs.YtigfcihakghddaaGreatDoor.SBuilder
end
section
namespace Go.Proofs.YtigfcihakghddaaGreatDoor.FoldFold
open Go.RowKit Go.Lib FoldP FoldInts Kit FoldForms FoldNext FoldIter FoldValid FoldRefFold SBuilder
attribute [local go_sem] Oper.semAt_some
def pieces (l:List UInt8) (pre:List (RuneOf l)):List UInt8:=pre.flatMap (fun x=>piece (l.drop x.1.1))
theorem pieces_snoc (l:List UInt8) (pre:List (RuneOf l)) (x:RuneOf l):pieces l (pre++[x])=pieces l pre++piece (l.drop x.1.1):=by simp[pieces]
theorem piece_le (l:List UInt8) (x:RuneOf l):(piece (l.drop x.1.1)).length≤4:=by
 have hx:=runesL_mem x.2;have hne:l.drop x.1.1≠[]:=by intro e;have:=congrArg List.length e;simp at this;omega
 rw[piece_len _ hne];rw[decodeL_N];rcases decodeN_shape (l.drop x.1.1).length ((l.drop x.1.1).getD 0 0).toNat ((l.drop x.1.1).getD 1 0).toNat ((l.drop x.1.1).getD 2 0).toNat ((l.drop x.1.1).getD 3 0).toNat with ⟨c,e⟩ | ⟨c1,c2,c3,cv,e⟩ | ⟨c1,c2,c3,c4,cv,cs,e⟩ | ⟨c1,c2,c3,c4,c5,cv,cw,e⟩ | e
 all_goals (rw[e];dsimp only;omega)
theorem pieces_le (l:List UInt8):∀pre:List (RuneOf l),(pieces l pre).length≤4*pre.length
 | []=>by simp[pieces]
 | x::r=>by
  have h1:=pieces_le l r;have h2:=piece_le l x;have e:pieces l (x::r)=piece (l.drop x.1.1)++pieces l r:=by simp[pieces]
  rw[e];simp only[List.length_append,List.length_cons];omega
theorem pieces_from (l:List UInt8):∀(f k:Nat),l.length - k≤f→(runesFrom k (l.drop k)).flatMap (fun x=>piece (l.drop x.1))=foldL (l.drop k)
 | 0,k,hf=>by rw[runesEnd l k (by omega),foldEnd l k (by omega)];rfl
 | f+1,k,hf=>by
  by_cases h:k<l.length
  ·rw[runesAt l k h,foldAt l k h];have hs:=step_le l k h;rw[←pieces_from l f _ (by omega)];simp
  ·rw[runesEnd l k (by omega),foldEnd l k (by omega)];rfl
theorem pieces_all (l:List UInt8) (xs:List (RuneOf l)) (h:allR l xs):pieces l xs=foldL l:=by
 have h1:=pieces_from l l.length 0 (by omega);simp only[List.drop_zero] at h1;rw[←h1];have h2:runesFrom 0 l=xs.map (·.1):=h.symm;rw[h2,List.flatMap_map];rfl
theorem fold_in (s:ByteArray) (w:World) (hs:s.size≤17592186044416) (hT:Tabs w) :
 CallsIn Fence.wide 6 Tryz.prog 199 #[.string s] w (StrBelow (foldL s.data.toList) w):=by
 have HT:=hX hT;clear hT;refine callsIn_of_wp_marks Tryz.func199 rfl trivial ?_ rfl;simp only[Tryz.ntmps199,List.size_toArray,List.length_cons,List.length_nil,Nat.reduceAdd,Nat.reduceSub,Array.replicate_succ,Array.replicate_zero,List.push_toArray,List.append_toArray,List.nil_append,List.cons_append];gi_wp2_with fail
 refine ⟨trivial,?_⟩;refine (runes_in _ _ _).mono ?_;rintro e w' ⟨rfl,rfl⟩;gi_wp2_with fail
 have hsz:(((w.alloc (.cells #[.string s] 9)).alloc (.cells #[.pointer none,.slice none 0 0] 228)).alloc (.cells #[.string s] 9)).heap.size=w.heap.size+3:=by simp
 have hw0:∃W0,(((w.alloc (.cells #[.string s] 9)).alloc (.cells #[.pointer none,.slice none 0 0] 228)).alloc (.cells #[.string s] 9))=W0:=⟨_,rfl⟩
 have hb0:Below w.heap.size w (((w.alloc (.cells #[.string s] 9)).alloc (.cells #[.pointer none,.slice none 0 0] 228)).alloc (.cells #[.string s] 9)):=(((Below.refl _ _).alloc (Nat.le_refl _) _).alloc (by simp) _).alloc (by simp;omega) _
 have hk0:(((w.alloc (.cells #[.string s] 9)).alloc (.cells #[.pointer none,.slice none 0 0] 228)).alloc (.cells #[.string s] 9)).heap[w.heap.size]?=some (.cells #[.string s] 9 (0,0)):=(by rw[Below.heap_alloc _ _ _ (by simp;omega),Below.heap_alloc _ _ _ (by simp)];exact heap_alloc_new w _)
 have hk2:(((w.alloc (.cells #[.string s] 9)).alloc (.cells #[.pointer none,.slice none 0 0] 228)).alloc (.cells #[.string s] 9)).heap[w.heap.size+2]?=some (.cells #[.string s] 9 (0,0)):=(by have:=heap_alloc_new ((w.alloc (.cells #[.string s] 9)).alloc (.cells #[.pointer none,.slice none 0 0] 228)) (.cells #[.string s] 9);simpa using this)
 have hbd:Lib.IsBuilderF 228 5 w.heap.size (w.heap.size+1) [] (((w.alloc (.cells #[.string s] 9)).alloc (.cells #[.pointer none,.slice none 0 0] 228)).alloc (.cells #[.string s] 9)):=by
  refine .inl ⟨by omega,.slice none 0 0,?_,?_,by simp[Value.ownBlock]⟩
  ·rw[Below.heap_alloc _ _ _ (by simp)];have:=heap_alloc_new (w.alloc (.cells #[.string s] 9)) (.cells #[.pointer none,.slice none 0 0] 228);simpa using this
  ·exact World.ownsRowF_of (World.ownsRow_nil _ _ _ _)
 obtain ⟨W0,hW0⟩:=hw0;rw[hW0] at hsz hb0 hk0 hk2 hbd ⊢;have hT0:Tabs W0:=HT.out.next hb0;have h2:5≤w.heap.size:=HT.out.2;clear hW0
 refine wpIn_rangeFunc_ownF rfl (by omega) (gf:=247) (lb:=#[.pointer (some ⟨w.heap.size+1+1,0,none⟩)]) rfl trivial (enters_of Tryz.func247 (by kernel_rfl) rfl)
  (runes_stops (w.heap.size+1+1) s (by omega) W0 hk2 hT0) KpR.trans (kpR_b (by omega) (by omega)) (Below.refl _ _) (fun _=>rfl)
  (fun pre W=>Lib.IsBuilderF 228 5 w.heap.size (w.heap.size+1) (byteCells (pieces s.data.toList pre)) W∧W.heap[w.heap.size]?=some (.cells #[.string s] 9 (0,0))∧W.heap[w.heap.size+1+1]?=some (.cells #[.string s] 9 (0,0))∧Below w.heap.size w W)
  (fun _ _ _=>False)
  (fun pre A B row hI hg hr=>⟨builder_kept hI.1 hg (fun r e=>(hr r e).2),(hg.block w.heap.size (Array.getElem?_eq_some_iff.1 hI.2.1).1 (fun e=>by have:=(hr _ e.symm).1;omega)).trans hI.2.1,
    (hg.block (w.heap.size+1+1) (Array.getElem?_eq_some_iff.1 hI.2.2.1).1 (fun e=>by have:=(hr _ e.symm).1;omega)).trans hI.2.2.1,
    hI.2.2.2.grown hg hI.2.2.2.size (fun k e=>by have:=(hr k e).1;omega)⟩)
  (fun _ _ _ _ _ hs _ _=>hs)
  ⟨hbd,hk0,hk2,hb0⟩
  (fun x=>{ tmps:=#[.string s,.pointer (some ⟨w.heap.size,0,none⟩),.string ⟨#[]⟩,.pointer (some ⟨w.heap.size+1,0,none⟩),.int .i64 (x.1.1:Int),.int .i32 x.1.2,undef,undef,undef,.string s,.func (.func 247) #[] #[.pointer (some ⟨w.heap.size+1+1,0,none⟩)],.int .i64 (x.1.1:Int),.int .i32 x.1.2,undef,undef,undef,undef,undef,undef,undef,undef,undef,undef,undef,undef,undef,undef,undef,undef,undef,undef,undef,undef,undef],defers:=[] }) ?assign ?body ?done ?stop
 case assign=>
  intro l x W K hK;dsimp only[FoldIter.encR];gi_wp2
  exact hK
 case body=>
  rintro l0 pre x W ⟨hbl,hbx,hby,hB⟩ hlt;have hx:=runesL_mem x.2;have hrl:=runesL_length s.data.toList;have hpl:=pieces_le s.data.toList pre;have hlen:s.data.toList.length=s.size:=by simp
  have hsn:=pieces_snoc s.data.toList pre x;rw[hlen] at hx hrl;obtain ⟨⟨p,r⟩,hmem⟩:=x;dsimp only at hx hsn ⊢;obtain ⟨hx1,hx2⟩:=hx;have hst:=step_le s.data.toList p (by rw[hlen];exact hx1);have hr:=decodeL_rune (s.data.toList.drop p);rw[hlen] at hst;clear hlen;unfold piece at hsn
  cases hdr:decodeL (s.data.toList.drop p) with
  | mk rr nn=>
  rw[hdr] at hst hr hx2 hsn;dsimp only at hst hr hx2 hsn;subst hx2;obtain ⟨hst1,hst2⟩:=hst;have hnn:nn≤s.size:=by omega
  have HN:=hX (next_at s p W (by omega) (HT.out.next (hB.mono (Nat.le_refl _))) hx1 rr nn hdr);have HSN:=hX hsn;clear hsn;clear hdr;have hbc:W.cell? ⟨w.heap.size,0,none⟩=some (.string s):=box_cell hbx;have hbl2:(byteCells (pieces s.data.toList pre)).length+s.size+4≤140737488355328:=by rw[byteCells_length];omega
  have HBL:=hX hbl2;have hBW:w.heap.size≤W.heap.size:=hB.size;by_cases hlow:lowerF rr=rr
  ·have hneq:(lowerF rr != (rr:Int))=false:=by rw[hlow];simp
   have HLOW:=hX hlow;clear hlow;gi_wp2_with fail
   refine ⟨trivial,?_⟩;refine CallsIn.inRound l0 (callsIn_wide.2 (lower_any rr W)) |>.mono ?_
   rintro e w' ⟨rfl,rfl⟩;gi_wp2_with fail
   refine ⟨trivial,?_⟩;refine CallsIn.inRound l0 (callsIn_wide.2 HN.out) |>.mono ?_
   rintro e w2 ⟨rfl,hb2⟩;have hbc2:w2.cell? ⟨w.heap.size,0,none⟩=some (.string s):=(hb2.cell (p:=⟨w.heap.size,0,none⟩) (Array.getElem?_eq_some_iff.1 hbx).1).trans hbc;have hbl2:=builder_kept hbl (only_of_below hb2 none) (fun r e=>by cases e);have HB2:=hX hb2;clear hb2;gi_wp2_with fail
   refine ⟨trivial,?_⟩;have hsz:(s.extract p (p+nn)).size=nn:=by simp;omega
   refine CallsIn.inRound l0 (callsIn_wide.2 (writeString_any w.heap.size (w.heap.size+1) _ (s.extract p (p+nn)) w2 hbl2 ?_ (Nat.le_trans hBW HB2.out.size))) |>.mono ?_
   ·rw[hsz];have:=HBL.out;omega
   rintro e w3 ⟨rfl,hbl3,hb3,hk3⟩;gi_wp2_with fail
   have hcells:strCells (s.extract p (p+nn))=byteCells ((s.data.toList.drop p).take nn):=(by rw[strCells_eq,extract_data,show p+nn - p=nn by omega])
   refine ⟨(keepsOthers_below HB2.out).trans (keepsOthers_others hk3 hb3.size (builder_cells hbl2)),(KpR.below HB2.out (by omega) (Array.getElem?_eq_some_iff.1 hby).1).trans ⟨hb3.mono h2,?_⟩,?_,?_,?_,?_⟩
   ·have hy2:=(HB2.out.block _ (Array.getElem?_eq_some_iff.1 hby).1).trans hby;rw[hk3 _ _ hy2 (by simp) (by intro c fz e;cases e),hy2]
   ·rw[HSN.out,if_pos HLOW.out,byteCells_append,←hcells];exact .inr hbl3
   ·have hx2:=(HB2.out.block _ (Array.getElem?_eq_some_iff.1 hbx).1).trans hbx;exact hk3 _ _ hx2 (by simp) (by intro c fz e;cases e)
   ·have hy2:=(HB2.out.block _ (Array.getElem?_eq_some_iff.1 hby).1).trans hby;exact hk3 _ _ hy2 (by simp) (by intro c fz e;cases e)
   ·exact (hB.trans (HB2.out.mono hBW)).trans hb3
  ·have hneq:(lowerF rr != (rr:Int))=true:=by rw[bne_iff_ne];exact hlow
   have HLOW:=hX hlow;clear hlow;have hlv:=lower_moves rr (by omega) HLOW.out;have hl0 : -2147483648≤lowerF rr:=by omega
   have hl1:lowerF rr≤2147483647:=by omega
   clear hlv;gi_wp2_with fail
   refine ⟨trivial,?_⟩;refine CallsIn.inRound l0 (callsIn_wide.2 (lower_any rr W)) |>.mono ?_
   rintro e w' ⟨rfl,rfl⟩;gi_wp2_with fail
   refine ⟨trivial,?_⟩;refine CallsIn.inRound l0 (callsIn_wide.2 (writeRune_any w.heap.size (w.heap.size+1) _ (lowerF rr) hl0 hl1 W hbl (by have:=HBL.out;omega) hBW)) |>.mono ?_
   rintro e w3 ⟨rfl,hbl3,hb3,hk3⟩;gi_wp2_with fail
   refine ⟨keepsOthers_others hk3 hb3.size (builder_cells hbl),⟨hb3.mono h2,?_⟩,?_,?_,?_,?_⟩
   ·rw[hk3 _ _ hby (by simp) (by intro c fz e;cases e),hby]
   ·rw[HSN.out,if_neg HLOW.out,byteCells_append,←runeCells_bytes];exact .inr hbl3
   ·exact hk3 _ _ hbx (by simp) (by intro c fz e;cases e)
   ·exact hk3 _ _ hby (by simp) (by intro c fz e;cases e)
   ·exact hB.trans hb3
 case done=>
  rintro D ys W hD hall ⟨hbl,hbx,hby,hB⟩ hK;rw[pieces_all _ _ hall] at hbl;gi_wp2_with fail
  refine ⟨trivial,?_⟩;refine (callsIn_wide.2 (Tryz.Builder_String_any_k w.heap.size (w.heap.size+1) _ W hbl hB.size)).mono ?_;rintro e w3 ⟨rfl,hbl3,hb3,hk3⟩;gi_wp2_with fail
  have hK3:w3.heap[D]?=some (.deferred (some [])):=hk3 D _ hK (by intro e;cases e;obtain ⟨c,t,fz,hc⟩:=builder_cells hbl;rw[hc] at hK;cases hK) (by intro c fz e;cases e);refine ⟨by simp,.inl ⟨_,_,rfl,run_takeDeferred hK3,?_⟩⟩;refine ⟨_,results_tmp rfl _ _ _,?_⟩;exact ⟨rfl,(hB.trans hb3).trans (belowK_b (w:=w) (Nat.le_refl _) _ D _ _ (by omega) hK3 rfl rfl)⟩
 case stop=>
  rintro D c pre W hD _ h _;exact h.elim
end Go.Proofs.YtigfcihakghddaaGreatDoor.FoldFold
end
