/- Lemmas that the last text leans on. -/
import Derived.Test.YtigfcihakghddaaGreatDoorTake
import Derived.RangeFuncNested
import Derived.WalkKit
import Derived.Test.YtigfcihakghddaaGreatDoorPack21
import Derived.Test.YtigfcihakghddaaGreatDoorPack7
import Derived.Test.YtigfcihakghddaaGreatDoorPack26
set_option linter.all false
section
namespace Go.Proofs.YtigfcihakghddaaGreatDoor.Range
open Go.RowKit
variable {F:Fence} {n:Nat} {P:Program}
def Gives {α:Type} (F:Fence) (n:Nat) (P:Program) (g:Nat) (lb:Array Value) (encs:α→Array Value) (Kp:World→World→Prop) (Nx:List α→α→Prop) (S:List α→Prop) (w:World):Prop:=
 ∀(l:Nat) (J:List α→World→Prop) (W:World),Below w.heap.size w W→AbidesFrom W.heap.size J→
  (∀pre x W1,Nx pre x→J pre W1→YieldAt F (n - 1) P l (encs x) W1 fun e W'=>e = .returned (.bool true)∧J (pre++[x]) W'∧Kp W1 W')→J [] W→
  CallsIn F n P g (#[.func (.yield l) #[] #[]]++lb) W fun e W'=>(∃v,e = .returned v)∧∃xs,S xs∧J xs W'
def roundPost {α:Type} (B:Nat) (Kp:World→World→Prop) (I:List α→World→Prop) (xs:List α) (W:World):Exit→Act→World→Prop
 | .normal,_,W'=>KeepsFrom B W W'∧Kp W W'∧I xs W'
 | _,_,_=>False
theorem wpIn_gives {α:Type} {g:Operand} {ps:Array Tmp} {assign body:Code} {Q:Exit→Act→World→Prop} {a:Act} {w:World}
 (hro:F.round=none) (h1:1≤n) {gf:Nat} {lb:Array Value} (hg:a.eval g = .func (.func gf) #[] lb) (hFg:F.fn gf) (eg:∀args w,(callFunc gf args).run P w = .ok (.enter gf args) w)
 {encs:α→Array Value} {Kp:World→World→Prop} {Nx:List α→α→Prop} {S:List α→Prop} {w0:World} (hseq:Gives F (n - 1) P gf lb encs Kp Nx S w0)
 (hKt:∀{A B C:World},Kp A B→Kp B C→Kp A C) (hKb:∀(W:World) (l:Nat) (o o':Obj),w.heap.size≤l→W.heap[l]?=some o→o.isCells=false→o.isWalk=false→Kp W (W.putObj l o')) (hb0:Below w0.heap.size w0 w) (hps:∀x,(encs x).size=ps.size)
 (I:List α→World→Prop) (hI:OwnFrom w.heap.size I) (h0:I [] w) (a₁:α→Act)
 (hassign:∀(l:Nat) (x:α) (W:World) (K:Act→World→Prop),K (a₁ x) W→
   assign.wpIn (F.inRound l) (n - 1 - 1) P (Exit.then K (fun _ _ _=>False)) { tmps:=(ps.zip (encs x)).foldl (fun t (p,v)=>t.setIfInBounds p v) a.tmps,defers:=[] } W)
 (hbody:∀(l:Nat) (pre:List α) (x:α) (W:World),Nx pre x→I pre W→body.wpIn (F.inRound l) (n - 1 - 1) P (roundPost w.heap.size Kp I (pre++[x]) W) (a₁ x) W)
 (hdone:∀(D:Nat) (xs:List α) (W:World),w.heap.size≤D→S xs→I xs W→W.heap[D]?=some (.deferred (some []))→Q .normal { a with defers:={ target:=.collected D,args:=#[] }::a.defers } W) :
 (Code.rangeFunc g ps assign body).wpIn F n P Q a w:=by
 refine wpIn_rangeFunc ?_;intro fn hfn;rw[hro]
 obtain ⟨rec,hrec⟩:∃rec:LoopState→Loop,rec=fun st=>{ state:=st,pending:=none,fn,tmps:=a.tmps,params:=ps,assign,body,defers:=w.heap.size }:=⟨_,rfl⟩
 obtain ⟨W1,hW1⟩:∃W1,(w.alloc (.deferred (some []))).alloc (.loop (rec .ready))=W1:=⟨_,rfl⟩
 have hz1:W1.heap.size=w.heap.size+2:=by rw[←hW1];simp
 have hL1:W1.heap[w.heap.size+1]?=some (.loop (rec .ready)):=(by have:=World.alloc_heap_new (w.alloc (.deferred (some []))) (.loop (rec .ready));rw[World.size_alloc,hW1] at this;exact this)
 have hK1:W1.heap[w.heap.size]?=some (.deferred (some [])):=(by rw[←hW1];exact (Below.heap_alloc _ _ _ (by simp)).trans (World.alloc_heap_new w _))
 have hI1:I [] W1:=by rw[←hW1];exact hI.alloc _ (hI.alloc _ h0)
 have hb1:Below w0.heap.size w0 W1:=(by rw[←hW1];exact (hb0.alloc hb0.size _).alloc (by have:=hb0.size;simp;omega) _)
 refine ⟨w.heap.size+1,[{ target:=.collected w.heap.size,args:=#[] }],W1,{ target:=.fn (.func gf) lb,args:=#[.func (.yield (w.heap.size+1)) #[] #[]] },W1,gf,
  #[.func (.yield (w.heap.size+1)) #[] #[]]++lb,W1,by rw[←hW1,hrec];exact run_enterLoop_outer _ _ _ _ _,by simp only[resolve,hg];simp[go_sem],fun f' hf'=>by simp[Target.leads] at hf';subst hf';exact hFg,
  by simp[invoke,go_sem,eg],fun _=>h1,?_⟩
 have far:∀{A B:World} {row:Option Nat},(∀r,row=some r→W1.heap.size≤r∧∃o:Obj,A.heap[r]?=some o∧o.isWalk=true)→A.grownBy B row→∀{k:Nat} {o:Obj},k<W1.heap.size→A.heap[k]?=some o→B.heap[k]?=some o:=
  fun hr hg' k o hk ho=>(hg'.block k (Array.getElem?_eq_some_iff.1 ho).1 (fun e=>by have:=(hr k e.symm).1;omega)).trans ho
 refine (hseq (w.heap.size+1) (fun pre W=>I pre W∧W.heap[w.heap.size+1]?=some (.loop (rec .ready))∧W.heap[w.heap.size]?=some (.deferred (some []))) W1 hb1
  (fun s A B row hs hg' hr=>⟨hI s A B row hs.1 hg' (fun r e=>by obtain ⟨hB,o,ho,hw⟩:=hr r e;exact ⟨by omega,o,ho,Obj.not_cells_of_walk hw⟩),far (B:=B) hr hg' (by omega) hs.2.1,far (B:=B) hr hg' (by omega) hs.2.2⟩)
  ?_ ⟨hI1,hL1,hK1⟩).mono ?_
 ·rintro pre x W hnx ⟨hi,hl,hk⟩;have hlt:w.heap.size+1<W.heap.size:=(Array.getElem?_eq_some_iff.1 hl).1;have hy:=run_yield (P:=P) (args:=encs x) hl (by rw[hrec];exact hps x);rw[hrec] at hy;refine ⟨fn,_,assign,body,hy,roundIn_of_wpIn hfn (hassign _ x W _ ⟨_,run_beginRound hl (by rw[hrec]),?_⟩)⟩;have hl2:(W.putObj (w.heap.size+1) (.loop { rec .ready with state:=.busy })).heap[w.heap.size+1]?=some (.loop { rec .ready with state:=.busy }):=World.putObj_heap_same hlt;have hk2:(W.putObj (w.heap.size+1) (.loop { rec .ready with state:=.busy })).heap[w.heap.size]?=some (.deferred (some [])):=(World.putObj_heap_other (by omega)).trans hk;have hw2:Kp W (W.putObj (w.heap.size+1) (.loop { rec .ready with state:=.busy })):=hKb _ _ _ _ (by omega) hl rfl rfl;refine wpIn_mono (hbody _ pre x _ hnx (hI.putObj _ hi (by omega) hl rfl)) ?_;rintro e a3 W3 hp
  cases e with
  | normal=>
   obtain ⟨hk3,hkp3,hi3⟩:=hp;have hl3:=hk3.same _ _ (by omega) hl2 rfl;have hr:=run_endRound (P:=P) none hl3;have hl4:(W3.putObj (w.heap.size+1) (.loop (rec .ready))).heap[w.heap.size+1]?=some (.loop (rec .ready)):=World.putObj_heap_same (Array.getElem?_eq_some_iff.1 hl3).1;have hk4:(W3.putObj (w.heap.size+1) (.loop (rec .ready))).heap[w.heap.size]?=some (.deferred (some [])):=(World.putObj_heap_other (by omega)).trans (hk3.same _ _ (Nat.le_refl _) hk2 rfl);have hkk:=hKt (hKt hw2 hkp3) (hKb W3 _ _ (.loop (rec .ready)) (by omega) hl3 rfl rfl);have hii:=hI.putObj (.loop (rec .ready)) hi3 (by omega) hl3 rfl;rw[hrec] at hr hl4 hk4 hkk hii ⊢;exact ⟨_,_,hr,rfl,⟨hii,hl4,hk4⟩,hkk⟩
  | ret=>exact hp.elim
  | exit id=>exact hp.elim
  | goto t=>exact hp.elim
  | panic ch=>exact hp.elim
  | outgrown=>exact hp.elim
 ·rintro e W2 ⟨⟨v,rfl⟩,xs,hS,hi,hl,hk⟩;exact ⟨none,_,by have:=run_endLoop (P:=P) hl (by rw[hrec];simp);rw[hrec] at this;exact this,hdone _ xs _ (Nat.le_refl _) hS (hI.putObj _ hi (by omega) hl rfl) ((World.putObj_heap_other (by omega)).trans hk)⟩
end Go.Proofs.YtigfcihakghddaaGreatDoor.Range
end
section
namespace Go.Proofs.YtigfcihakghddaaGreatDoor.Ana
open Go.RowKit Go.Lib FoldP FoldInts Kit FoldForms FoldNext FoldIter AnaP Range
attribute [local go_sem] Oper.semAt_some
def NxR (l:List UInt8) (pre:List (Nat × Int)) (x:Nat × Int):Prop:=∃rest,pre++x::rest=runesL l
def encP (x:Nat × Int):Array Value:=#[.int .i64 (x.1:Int),.int .i32 x.2]
theorem nx_get {l:List UInt8} {pre:List (Nat × Int)} {x:Nat × Int} (h:NxR l pre x):pre.length<nR l∧x.1=posAt l pre.length∧x.1<l.length∧(runeL l).drop pre.length=x.2::(runeL l).drop (pre.length+1):=by
 obtain ⟨rest,h⟩:=h;have hl:pre.length<nR l:=by unfold nR;rw[←h];simp
 have hg:=runes_get l pre.length hl;rw[←h,List.getElem?_append_right (Nat.le_refl _),Nat.sub_self,List.getElem?_cons_zero] at hg;have hx:=Option.some.inj hg;have hm:x∈runesL l:=by rw[←h];simp
 refine ⟨hl,by rw[hx],(runesL_mem hm).1,?_⟩;unfold runeL;rw[←h,List.map_append,List.map_cons];have e1:pre.length=(pre.map (·.2)).length:=by simp
 rw[e1,List.drop_left,List.drop_append,show (pre.map (·.2)).length+1 - (pre.map (·.2)).length=1 by omega,List.drop_eq_nil_of_le (by omega)];rfl
set_option maxRecDepth 100000 in
set_option maxHeartbeats 1000000 in
theorem runes1_gives (l0 Bs:Nat) (s:ByteArray) (hs:s.size≤9223372036854775807) (J:List (Nat × Int)→World→Prop) (W:World)
 (hJ:AbidesFrom W.heap.size J)
 (hY:∀pre x W1,NxR s.data.toList pre x→J pre W1→YieldAt Fence.wide 4 Tryz.prog l0 (encP x) W1 fun e W'=>e = .returned (.bool true)∧J (pre++[x]) W'∧KpR Bs W1 W')
 (hBs:W.heap[Bs]?=some (.cells #[.string s] 9 (0,0))) (hT:Tabs W) (h0:J [] W) :
 CallsIn Fence.wide 5 Tryz.prog 247 #[.func (.yield l0) #[] #[],.pointer (some ⟨Bs,0,none⟩)] W fun e W'=>(∃v,e = .returned v)∧∃ys,ys=runesL s.data.toList∧J ys W':=by
 have HJ:=hX hJ;clear hJ;have HY:=hX hY;clear hY;have HBS:=hX hBs;clear hBs;refine callsIn_of_wp Tryz.func247 rfl trivial ?_ rfl;simp only[Tryz.ntmps247,List.size_toArray,List.length_cons,List.length_nil,Nat.reduceAdd,Nat.reduceSub,Array.replicate_succ,Array.replicate_zero,List.push_toArray,List.append_toArray,List.nil_append,List.cons_append];gi_wp2
 gi_loopw [3] (fun i wr=>∃(k:Nat) (pre:List (Nat × Int)),k≤s.size∧i = .int .i64 k∧J pre wr∧Hid (pre++runesFrom k (s.data.toList.drop k)=runesL s.data.toList)∧KpR Bs W wr∧W.heap.size≤wr.heap.size)
  (fun i _=>s.size - (RowKit.intOf i).toNat)
 case atStart=>exact ⟨0,[],Nat.zero_le _,rfl,h0,hX rfl,⟨Below.refl _ _,rfl⟩,Nat.le_refl _⟩
 case round=>
  obtain ⟨k,pre,hk,rfl,hJs,hpre,hkp,hsz⟩:=hrel;have hlen:s.data.toList.length=s.size:=by simp
  have hcb:wr.cell? ⟨Bs,0,none⟩=some (.string s):=box_cell (hkp.2.trans HBS.out);have hTr:Tabs wr:=hT.below hkp.1 (Nat.le_refl _);by_cases hlt:k<s.size
  ·have hst:=step_le s.data.toList k (by rw[hlen];exact hlt);have hat:=runesAt s.data.toList k (by rw[hlen];exact hlt);have hnx:=next_any s k wr (by unfold maxLen;omega) hTr;unfold NextRet at hnx;rw[next_in _ k (by rw[hlen];exact hlt)] at hnx;have hle:=decodeL_rune (s.data.toList.drop k);rw[hat] at hpre;rw[hlen] at hst;clear hat hlen;generalize hdr:decodeL (s.data.toList.drop k)=d at *;have HDR:=hX hdr;clear hdr;obtain ⟨rr,nn⟩:=d;dsimp only at *;obtain ⟨hst1,hst2⟩:=hst
   have HP:Hid ((pre++[(k,(rr:Int))])++runesFrom (k+nn) (s.data.toList.drop (k+nn))=runesL s.data.toList):=(by unfold Hid;refine Eq.trans ?_ hpre.out;simp)
   have HX:Hid (NxR s.data.toList pre (k,(rr:Int))):=hX ⟨_,hpre.out⟩;have HN:=hX hnx;clear hnx;gi_wp2_with fail
   refine ⟨trivial,?_⟩;refine (callsIn_wide.2 HN.out).mono ?_;rintro e w2 ⟨rfl,hb2⟩;have hJ2:J pre w2:=HJ.out _ _ _ none hJs (only_of_below hb2 none) (fun r e=>by cases e)
   have hB2:Bs<wr.heap.size:=by
    have h1:=hkp.2.trans HBS.out;rcases Nat.lt_or_ge Bs wr.heap.size with h' | h'
    ·exact h'
    ·rw[Array.getElem?_eq_none h'] at h1;cases h1
   have hkp2:KpR Bs W w2:=hkp.trans (KpR.below hb2 hTr.2 hB2);have hsz2:W.heap.size≤w2.heap.size:=Nat.le_trans hsz hb2.size;obtain ⟨fn,tmps,assign,body,hy,hR⟩:=HY.out pre (k,(rr:Int)) w2 HX.out hJ2;dsimp only[encP] at hy;have HKP:=hX hkp2;clear hkp hkp2 hb2;gi_wp2
   refine hR.mono ?_;rintro e W3 ⟨rfl,hJ3,hk3⟩;have HK3:=hX hk3;clear hk3;gi_wp2
   go_roundw;case rel=>exact ⟨k+nn,_,hst2,by go_num,hJ3,HP,HKP.out.trans HK3.out,Nat.le_trans hsz2 HK3.out.1.size⟩
   case measure=>simp[RowKit.intOf];omega
  ·obtain rfl:k=s.size:=by omega
   have hfin:pre=runesL s.data.toList:=(by have:=hpre.out;rw[runesEnd _ _ (by rw[hlen];exact Nat.le_refl _),List.append_nil] at this;exact this)
   have HF:=hX hfin;clear hfin hlen;gi_wp2
   go_end0;exact ⟨⟨_,rfl⟩,_,HF.out,hJs⟩
theorem runes_gives (Bs:Nat) (s:ByteArray) (hs:s.size≤9223372036854775807) (w:World) (hBs:w.heap[Bs]?=some (.cells #[.string s] 9 (0,0))) (hT:Tabs w) :
 Gives Fence.wide 5 Tryz.prog 247 #[.pointer (some ⟨Bs,0,none⟩)] encP (KpR Bs) (NxR s.data.toList) (fun xs=>xs=runesL s.data.toList) w:=fun l J W hW hJ hY h0=>by
 have hlt:Bs<w.heap.size:=by
  rcases Nat.lt_or_ge Bs w.heap.size with h' | h'
  ·exact h'
  ·rw[Array.getElem?_eq_none h'] at hBs;cases hBs
 exact runes1_gives l Bs s hs J W hJ hY ((hW.block Bs hlt).trans hBs) (hT.next hW) h0
end Go.Proofs.YtigfcihakghddaaGreatDoor.Ana
end
section
namespace Go.Proofs.YtigfcihakghddaaGreatDoor.Ana
open Go.RowKit Go.Lib FoldP FoldInts Kit FoldForms FoldNext FoldIter AnaP Words Owned Tree Range
def frV (l:List UInt8):Option Nat→Int
 | none=>-1
 | some a=>(posAt l a:Int)
theorem Blk.nc {A B:World} {g:Nat} {t:TypeId} {cs:Array Value} {row:Option Nat} (h:Blk A g t cs) (hg:A.grownBy B row) (hr:∀r,row=some r→∃o:Obj,A.heap[r]?=some o∧o.isCells=false):Blk B g t cs:=
 h.grown hg (fun e=>by obtain ⟨o,ho,hc⟩:=hr g e.symm;rw[show A.heap[g]?=_ from h] at ho;cases ho;cases hc)
structure RunI (may begins:Int→Bool) (s:ByteArray) (mv bv:Value) (w:World) (R:List (Nat × Nat)) (cuts:List (Nat × Nat)) (fr:Option Nat) (j:Nat) (W:World):Prop where
 len:cuts.length≤j
 from_:∀a,fr=some a→a<j
 all:cuts++runIx may begins ((runeL s.data.toList).drop j) j fr=R
 out:∃v,Boxed W (w.heap.size+3) 156 v∧W.ownsRow w.heap.size 179 4 v (tokOf s cuts).length (tokCells (tokOf s cuts))
 frm:Boxed W (w.heap.size+4) 3 (.int .i64 (frV s.data.toList fr))
 txt:Boxed W w.heap.size 9 (.string s)
 mayB:Blk W (w.heap.size+1) 219 #[mv]
 begB:Blk W (w.heap.size+2) 219 #[bv]
 endB:Blk W (w.heap.size+5) 229 #[.func (.func 208) #[] #[.pointer (some ⟨w.heap.size+4,0,none⟩),.pointer (some ⟨w.heap.size+3,0,none⟩),.pointer (some ⟨w.heap.size,0,none⟩)]]
 iter:Blk W (w.heap.size+6) 9 #[.string s]
 below:Below w.heap.size w W
def RunI2 (may begins:Int→Bool) (s:ByteArray) (mv bv:Value) (w:World) (R:List (Nat × Nat)) (pre:List (Nat × Int)) (W:World):Prop:=∃cuts fr,RunI may begins s mv bv w R cuts fr pre.length W
theorem runI_own (may begins:Int→Bool) (s:ByteArray) (mv bv:Value) (w:World) (R:List (Nat × Nat)) (B:Nat) (hB:w.heap.size≤B):OwnFrom B (RunI2 may begins s mv bv w R):=by
 rintro pre A W row ⟨cuts,fr,h⟩ hg hr;have hr2:∀r,row=some r→∃o:Obj,A.heap[r]?=some o∧o.isCells=false:=fun r e=>(hr r e).2;obtain ⟨v,h1,h2⟩:=h.out
 exact ⟨cuts,fr,h.len,h.from_,h.all,⟨v,Blk.nc h1 hg hr2,own_cells_kept h2 hg (fun r e=>by obtain ⟨o,ho,hc⟩:=hr2 r e;exact ⟨o,ho,not_cells hc⟩)⟩,
  Blk.nc h.frm hg hr2,Blk.nc h.txt hg hr2,Blk.nc h.mayB hg hr2,Blk.nc h.begB hg hr2,Blk.nc h.endB hg hr2,Blk.nc h.iter hg hr2,h.below.grown hg h.below.size (fun k e=>by have:=(hr k e).1;omega)⟩
theorem RunI.ended {may begins:Int→Bool} {s:ByteArray} {mv bv:Value} {w:World} {R cuts cuts':List (Nat × Nat)} {fr:Option Nat} {j j':Nat} {W W':World} (h:RunI may begins s mv bv w R cuts fr j W) (he:EndW w.heap.size (w.heap.size+4) (w.heap.size+3) (tokOf s cuts') W W')
 (hl:cuts'.length≤j') (ha:cuts'++runIx may begins ((runeL s.data.toList).drop j') j' none=R):RunI may begins s mv bv w R cuts' none j' W':=by
 obtain ⟨v,h1,h2⟩:=he.out
 refine ⟨hl,(fun a e=>by cases e),ha,⟨v,h1,h2⟩,he.frm,he.cells _ _ _ h.txt (by decide) (by omega) (by omega),he.cells _ _ _ h.mayB (by decide) (by omega) (by omega),he.cells _ _ _ h.begB (by decide) (by omega) (by omega),
  he.cells _ _ _ h.endB (by decide) (by omega) (by omega),he.cells _ _ _ h.iter (by decide) (by omega) (by omega),h.below.trans he.below⟩
theorem RunI.stays {may begins:Int→Bool} {s:ByteArray} {mv bv:Value} {w:World} {R cuts:List (Nat × Nat)} {fr:Option Nat} {j:Nat} {W:World} (h:RunI may begins s mv bv w R cuts fr j W)
 (ha:cuts++runIx may begins ((runeL s.data.toList).drop (j+1)) (j+1) fr=R):RunI may begins s mv bv w R cuts fr (j+1) W:=
 ⟨Nat.le_succ_of_le h.len,fun a e=>Nat.lt_succ_of_lt (h.from_ a e),ha,h.out,h.frm,h.txt,h.mayB,h.begB,h.endB,h.iter,h.below⟩
theorem RunI.begun {may begins:Int→Bool} {s:ByteArray} {mv bv:Value} {w:World} {R cuts:List (Nat × Nat)} {fr:Option Nat} {j:Nat} {W:World} (h:RunI may begins s mv bv w R cuts fr j W)
 (ha:cuts++runIx may begins ((runeL s.data.toList).drop (j+1)) (j+1) (some j)=R):RunI may begins s mv bv w R cuts (some j) (j+1) (W.setCell ⟨w.heap.size+4,0,none⟩ (.int .i64 (posAt s.data.toList j:Int))):=by
 obtain ⟨v,h1,h2⟩:=h.out
 refine ⟨Nat.le_succ_of_le h.len,(fun a e=>by cases e;omega),ha,⟨v,h1.other (by omega) _,h2.kept (row:=some (w.heap.size+4)) (grownBy_setCell' W _ _) (.inr (h.frm.not_row (by decide) h2).symm)⟩,h.frm.set _,h.txt.other (by omega) _,
  h.mayB.far (p:=⟨w.heap.size+4,0,none⟩) (by dsimp only;omega) _,h.begB.far (p:=⟨w.heap.size+4,0,none⟩) (by dsimp only;omega) _,h.endB.far (p:=⟨w.heap.size+4,0,none⟩) (by dsimp only;omega) _,h.iter.far (p:=⟨w.heap.size+4,0,none⟩) (by dsimp only;omega) _,h.below.setCell (p:=⟨w.heap.size+4,0,none⟩) (by dsimp only;omega) _⟩
theorem runI_start {may begins:Int→Bool} {s:ByteArray} {mv bv:Value} {w:World} {R:List (Nat × Nat)} (hR:runIx may begins (runeL s.data.toList) 0 none=R) :
 RunI may begins s mv bv w R [] none 0 (((((((w.alloc (.cells #[.string s] 9)).alloc (.cells #[mv] 219)).alloc (.cells #[bv] 219)).alloc (.cells #[.slice none 0 0] 156)).alloc (.cells #[.int .i64 (-1)] 3)).alloc
  (.cells #[.func (.func 208) #[] #[.pointer (some ⟨w.heap.size+4,0,none⟩),.pointer (some ⟨w.heap.size+3,0,none⟩),.pointer (some ⟨w.heap.size,0,none⟩)]] 229)).alloc (.cells #[.string s] 9)):=by
 have hb:∀(X:World) (n:Nat) (t:TypeId) (cs:Array Value),X.heap.size=n→Blk (X.alloc (.cells cs t)) n t cs:=fun X n t cs h=>by subst h;exact Blk.new X t cs
 refine ⟨Nat.le_refl _,(fun a e=>by cases e),hR,⟨.slice none 0 0,?_,World.ownsRow_nil _ _ _ _⟩,?_,?_,?_,?_,?_,?_,?_⟩
 ·exact (((hb _ _ _ _ (by simp)).alloc _).alloc _).alloc _
 ·exact ((hb _ _ _ _ (by simp)).alloc _).alloc _
 ·exact ((((((hb _ _ _ _ (by simp)).alloc _).alloc _).alloc _).alloc _).alloc _).alloc _
 ·exact (((((hb _ _ _ _ (by simp)).alloc _).alloc _).alloc _).alloc _).alloc _
 ·exact ((((hb _ _ _ _ (by simp)).alloc _).alloc _).alloc _).alloc _
 ·exact (hb _ _ _ _ (by simp)).alloc _
 ·exact hb _ _ _ _ (by simp)
 ·exact (((((((Below.refl _ _).alloc (Nat.le_refl _) _).alloc (by simp) _).alloc (by simp;omega) _).alloc (by simp;omega) _).alloc (by simp;omega) _).alloc (by simp;omega) _).alloc (by simp;omega) _
theorem RunI.kp {may begins:Int→Bool} {s:ByteArray} {mv bv:Value} {w:World} {R cuts cuts':List (Nat × Nat)} {fr fr':Option Nat} {j j':Nat} {W W':World} (h:RunI may begins s mv bv w R cuts fr j W) (h':RunI may begins s mv bv w R cuts' fr' j' W') (hb:Below w.heap.size W W') (h2:5≤w.heap.size):KpR (w.heap.size+6) W W':=
 ⟨hb.mono h2,Eq.trans h'.iter h.iter.symm⟩
theorem tok_snoc {s:ByteArray} {cuts:List (Nat × Nat)} {a j p:Nat} (hp:p=posAt s.data.toList j):tokOf s cuts++[(⟨s.extract (posAt s.data.toList a) p,(tokOf s cuts).length,posAt s.data.toList a,p⟩:TokD)]=tokOf s (cuts++[(a,j)]):=by
 subst hp;rw[tokOf_snoc,tokOf_len];rfl
end Go.Proofs.YtigfcihakghddaaGreatDoor.Ana
end
