/- Lemmas that the last text leans on. -/
import Derived.Test.YtigfcihakghddaaGreatDoorTake
import Derived.Test.YtigfcihakghddaaGreatDoorPack40
import Derived.Test.YtigfcihakghddaaGreatDoorPack42
import Derived.Test.YtigfcihakghddaaGreatDoorBufCret
set_option linter.all false
namespace Go.Proofs.YtigfcihakghddaaGreatDoor.BufT
open Go Go.RowKit Words Tree Owned MapV BufP Sch SchP AnaP Kit
theorem infoPtr:(Tryz.prog.info? 92).map (fun i=>(i.zero,i.size,i.bytes))=some (some (.pointer none),1,8):=by kernel_rfl
theorem infoU:(Tryz.prog.info? 68).map (fun i=>(i.zero,i.size,i.bytes))=some (some (.int .u64 0),1,8):=by kernel_rfl
theorem infoDoc:(Tryz.prog.info? 67).map (fun i=>(i.zero,i.size,i.bytes))=some (some (.agg #[.slice none 0 0]),1,24):=by kernel_rfl
theorem infoInv:(Tryz.prog.info? 53).map (fun i=>(i.zero,i.size,i.bytes))=some (some (.agg #[.slice none 0 0,.slice none 0 0,.slice none 0 0,.slice none 0 0,.slice none 0 0,.slice none 0 0]),6,144):=by kernel_rfl
structure ItOk (it:IT):Prop where
 len:it.doc.length*56≤140737488351232
 ok:∀e∈it.doc,EOk e
 text:∀e∈it.doc,e.text.size<4294967281
theorem wf_i64d {d:Nat} (h:d≤16384):(Lit.int .i64 (d:Int)).wf=true:=by
 have h1:IntKind.i64.min = -9223372036854775808:=by decide
 have h2:IntKind.i64.max=9223372036854775807:=by decide
 simp only[Lit.wf,h1,h2,Bool.and_eq_true,decide_eq_true_eq];omega
structure MadeF (w:World) (box gm gf n Bf:Nat) (sv:Value) (i:Nat) (wr:World):Prop where
 bel:Below w.heap.size w wr
 bx:Blk wr box 24 #[sv]
 mem:Blk wr gm 47 #[.slice none 0 0,.slice none 0 0,.slice none 0 0]
 ex:∃fb Fs zs,wr.ownsRow w.heap.size 92 1 (.slice (some ⟨gf,0,none⟩) n n) n (ptrsL fb i++zs)∧FieldsAt wr Bf sv (List.replicate i FD.zero) fb Fs
 ge:Bf≤wr.heap.size
theorem ptrsL_len (fb:Nat→Nat) (n:Nat):(ptrsL fb n).length=n:=by simp[ptrsL]
theorem ptrsL_get (fb:Nat→Nat) {n k:Nat} (h:k<n):(ptrsL fb n)[k]?=some (.pointer (some ⟨fb k,0,none⟩)):=by
 unfold ptrsL;rw[List.getElem?_map,List.getElem?_range h];rfl
theorem MadeF.at {w wr:World} {box gm gf n Bf i:Nat} {sv:Value} (h:MadeF w box gm gf n Bf sv i wr) (hi:i<n):gf<wr.heap.size∧(∃u,wr.cell? ⟨gf,i,none⟩=some u)∧wr.frozen? ⟨gf,i,none⟩=false∧wr.cell? ⟨box,0,none⟩=some sv:=by
 obtain ⟨fb,Fs,zs,h1,h2⟩:=h.ex;have hl:=h1.1;refine ⟨(h1.lt gf rfl).2,?_,h1.frozenAt i,h.bx.cell 0⟩;rw[h1.cellAt i (by omega)];exact ⟨_,List.getElem?_eq_getElem (by omega)⟩
theorem MadeF.step {w wr:World} {box gm gf n Bf i:Nat} {sv:Value} (h:MadeF w box gm gf n Bf sv i wr) (hi:i<n) (hgf:gf<Bf) (hgfw:w.heap.size≤gf) :
 MadeF w box gm gf n Bf sv (i+1) (((wr.alloc (.map #[] 0)).alloc (.cells #[.slice none 0 0,.slice none 0 0,.slice none 0 0,.slice none 0 0,.slice none 0 0,.slice none 0 0,sv,.int .i64 i,.map (some wr.heap.size)] 95)).setCell ⟨gf,i,none⟩ (.pointer (some ⟨wr.heap.size+1,0,none⟩))):=by
 obtain ⟨fb,Fs,zs,h1,h2⟩:=h.ex;have hz1:(wr.alloc (.map #[] 0)).heap.size=wr.heap.size+1:=by simp
 have hB1:Below wr.heap.size wr (wr.alloc (.map #[] 0)):=(Below.refl _ _).alloc (Nat.le_refl _) _;have hB2:Below wr.heap.size wr ((wr.alloc (.map #[] 0)).alloc (.cells #[.slice none 0 0,.slice none 0 0,.slice none 0 0,.slice none 0 0,.slice none 0 0,.slice none 0 0,sv,.int .i64 i,.map (some wr.heap.size)] 95)):=hB1.alloc hB1.size _;have hbn:=Blk.new (wr.alloc (.map #[] 0)) 95 #[.slice none 0 0,.slice none 0 0,.slice none 0 0,.slice none 0 0,.slice none 0 0,.slice none 0 0,sv,.int .i64 i,.map (some wr.heap.size)]
 have hmn:((wr.alloc (.map #[] 0)).alloc (.cells #[.slice none 0 0,.slice none 0 0,.slice none 0 0,.slice none 0 0,.slice none 0 0,.slice none 0 0,sv,.int .i64 i,.map (some wr.heap.size)] 95)).heap[wr.heap.size]?=some (.map #[] 0):=(by rw[Below.heap_alloc _ _ _ (by rw[hz1];omega)];exact (MapKept.heap_alloc wr _).1)
 rw[hz1] at hbn;generalize (wr.alloc (.map #[] 0)).alloc (.cells #[.slice none 0 0,.slice none 0 0,.slice none 0 0,.slice none 0 0,.slice none 0 0,.slice none 0 0,sv,.int .i64 i,.map (some wr.heap.size)] 95)=W2 at *;have hfn:=field_new (k:=i) (sv:=sv) h.ge hmn hbn (by omega);have hlen:(List.replicate i FD.zero).length=i:=List.length_replicate;have hsn:=h2.snoc hB2 (x:=FD.zero) (b:=wr.heap.size+1) (by rw[hlen];exact hfn) (fun g hg=>by rcases hg with rfl | rfl <;> omega);rw[hlen,←List.replicate_succ'] at hsn;have hgl:=(h1.lt gf rfl).2;have hown:=own_below h1 hB2;have hl:=h1.1;rw[List.length_append,ptrsL_len] at hl
 obtain ⟨z,zs',rfl⟩:∃z zs',zs=z::zs':=by cases zs with
  | nil=>simp at hl;omega
  | cons z zs'=>exact ⟨z,zs',rfl⟩
 obtain ⟨a0,g0⟩:=hown.stored i (.pointer (some ⟨wr.heap.size+1,0,none⟩));have hbw:Below w.heap.size w W2:=h.bel.trans (hB2.mono h.bel.size);refine ⟨hbw.setCell hgfw _,(h.bx.below hB2 h.bx.lt).far (p:=⟨gf,i,none⟩) ?_ _,(h.mem.below hB2 h.mem.lt).far (p:=⟨gf,i,none⟩) ?_ _,⟨_,_,zs',?_,hsn.keep fun g hg=>Below.heap_setCell W2 ⟨gf,i,none⟩ _ g ?_⟩,Nat.le_trans h.ge (Nat.le_trans hB2.size g0.size)⟩
 ·intro e;exact own_blk_ne h1 h.bx (by decide) (by rw[e];rfl)
 ·intro e;exact own_blk_ne h1 h.mem (by decide) (by rw[e];rfl)
 ·have e1:ptrsL (fun k=>if k=i then wr.heap.size+1 else fb k) (i+1)=ptrsL fb i++[.pointer (some ⟨wr.heap.size+1,0,none⟩)]:=by
   unfold ptrsL;rw[List.range_succ,List.map_append];congr 1
   ·exact List.map_congr_left fun k hk=>by dsimp only;rw[if_neg (by have:=List.mem_range.1 hk;omega)]
   ·simp
  rw[e1,List.append_assoc]
  have e2:(ptrsL fb i++z::zs').set i (.pointer (some ⟨wr.heap.size+1,0,none⟩))=ptrsL fb i++(.pointer (some ⟨wr.heap.size+1,0,none⟩))::zs':=(by rw[List.set_append_right _ _ (by rw[ptrsL_len];omega),ptrsL_len,Nat.sub_self];rfl)
  rw[e2] at a0;simpa using a0
 ·rintro rfl;have:=(hsn.lt hg).1;omega
structure LoopK (w:World) (box gm gf Bf:Nat) (sv:Value) (n:Nat) (fb:Nat→Nat) (xs:List FD) (its1 its2:List IT) (vq vd:Value) (bM:List Nat) (Fs:Nat→Nat→Prop) (wr:World):Prop where
 bel:Below w.heap.size w wr
 bx:Blk wr box 24 #[sv]
 row:wr.ownsRow w.heap.size 92 1 (.slice (some ⟨gf,0,none⟩) n n) n (ptrsL fb n)
 flds:FieldsAt wr Bf sv xs fb Fs
 mem:MemK wr w.heap.size gm its1 its2 vq vd bM
 off:∀g∈bM,¬UF xs.length Fs g
 offb:box∉bM∧gf∉bM
 memge:∀g∈bM,w.heap.size≤g
 low:box<Bf∧gf<Bf∧w.heap.size≤Bf
 len:xs.length=n
section
variable {w wr w2:World} {box gm gf Bf:Nat} {sv:Value} {n:Nat} {fb:Nat→Nat} {xs:List FD} {its1 its2 its1' its2':List IT} {vq vd vq' vd':Value} {bM bM':List Nat} {Fs:Nat→Nat→Prop}
theorem LoopK.below (h:LoopK w box gm gf Bf sv n fb xs its1 its2 vq vd bM Fs wr) (hb:Below wr.heap.size wr w2):LoopK w box gm gf Bf sv n fb xs its1 its2 vq vd bM Fs w2:=
 ⟨h.bel.trans (hb.mono h.bel.size),h.bx.below hb h.bx.lt,own_below h.row hb,h.flds.below hb,h.mem.below hb,h.off,h.offb,h.memge,h.low,h.len⟩
theorem LoopK.memStep (h:LoopK w box gm gf Bf sv n fb xs its1 its2 vq vd bM Fs wr) (hb:But (fun g=>g∈bM) wr w2) (hm:MemK w2 w.heap.size gm its1' its2' vq' vd' bM') (hs:∀g∈bM',g∈bM∨wr.heap.size≤g):LoopK w box gm gf Bf sv n fb xs its1' its2' vq' vd' bM' Fs w2:=by
 have hbw:=h.bel.size;have hgl:=(h.row.lt gf rfl).2;refine ⟨h.bel.trans (hb.below hbw fun g hg hm=>by have:=h.memge g hm;omega),hb.blk h.bx h.offb.1,own_stay h.row fun g e=>hb.block g (h.row.lt g e).2 (by rw[←Option.some.inj e];exact h.offb.2),h.flds.keep fun g hg=>hb.block g (h.flds.lt hg).2 fun hm=>h.off g hm hg,hm,fun g hg hu=>?_,⟨fun hg=>?_,fun hg=>?_⟩,fun g hg=>?_,h.low,h.len⟩
 ·rcases hs g hg with h1 | h1
  ·exact h.off g h1 hu
  ·have:=(h.flds.lt hu).2;omega
 ·rcases hs _ hg with h1 | h1
  ·exact h.offb.1 h1
  ·have:=h.bx.lt;omega
 ·rcases hs _ hg with h1 | h1
  ·exact h.offb.2 h1
  ·omega
 ·rcases hs g hg with h1 | h1
  ·exact h.memge g h1
  ·omega
theorem LoopK.memStepN {N:Nat} (h:LoopK w box gm gf Bf sv n fb xs its1 its2 vq vd bM Fs wr) (hb:But (fun g=>g∈bM) wr w2) (hm:MemK w2 w.heap.size gm its1' its2' vq' vd' bM') (hs:∀g∈bM',g∈bM∨N≤g) (hN:∀{g},UF xs.length Fs g→g<N) (hbox:box<N) (hgfN:gf<N) (hNw:w.heap.size≤N):LoopK w box gm gf Bf sv n fb xs its1' its2' vq' vd' bM' Fs w2:=by
 have hbw:=h.bel.size;refine ⟨h.bel.trans (hb.below hbw fun g hg hm=>by have:=h.memge g hm;omega),hb.blk h.bx h.offb.1,own_stay h.row fun g e=>hb.block g (h.row.lt g e).2 (by rw[←Option.some.inj e];exact h.offb.2),h.flds.keep fun g hg=>hb.block g (h.flds.lt hg).2 fun hm=>h.off g hm hg,hm,fun g hg hu=>?_,⟨fun hg=>?_,fun hg=>?_⟩,fun g hg=>?_,h.low,h.len⟩
 ·rcases hs g hg with h1 | h1
  ·exact h.off g h1 hu
  ·have:=hN hu;omega
 ·rcases hs _ hg with h1 | h1
  ·exact h.offb.1 h1
  ·omega
 ·rcases hs _ hg with h1 | h1
  ·exact h.offb.2 h1
  ·omega
 ·rcases hs g hg with h1 | h1
  ·exact h.memge g h1
  ·omega
theorem LoopK.fieldStep (h:LoopK w box gm gf Bf sv n fb xs its1 its2 vq vd bM Fs wr) {k:Nat} (hk:k<n) {x':FD} {e:Ending} (hr:FieldRet wr Bf (fb k) k sv x' (Fs k) e w2) :
 ∃Fs',LoopK w box gm gf Bf sv n fb (xs.set k x') its1 its2 vq vd bM Fs' w2∧(∀g,UF n Fs' g→UF n Fs g∨wr.heap.size≤g):=by
 have hk':k<xs.length:=by rw[h.len];exact hk
 obtain ⟨Fs',h1,h2⟩:=h.flds.step hk' hr;have hb:=hr.2.1
 have hu:∀g,Fs k g→UF xs.length Fs g:=fun g hg=>⟨k,hk',hg⟩
 have hnb:∀g,g<Bf→¬Fs k g:=fun g hg hf=>by have:=(h.flds.lt (hu g hf)).1;omega
 have hl:=h.low;refine ⟨Fs',⟨h.bel.trans (hb.below h.bel.size fun g hg=>hnb g (by omega)),hb.blk h.bx (hnb _ hl.1),own_stay h.row fun g e=>hb.block g (h.row.lt g e).2 (hnb g (by rw[←Option.some.inj e];exact hl.2.1)),h1,h.mem.keep fun g hg=>hb.block g (h.mem.lt g hg) fun hf=>h.off g hg (hu g hf),fun g hg hf=>?_,h.offb,h.memge,h.low,by rw[List.length_set];exact h.len⟩,fun g hg=>?_⟩
 ·rw[List.length_set] at hf;rcases h2 g hf with h3 | h3
  ·exact h.off g hg h3
  ·have:=h.mem.lt g hg;omega
 ·rw[h.len] at h2;exact h2 g hg
theorem LoopK.ptr (h:LoopK w box gm gf Bf sv n fb xs its1 its2 vq vd bM Fs wr) {k:Nat} (hk:k<n):wr.cell? ⟨gf,k,none⟩=some (.pointer (some ⟨fb k,0,none⟩)):=by
 obtain ⟨g,e,_,_,hc⟩:=own_cell h.row hk;obtain rfl:gf=g:=by injection e with e;injection e
 exact hc k _ (ptrsL_get fb hk)
end
theorem LoopK.fin {w wr:World} {box gm gf Bf:Nat} {sv:Value} {n:Nat} {fb:Nat→Nat} {xs:List FD} {its:List IT} {vq vd:Value} {bM:List Nat} {Fs:Nat→Nat→Prop} (h:LoopK w box gm gf Bf sv n fb xs its its vq vd bM Fs wr):FinK w wr gm gf Bf sv n fb xs its vq vd Fs 0 (.slice none 0 0) wr:=by
 obtain ⟨vs,bN,d1,d2,d3,d4,hbm⟩:=h.mem.docs;have hm:=h.mem.mem_m;exact ⟨h.bel,Nat.le_refl _,h.mem.self,h.row,h.mem.seqs,⟨vs,bN,d1,d2,d3,d4⟩,fun j x _ hx=>h.flds.each j x hx,fun i j g hi hj=>h.flds.apart i j g (by rw[h.len];exact hi) (by rw[h.len];exact hj),fun g hg=>h.flds.lt (by rw[h.len];exact hg),⟨[],[],[],[],World.ownsRow_nil _ _ _ _,by simpa using SubF.nil,List.nodup_nil,List.nodup_nil,List.nodup_nil,fun g hg=>by simp at hg⟩,h.len,fun hu=>h.off gm hm (by rw[h.len];exact hu),⟨h.low.2.2,h.bel.size,h.memge gm hm⟩⟩
theorem FinK.ptr {w Wf wr:World} {gm gf Bf:Nat} {sv:Value} {n:Nat} {fb:Nat→Nat} {xs:List FD} {its:List IT} {vq vd:Value} {Fs:Nat→Nat→Prop} {i:Nat} {vf:Value} (h:FinK w Wf gm gf Bf sv n fb xs its vq vd Fs i vf wr) {k:Nat} (hk:k<n):wr.cell? ⟨gf,k,none⟩=some (.pointer (some ⟨fb k,0,none⟩)):=by
 obtain ⟨g,e,_,_,hc⟩:=own_cell h.row hk;obtain rfl:gf=g:=by injection e with e;injection e
 exact hc k _ (ptrsL_get fb hk)
theorem LoopK.start {w wr:World} {box gm gf Bf:Nat} {sv:Value} {n:Nat} (h:MadeF w box gm gf n Bf sv n wr) (h1:box<Bf) (h2:gf<Bf) (h3:w.heap.size≤Bf) (h4:gm<Bf) (h5:w.heap.size≤gm) (h6:box≠gm) (h7:gf≠gm) :
 ∃fb Fs,LoopK w box gm gf Bf sv n fb (List.replicate n FD.zero) [] [] (.slice none 0 0) (.slice none 0 0) [gm] Fs wr:=by
 obtain ⟨fb,Fs,zs,hr,hf⟩:=h.ex;have hl:=hr.1;rw[List.length_append,ptrsL_len] at hl;obtain rfl:zs=[]:=List.eq_nil_of_length_eq_zero (by omega);rw[List.append_nil] at hr;refine ⟨fb,Fs,h.bel,h.bx,hr,hf,⟨h.mem,World.ownsRow_nil _ _ _ _,[],[],World.ownsRow_nil _ _ _ _,.nil,List.nodup_nil,List.nodup_nil,rfl⟩,fun g hg hu=>?_,⟨by simpa using h6,by simpa using h7⟩,fun g hg=>by simp at hg;omega,⟨h1,h2,h3⟩,List.length_replicate⟩;simp at hg;subst hg;have:=(hf.lt hu).1;omega
set_option maxRecDepth 100000 in
set_option maxHeartbeats 16000000 in
theorem build_any (w:World) (sv iv:Value) (l:List FT) (its:List IT) (hu:T.At bare w (fun g=>g<w.heap.size) (fieldsT l) sv) (hl:l.length*72≤140737488351232) (hf:∀f∈l,FOk f) (hx:T.At bare w (fun g=>g<w.heap.size) (itemsT its) iv) (hi:its.length≤1099511627776) (hit:∀it∈its,ItOk it) (hT:FoldNext.Tabs w) (hO:OrdLib.OTabs w) :
 Calls Tryz.prog 12 #[.agg #[sv],iv] w (BuildRet its (buildD toksF cellsO l its) w):=by
 obtain ⟨A,cap,rfl,hcap,hcm,_⟩:=at_row icells_len hx;obtain ⟨SA,scap,rfl,hscap,hscm,_⟩:=at_row fcells_len hu;have HU:=hX hu;have HX:=hX hx;have HF:=hX hf;have HIT:=hX hit;have HTT:=hX hT;have HOT:=hX hO;have hbA:Below w.heap.size w (w.alloc (.cells #[.slice SA l.length scap] 24)):=(Below.refl _ _).alloc (Nat.le_refl _) _;have HRI:=hX (right_any (w.alloc (.cells #[.slice SA l.length scap] 24)) _ _ l its (At.below hu hbA (fun g hg=>Nat.lt_of_lt_of_le hg hbA.size)) hl hf (At.below hx hbA (fun g hg=>Nat.lt_of_lt_of_le hg hbA.size)) hi);have HBX0:=hX (Blk.new w 24 #[.slice SA l.length scap]);have HBA:=hX hbA;clear hu hx hf hit hT hO hcap hscap hbA;by_cases hz:rightD l its=0
 ·obtain ⟨hck,hlen⟩:=right_zero hz;have HCK:=hX hck;have HLEN:=hX hlen;have hl16:=checkS_len hck;have HBD:=hX (buildD_ok hz);rw[hz] at HRI;clear hz hck;have bx:=HBX0.out.cell 0;go_enter Tryz.func12,Tryz.ntmps12;go_wp2_with fail;refine HRI.out.mono ?_;clear HRI;rintro e W1 ⟨rfl,hb1⟩;have HB1:Hid (Below w.heap.size w W1):=hX (HBA.out.trans (hb1.mono HBA.out.size));have HBX1:Hid (Blk W1 w.heap.size 24 #[.slice SA l.length scap]):=hX (HBX0.out.below hb1 HBX0.out.lt);have hw1:w.heap.size<W1.heap.size:=HBX1.out.lt;clear hb1 bx;obtain ⟨i0,hi1,hz0,hz1,hz2⟩:=info_parts infoPtr;have hmk:∀V:World,(Instr.makeSlice 91 (.int .i64 (l.length:Int)) (.int .i64 (l.length:Int))).run Tryz.prog V = .ok (.slice (some ⟨V.heap.size,0,none⟩) l.length l.length) (V.alloc (.cells (madeCells #[.pointer none] (l.length*1)) 92)):=fun V=>by have:=run_make (P:=Tryz.prog) V 91 92 i0 _ Tryz.underlying91 hi1 hz0 .i64 .i64 (l.length:Int) (l.length:Int) (by omega) (Int.le_refl _) (by rw[hz2];omega) (by omega);rw[hz1,show (Value.pointer none).cells=#[.pointer none] from rfl] at this;simpa using this
  obtain ⟨zs0,hzs0⟩:∃z,z=madeCells #[.pointer none] (l.length*1):=⟨_,rfl⟩
  have HSZ:Hid (zs0.size=l.length*1):=hX (by rw[hzs0];exact size_madeCells _ _);rw[←hzs0] at hmk;clear hzs0 hi1 hz0 hz1 hz2;have bx:=HBX1.out.cell 0;have h1:(0:Int)≤(l.length:Int):=by omega
  go_upto_region 7 with fail;have HBM:=hX (Blk.new W1 47 #[.slice none 0 0,.slice none 0 0,.slice none 0 0]);have hz2:(W1.alloc (.cells #[.slice none 0 0,.slice none 0 0,.slice none 0 0] 47)).heap.size=W1.heap.size+1:=by simp
  have hb2:Below W1.heap.size W1 (W1.alloc (.cells #[.slice none 0 0,.slice none 0 0,.slice none 0 0] 47)):=(Below.refl _ _).alloc (Nat.le_refl _) _;have HBX2:=hX (HBX1.out.below hb2 HBX1.out.lt);have HB2:=hX (HB1.out.trans (hb2.mono HB1.out.size))
  have HRO:Hid (((W1.alloc (.cells #[.slice none 0 0,.slice none 0 0,.slice none 0 0] 47)).alloc (.cells zs0 92)).ownsRow w.heap.size 92 1 (.slice (some ⟨W1.heap.size+1,0,none⟩) l.length l.length) l.length zs0.toList):=hX (by
   have:=World.ownsRow_lit (W1.alloc (.cells #[.slice none 0 0,.slice none 0 0,.slice none 0 0] 47)) (e:=92) zs0 l.length HB2.out.size (by unfold maxLen;omega) HSZ.out
   rwa [hz2] at this)
  generalize hgm:W1.heap.size=gm at *;generalize W1.alloc (.cells #[.slice none 0 0,.slice none 0 0,.slice none 0 0] 47)=W2 at *;have HMF:Hid (MadeF w w.heap.size gm (gm+1) l.length (gm+2) (.slice SA l.length scap) 0 (W2.alloc (.cells zs0 92))):=hX ⟨HB2.out.alloc HB2.out.size _,HBX2.out.alloc _,HBM.out.alloc _,⟨fun _=>0,fun _ _=>False,zs0.toList,by simpa [ptrsL] using HRO.out,FieldsAt.nil_⟩,by simp[hz2]⟩;clear hz2 hb2 HBM HBX2 HB2 HRO hmk HSZ HBX1 HB1 bx;generalize W2.alloc (.cells zs0 92)=W3 at *;clear hgm;have hq1:gm<gm+1:=by omega
  have hq2:gm+1<gm+2:=by omega
  generalize gm+1=gf at *;generalize gm+2=Bf at *;go_loopg [9,32] l.length (fun m _ v wr=>∃i:Nat,v = .int .i64 i∧i≤l.length∧m=l.length - i∧Hid (MadeF w w.heap.size gm gf l.length Bf (.slice SA l.length scap) i wr))
  case atStart=>exact ⟨0,rfl,Nat.zero_le _,rfl,HMF⟩
  case round=>
   clear HMF;obtain ⟨i,rfl,hi,rfl,HMF⟩:=hrel;by_cases hlt:i<l.length
   ·have hm2:=HMF.out.step hlt (by omega) (by omega);obtain ⟨hgl,⟨u,hcu⟩,hfz,hbx⟩:=HMF.out.at hlt;have hgl2:gf<wr.heap.size+1:=by omega
    rw[World.setCell_alloc_past _ _ _ _ (by simp;omega),World.setCell_alloc_past _ _ _ _ hgl] at hm2;have HM2:=hX hm2;clear hm2;have HLT:Hid (i<l.length):=hX hlt;have h4:(0:Int)≤(i:Int):=by omega
    have h5:(i:Int)<(l.length:Int):=by omega
    have hmm:=@run_makeMap Tryz.prog;go_wp2_with fail;go_roundg (l.length - (i+1))
    case measure=>have:=HLT.out;omega
    case rel=>exact ⟨i+1,by go_num,by have:=HLT.out;omega,rfl,HM2⟩
   ·obtain rfl:i=l.length:=by omega
    clear hlt;obtain ⟨fb,Fs,hlk⟩:=LoopK.start HMF.out (by omega) (by omega) (by omega) (by omega) (by omega) (by omega) (by omega);have HLK:=hX hlk;have HFW:Hid (∀x∈List.replicate l.length FD.zero,FewD 0 x):=hX (fun x hx=>by rw[List.eq_of_mem_replicate hx];exact FewD.zero);have HG:Hid (goD toksF cellsO l 0 (List.replicate l.length FD.zero) (its.drop 0)=buildD toksF cellsO l its):=hX (by rw[HBD.out];rfl);have HQ1:Hid (gm<gf):=hX hq1;have HQ2:Hid (gf<Bf):=hX hq2;clear hlk HMF h1;generalize List.replicate l.length FD.zero=xs0 at *
    obtain ⟨W4,rfl⟩:∃W:World,W=wr:=⟨_,rfl⟩
    go_upto_region 12 with fail;go_loopg [10,11,12,13,14,15,46,86] its.length (fun m _ _ _ _ _ _ v _ wr=>∃(d:Nat) (xs:List FD) (vq vd:Value) (bM:List Nat) (Fs:Nat→Nat→Prop),v = .int .i64 d∧d≤its.length∧m=its.length - d∧Hid (LoopK w w.heap.size gm gf Bf (.slice SA l.length scap) l.length fb xs (its.take d) (its.take d) vq vd bM Fs wr)∧Hid (∀x∈xs,FewD d x)∧Hid (goD toksF cellsO l d xs (its.drop d)=buildD toksF cellsO l its))
    case atStart=>exact ⟨0,xs0,_,_,_,Fs,rfl,Nat.zero_le _,rfl,HLK,HFW,HG⟩
    case round=>
     clear HLK HFW HG;obtain ⟨d,xs,vq,vd,bM,Fs,rfl,hd,rfl,HLK,HFW,HG⟩:=hrel;by_cases hlt:d<its.length
     ·obtain ⟨ad,A3,c3,rfl,c0,c1,hrw,hnt⟩:=item_at HX.out HLK.out.bel hlt;have hok:=HIT.out _ (List.getElem_mem hlt);have HOK:=hX hok;have HNT:=hX hnt;have HLKW:=hX HLK.out.bel;have HLT:Hid (d<its.length):=hX hlt;have HTK:Hid (its.take (d+1)=its.take d++[its[d]]):=hX (take_snocC hlt);have HGE:Hid (∀n,cellsF decO runO l its[d].doc = .error n→buildD toksF cellsO l its = .error n):=hX (fun n hn=>by rw[←HG.out];exact goD_err hlt hn);have HGO:Hid (∀cs,cellsF decO runO l its[d].doc = .ok cs→goD toksF cellsO l (d+1) (docD toksF l d cs xs) (its.drop (d+1))=buildD toksF cellsO l its):=hX (fun cs hn=>by rw[←HG.out];exact (goD_ok hlt hn).symm);have h4:(0:Int)≤(d:Int):=by omega
      have h5:(d:Int)<(its.length:Int):=by omega
      clear hnt hok HG;generalize its[d]=it at *;obtain ⟨sq,dc⟩:=it;dsimp only at *;go_upto_region 14 with fail;have HBT:=hX (Blk.new wr 70 #[.int .u64 sq,.slice A3 dc.length c3]);have hb5:Below wr.heap.size wr (wr.alloc (.cells #[.int .u64 sq,.slice A3 dc.length c3] 70)):=(Below.refl _ _).alloc (Nat.le_refl _) _;have HLK5:=hX (HLK.out.below hb5);have hxn:∀g∈bM,g≠wr.heap.size:=fun g hg=>by have:=HLK.out.mem.lt g hg;omega
      have HXN:=hX hxn;have HCELL:Hid (∀p:Addr,p.block<w.heap.size→(wr.alloc (.cells #[.int .u64 sq,.slice A3 dc.length c3] 70)).cell? p=wr.cell? p):=hX (fun p hp=>hb5.cell (Nat.lt_of_lt_of_le hp HLK.out.bel.size));have HXW:Hid (w.heap.size≤wr.heap.size):=hX HLK.out.bel.size;clear c0 c1 hrw hb5 hxn HLK;generalize wr.alloc (.cells #[.int .u64 sq,.slice A3 dc.length c3] 70)=W5 at *;generalize wr.heap.size=xb at *;have HCE:Hid (Calls Tryz.prog 37 #[.agg #[.slice SA l.length scap],.agg #[.slice A3 dc.length c3]] W5 (CellsRetS (cellsF decO runO l dc) W5)):=hX ((cells_any (.slice SA l.length scap) (.slice A3 dc.length c3) l dc W5 (At.below HU.out HLK5.out.bel (fun g hg=>Nat.lt_of_lt_of_le hg HLK5.out.bel.size)) hl HF.out (At.keep (fun p hp=>by have h1:=HNT.out;exact HCELL.out p hp) (fun g hg=>Nat.lt_of_lt_of_le hg HLK5.out.bel.size) HNT.out) HOK.out.len HOK.out.ok HOK.out.text (HTT.out.next HLK5.out.bel) (HOT.out.next HLK5.out.bel)).mono fun e w' h=>cells_ret h);have bx:=HLK5.out.bx.cell 0;have t1:=HBT.out.cell 1
      obtain ⟨r,hr⟩:∃r,cellsF decO runO l dc=r:=⟨_,rfl⟩
      rw[hr] at HCE
      cases r with
      | error n=>
       have HEE:Hid (buildD toksF cellsO l its = .error n):=hX (HGE.out n hr);have hnz:=cellsF_errB hr;have hne:((n:Int) == 0)=false:=by simpa using hnz
       have hne2:((n:Int) != 0)=true:=by simpa using hnz
       clear hr hnz HGE HGO;go_wp2_with fail;refine HCE.out.mono ?_;clear HCE;rintro e W6 ⟨hb6,rfl⟩;have HB6:=hX hb6;clear hb6;go_wp2_with fail;go_ret2;exact ⟨HLK5.out.bel.trans (HB6.out.mono HLK5.out.bel.size),by rw[HEE.out];rfl⟩
      | ok cs=>
       have HEO:=hX (HGO.out cs hr);have HCF:=hX (fun k=>cellsFor hl HOK.out.ok hr k);have HCL:=hX (cellsF_ok hl HOK.out.ok hr);clear hr HGE HGO;go_wp2_with fail;refine HCE.out.mono ?_;clear HCE;rintro e V0 ⟨hb6,CA,ccap,rfl,hct⟩;have HLV:=hX (HLK5.out.below hb6);have HXB:=hX (HBT.out.below hb6 HBT.out.lt);have HXL:Hid (xb<W5.heap.size):=hX HBT.out.lt;have HCT:=hX hct;have HB6:=hX hb6;clear hb6 hct bx t1 HBT
       obtain ⟨svs,hqo⟩:∃svs,svs=(its.take d).map fun it:IT=>Value.int .u64 it.seq:=⟨_,rfl⟩
       have hqown:V0.ownsRow w.heap.size 68 1 vq (its.take d).length svs:=by rw[hqo];exact HLV.out.mem.seqs
       have hdl:(its.take d).length=d:=by rw[List.length_take];have:=HLT.out;omega
       rw[hdl] at hqown;have HQO:=hX hqown;have HSV:=hX hqo;have HDL:=hX hdl;have cq:V0.cell? ⟨gm,0,none⟩=some vq:=HLV.out.mem.self.cell 0;have hgm0:gm<V0.heap.size:=HLV.out.mem.self.lt;have hqN:¬vq.ownBlock=some gm:=fun e=>own_blk_ne hqown HLV.out.mem.self (by decide) e;have cx0:V0.cell? ⟨xb,0,none⟩=some (.int .u64 sq):=HXB.out.cell 0;have hxb0:xb<V0.heap.size:=HXB.out.lt;have hqX:¬vq.ownBlock=some xb:=fun e=>own_blk_ne hqown HXB.out (by decide) e;have hlen2:d≤16384:=by have:=HLEN.out;have:=HLT.out;omega
       clear hqo hqown hdl;go_upto_region 17 with fail;refine HeldU.wp_region_until #[true,true,true,true,true,true,true,true,true,false,false,false] (fun V=>But (fun g=>vq.ownBlock=some g) V0 V) (by kernel_rfl) (But.of_below ((Below.refl _ _).drew)) (fun hSq0=>?_);refine' HeldU.tkU 0 (by simp only[tkD,tkE,tkG];rfl) (by kernel_rfl) (by exact fun _ _ _ h=>h) (by rfl) hSq0 (by intro V hSw;clear hSw;go_simp;try with_reducible rfl) ?_;try simp only[Act.put,tkA,tkB,tkC]
       refine' HeldU.tkU 1 (by simp only[tkD,tkE,tkG];rfl) (by kernel_rfl) (by exact fun _ _ _ h=>h) (by rfl) hSq0 (by intro V hSw;clear hSw;go_simp;try with_reducible rfl) ?_;try simp only[Act.put,tkA,tkB,tkC]
       refine' HeldU.tkU 2 (by simp only[tkD,tkE,tkG];rfl) (by kernel_rfl) (by exact fun _ _ _ h=>h) (by rfl) hSq0 (by intro V hSw;clear hSw;go_simp;try with_reducible rfl) ?_;try simp only[Act.put,tkA,tkB,tkC]
       refine' HeldU.tkU 3 (by simp only[tkD,tkE,tkG];rfl) (by kernel_rfl) (by exact fun _ _ _ h=>h) (by rfl) hSq0 (by intro V hSw;clear hSw;go_simp;try with_reducible rfl) ?_;try simp only[Act.put,tkA,tkB,tkC]
       refine' HeldU.tkU 4 (by simp only[tkD,tkE,tkG];rfl) (by kernel_rfl) (by exact fun _ _ _ h=>h) (by rfl) hSq0 (by intro V hSw;have c4v:=(hSw.cell hgm0 hqN).trans cq;clear hSw;go_simp;try with_reducible rfl) ?_;try simp only[Act.put,tkA,tkB,tkC]
       refine' HeldU.tkU 5 (by simp only[tkD,tkE,tkG];rfl) (by kernel_rfl) (by exact fun _ _ _ h=>h) (by rfl) hSq0 (by intro V hSw;clear hSw;go_simp;try with_reducible rfl) ?_;try simp only[Act.put,tkA,tkB,tkC]
       refine' HeldU.tkU 6 (by simp only[tkD,tkE,tkG];rfl) (by kernel_rfl) (by exact fun _ _ _ h=>h) (by rfl) hSq0 (by intro V hSw;have c6v:=(hSw.cell hxb0 hqX).trans cx0;clear hSw;go_simp;try with_reducible rfl) ?_;try simp only[Act.put,tkA,tkB,tkC]
       refine' HeldU.wpAnyU_one (i:=7) (by kernel_rfl) (by kernel_rfl) (by simp only[tkD,tkE,tkG];rfl) (fun K hK=>?_);go_simp;refine hK.out _ _ ((hSq0).alloc _) (fun hSq1=>?_);clear hK K;try simp only[Act.put,tkA,tkB,tkC]
       refine' HeldU.wpAnyU_one (i:=8) (by kernel_rfl) (by kernel_rfl) (by simp only[tkD,tkE,tkG];rfl) (fun K hK=>?_);obtain ⟨j0,hj1,hj2,hj3,hj4⟩:=info_parts infoU;have hA1:Below V0.heap.size V0 (V0.alloc (.cells #[.int .u64 sq] 68)).drew:=((Below.refl _ _).alloc (Nat.le_refl _) _).drew;have hownA:=own_below HQO.out hA1;have HA1:=hX hA1;refine step_append_any _ rfl (.tmp 65) (.tmp 68) 43 rfl w.heap.size 68 j0 (.int .u64 0) 1 8 Tryz.underlying43 hj1 hj2 hj3 hj4 rfl (by decide) _ _ _ rfl hownA (V0.heap.size+1) (some ⟨V0.heap.size,0,none⟩) 1 1 [.int .u64 sq] rfl ?e1 ?e2 ?e3 ?e4 ?e5 ?_;case e1=>exact ⟨rfl,fun _=>⟨_,rfl,Nat.lt_succ_self _,World.news_of_block (Blk.new V0 _ _).drew⟩⟩
       case e2=>intro u hu;simp only[List.mem_cons,List.not_mem_nil,or_false] at hu;rcases hu with rfl;rfl
       case e3=>unfold maxLen;omega
       case e4=>omega
       case e5=>exact Nat.le_trans HLV.out.bel.size hA1.size
       intro v' W8 ho hg hat;obtain ⟨aq',cq',rfl⟩:=own_slm ho;replace hg:(V0.alloc (.cells #[.int .u64 sq] 68)).drew.grownBy W8 vq.ownBlock:=hg;have hgw:V0.grownBy W8 vq.ownBlock:=(only_of_below hA1 vq.ownBlock).trans hg;have hmq:=HLV.out.mem.stepQ (it:=⟨sq,dc⟩) hgw (by rw[HDL.out,←HSV.out];exact ho) (hat.imp id fun e=>⟨_,e,by simp⟩);have hb8:=HLV.out.mem.self.grown hgw (fun e=>hqN e.symm);have q0:W8.cell? ⟨gm,0,none⟩=some vq:=hb8.cell 0;have qz:W8.frozen? ⟨gm,0,none⟩=false:=hb8.frozen 0;have HMQ:=hX hmq;have HGQ:=hX hgw;refine hK.out _ _ ((hSq1).trans (But.grown hg fun r e=>e)) (fun hSq9=>?_);clear hK K ho hg hat hA1 hownA hgw hb8 hmq;try simp only[Act.put,tkA,tkB,tkC]
       refine HeldU.wpAnyU_off (by kernel_rfl) ?_;refine' tk 9 (by simp only[tkD,tkE,tkG];rfl) (by kernel_rfl) (by exact fun _ _ _ h=>h) (by rfl) trivial (by intro V hSw;clear hSw;go_simp;try with_reducible rfl) ?_;try simp only[Act.put,tkA,tkB,tkC]
       refine' tk 10 (by simp only[tkD,tkE,tkG];rfl) (by kernel_rfl) (by exact fun _ _ _ h=>h) (by rfl) trivial (by intro V hSw;clear hSw;go_simp;try with_reducible rfl) ?_;try simp only[Act.put,tkA,tkB,tkC]
       refine wpAnyH_ready (rs:=[11]) (by kernel_rfl) (by simp) ?_;refine' AllReadyH.cons (by simp only[tkD,tkE,tkG];rfl) (fun K hK=>?_) AllReadyH.nil;go_simp;refine hK.out _ _ trivial (fun _=>?_);clear hK K;try simp only[Act.put,tkA,tkB,tkC]
       refine wpAnyH_done (by kernel_rfl) ?_ _;go_upto_region 18 with fail;clear cq hgm0 hqN cx0 hxb0 hqX q0 qz;obtain ⟨bM1,hm1,hs1⟩:=HMQ.out;have hb1:But (fun g=>g∈bM) V0 (W8.setCell ⟨gm,0,none⟩ (.slice aq' (d+1) cq')):=(But.grown HGQ.out (fun r e=>HLV.out.mem.mem_q e)).set (.inl HLV.out.mem.mem_m) _;have HLK1:=hX (HLV.out.memStep hb1 hm1 hs1);have HXB1:=hX (hb1.blk HXB.out (fun hg=>HXN.out xb hg rfl));have HXN1:Hid (xb∉bM1):=hX (fun hg=>(hs1 xb hg).elim (fun h=>HXN.out xb h rfl) (fun h=>by have:=HXB.out.lt;omega));have HCT1:Hid (T.At bare (W8.setCell ⟨gm,0,none⟩ (.slice aq' (d+1) cq')) (fun g=>W5.heap.size≤g∧g<V0.heap.size) (cellsT cs) (.slice CA cs.length ccap)):=hX (At.keep (fun p hp=>hb1.cell hp.2.lt (fun hg=>by have:=HLK5.out.mem.lt _ hg;have:=hp.1;omega)) (fun g hg=>⟨hg.1,hg.2.lt⟩) HCT.out);have HNTW:Hid (T.At bare w (fun g=>g<w.heap.size) (entriesT dc) (.slice A3 dc.length c3)):=hX (At.keep (fun p hp=>(HLKW.out.cell hp).symm) (fun g hg=>hg) HNT.out);have HVZ:Hid (V0.heap.size≤(W8.setCell ⟨gm,0,none⟩ (.slice aq' (d+1) cq')).heap.size):=hX hb1.size;have HBMV:Hid (∀g∈bM1,g<W5.heap.size∨V0.heap.size≤g):=hX (fun g hg=>(hs1 g hg).imp (fun h=>HLK5.out.mem.lt g h) id);clear hm1 hs1 hb1 HMQ HGQ HLV HXB HCT HQO;generalize W8.setCell ⟨gm,0,none⟩ (.slice aq' (d+1) cq')=V2 at *;have cd1:V2.cell? ⟨gm,1,none⟩=some vd:=HLK1.out.mem.self.cell 1;have hgm2:gm<V2.heap.size:=HLK1.out.mem.self.lt
       have HDS:Hid (∃vs,V2.ownsRow w.heap.size 67 1 vd (its.take d).length vs):=hX (by obtain ⟨vs,bN,h1,_⟩:=HLK1.out.mem.docs;exact ⟨vs,h1⟩);have hdN:¬vd.ownBlock=some gm:=fun e=>by obtain ⟨vs,h1⟩:=HDS.out;exact own_blk_ne h1 HLK1.out.mem.self (by decide) e
       have cx1:V2.cell? ⟨xb,1,none⟩=some (.slice A3 dc.length c3):=HXB1.out.cell 1;have hxb2:xb<V2.heap.size:=HXB1.out.lt;have hdX:¬vd.ownBlock=some xb:=fun e=>by obtain ⟨vs,h1⟩:=HDS.out;exact own_blk_ne h1 HXB1.out (by decide) e
       have HDW:Hid (∀g,vd.ownBlock=some g→w.heap.size≤g):=hX (fun g e=>by obtain ⟨vs,h1⟩:=HDS.out;exact (h1.lt g e).1);have HCOP:=hX (fun (V:World) (hV:But (fun g=>vd.ownBlock=some g) V2 V)=>copied_any V (.slice A3 dc.length c3) dc (At.below HNTW.out (HLK1.out.bel.trans (hV.below HLK1.out.bel.size fun g hg hv=>by have:=HDW.out g hv;omega)) (fun g hg=>Nat.lt_of_lt_of_le hg (Nat.le_trans HLK1.out.bel.size hV.size))) HOK.out.len HOK.out.ok);refine HeldU.wp_region_until #[true,true,true,true,true,true,true,true,true,true,false,false,false] (fun V=>But (fun g=>vd.ownBlock=some g) V2 V) (by kernel_rfl) (But.of_below ((Below.refl _ _).drew)) (fun hSd0=>?_);refine' HeldU.tkU 0 (by simp only[tkD,tkE,tkG];rfl) (by kernel_rfl) (by exact fun _ _ _ h=>h) (by rfl) hSd0 (by intro V hSw;clear hSw;go_simp;try with_reducible rfl) ?_;try simp only[Act.put,tkA,tkB,tkC]
       refine' HeldU.tkU 1 (by simp only[tkD,tkE,tkG];rfl) (by kernel_rfl) (by exact fun _ _ _ h=>h) (by rfl) hSd0 (by intro V hSw;clear hSw;go_simp;try with_reducible rfl) ?_;try simp only[Act.put,tkA,tkB,tkC]
       refine' HeldU.tkU 2 (by simp only[tkD,tkE,tkG];rfl) (by kernel_rfl) (by exact fun _ _ _ h=>h) (by rfl) hSd0 (by intro V hSw;clear hSw;go_simp;try with_reducible rfl) ?_;try simp only[Act.put,tkA,tkB,tkC]
       refine' HeldU.tkU 3 (by simp only[tkD,tkE,tkG];rfl) (by kernel_rfl) (by exact fun _ _ _ h=>h) (by rfl) hSd0 (by intro V hSw;clear hSw;go_simp;try with_reducible rfl) ?_;try simp only[Act.put,tkA,tkB,tkC]
       refine' HeldU.tkU 4 (by simp only[tkD,tkE,tkG];rfl) (by kernel_rfl) (by exact fun _ _ _ h=>h) (by rfl) hSd0 (by intro V hSw;have c4v:=(hSw.cell hgm2 hdN).trans cd1;clear hSw;go_simp;try with_reducible rfl) ?_;try simp only[Act.put,tkA,tkB,tkC]
       refine' HeldU.tkU 5 (by simp only[tkD,tkE,tkG];rfl) (by kernel_rfl) (by exact fun _ _ _ h=>h) (by rfl) hSd0 (by intro V hSw;clear hSw;go_simp;try with_reducible rfl) ?_;try simp only[Act.put,tkA,tkB,tkC]
       refine' HeldU.tkU 6 (by simp only[tkD,tkE,tkG];rfl) (by kernel_rfl) (by exact fun _ _ _ h=>h) (by rfl) hSd0 (by intro V hSw;have c6v:=(hSw.cell hxb2 hdX).trans cx1;clear hSw;go_simp;try with_reducible rfl) ?_;try simp only[Act.put,tkA,tkB,tkC]
       refine' HeldU.wpAnyU_one (i:=7) (by kernel_rfl) (by kernel_rfl) (by simp only[tkD,tkE,tkG];rfl) (fun K hK=>?_);go_simp;refine (HCOP.out _ (hSd0)).mono ?_;rintro e Vd1 ⟨ac,cc,cvs,cbs,rfl,hco,hcs,hcn,hbel⟩;have Bd1:=hX (But.trans hSd0 (But.of_below hbel));have HCO:=hX hco;have HCS:=hX hcs;have HCN:=hX hcn;have HBEL:Hid (Below V2.heap.size V2 Vd1):=hX (((Below.refl V2.heap.size V2).drew).trans hbel);clear hco hcs hcn;go_simp;refine hK.out _ _ Bd1.out (fun hSd1=>?_);clear hK K;try simp only[Act.put,tkA,tkB,tkC]
       refine' HeldU.wpAnyU_one (i:=8) (by kernel_rfl) (by kernel_rfl) (by simp only[tkD,tkE,tkG];rfl) (fun K hK=>?_);go_simp;refine hK.out _ _ ((hSd1).alloc _) (fun hSd2=>?_);clear hK K;try simp only[Act.put,tkA,tkB,tkC]
       refine' HeldU.wpAnyU_one (i:=9) (by kernel_rfl) (by kernel_rfl) (by simp only[tkD,tkE,tkG];rfl) (fun K hK=>?_);have hLd:=HLK1.out.below HBEL.out;have hzd:V2.heap.size≤Vd1.heap.size:=HBEL.out.size;have hzw:w.heap.size≤V2.heap.size:=HLK1.out.bel.size
       have hdc:DocC Vd1 w.heap.size dc (.slice ac dc.length cc) cbs:=⟨cvs,(ClipM.of_own HCO.out).from_ hzw,HCS.out.from_ hzw⟩
       obtain ⟨vs,hdo,hst⟩:=hLd.mem.stepD (it:=⟨sq,dc⟩) (N:=V2.heap.size) hdc HCN.out (fun g hg=>hg.elim (fun e=>(HCO.out.lt g e).1) (fun e=>(HCS.out.mem g e).1)) (fun g hg=>HLK1.out.mem.lt g hg);rw[HDL.out] at hdo hst;obtain ⟨j0,hj1,hj2,hj3,hj4⟩:=info_parts infoDoc;have hA1:Below Vd1.heap.size Vd1 (Vd1.alloc (.cells #[.slice ac dc.length cc] 67)):=(Below.refl _ _).alloc (Nat.le_refl _) _;have hownA:=own_below hdo hA1;have HA1:=hX hA1;have HST:=hX hst;have HLD:=hX hLd;clear hst hLd hdc hdo;refine step_append_any _ rfl (.tmp 76) (.tmp 80) 44 rfl w.heap.size 67 j0 (.agg #[.slice none 0 0]) 1 24 Tryz.underlying44 hj1 hj2 hj3 hj4 rfl (by decide) _ _ _ rfl hownA (Vd1.heap.size+1) (some ⟨Vd1.heap.size,0,none⟩) 1 1 [.slice ac dc.length cc] rfl ?e1 ?e2 ?e3 ?e4 ?e5 ?_;case e1=>exact ⟨rfl,fun _=>⟨_,rfl,Nat.lt_succ_self _,World.news_of_block (Blk.new Vd1 _ _)⟩⟩
       case e2=>intro u hu;simp only[List.mem_cons,List.not_mem_nil,or_false] at hu;rcases hu with rfl;rfl
       case e3=>unfold maxLen;omega
       case e4=>omega
       case e5=>exact Nat.le_trans (Nat.le_trans hzw hzd) hA1.size
       intro v' W9 ho hg hat;obtain ⟨ad',cd',rfl⟩:=own_slm ho;replace hg:(Vd1.alloc (.cells #[.slice ac dc.length cc] 67)).grownBy W9 vd.ownBlock:=hg;have hgw:Vd1.grownBy W9 vd.ownBlock:=(only_of_below hA1 vd.ownBlock).trans hg;have hmd:=HST.out _ W9 hgw ho (hat.imp id fun e=>⟨_,e,by simp⟩) hzd;have hb9:=HLD.out.mem.self.grown hgw (fun e=>hdN e.symm);have q1:W9.cell? ⟨gm,1,none⟩=some vd:=hb9.cell 1;have qy:W9.frozen? ⟨gm,1,none⟩=false:=hb9.frozen 1;have HMD:=hX hmd;have HGD:=hX hgw;refine hK.out _ _ ((hSd2).trans (But.grown hg fun r e=>e)) (fun hSd9=>?_);clear hK K ho hg hat hA1 hownA hgw hb9 hmd hzd;try simp only[Act.put,tkA,tkB,tkC]
       refine HeldU.wpAnyU_off (by kernel_rfl) ?_;refine' tk 10 (by simp only[tkD,tkE,tkG];rfl) (by kernel_rfl) (by exact fun _ _ _ h=>h) (by rfl) trivial (by intro V hSw;clear hSw;go_simp;try with_reducible rfl) ?_;try simp only[Act.put,tkA,tkB,tkC]
       refine' tk 11 (by simp only[tkD,tkE,tkG];rfl) (by kernel_rfl) (by exact fun _ _ _ h=>h) (by rfl) trivial (by intro V hSw;clear hSw;go_simp;try with_reducible rfl) ?_;try simp only[Act.put,tkA,tkB,tkC]
       refine wpAnyH_ready (rs:=[12]) (by kernel_rfl) (by simp) ?_;refine' AllReadyH.cons (by simp only[tkD,tkE,tkG];rfl) (fun K hK=>?_) AllReadyH.nil;go_simp;refine hK.out _ _ trivial (fun _=>?_);clear hK K;try simp only[Act.put,tkA,tkB,tkC]
       refine wpAnyH_done (by kernel_rfl) ?_ _;go_upto_region 20 with fail;clear cd1 hgm2 hdN cx1 hxb2 hdX q1 qy;obtain ⟨bM2,hm2,hs2⟩:=HMD.out;have hb2:But (fun g=>g∈bM1) Vd1 (W9.setCell ⟨gm,1,none⟩ (.slice ad' (d+1) cd')):=(But.grown HGD.out (fun r e=>HLD.out.mem.mem_d e)).set (.inl HLD.out.mem.mem_m) _;have hs2':∀g∈bM2,g∈bM1∨V2.heap.size≤g:=hs2;have hlk2:=HLD.out.memStepN hb2 hm2 hs2 (fun {g} hg=>(HLK1.out.flds.lt hg).2) HLK1.out.bx.lt (HLK1.out.row.lt gf rfl).2 HLK1.out.bel.size;rw[←HTK.out] at hlk2;have HLK2:=hX hlk2;have hvd:Below V2.heap.size V2 Vd1:=HBEL.out;have HCT2:Hid (T.At bare (W9.setCell ⟨gm,1,none⟩ (.slice ad' (d+1) cd')) (fun g=>g<(W9.setCell ⟨gm,1,none⟩ (.slice ad' (d+1) cd')).heap.size∧¬UF l.length Fs g) (cellsT cs) (.slice CA cs.length ccap)):=hX (At.keep (fun p hp=>(hb2.cell (by have:=HVZ.out;have:=hvd.size;have:=hp.2;omega) (fun hg=>by rcases HBMV.out _ hg with h | h <;> (have:=hp.1;have:=hp.2;omega))).trans (hvd.cell (by have:=HVZ.out;have:=hp.2;omega))) (fun g hg=>⟨by have:=HVZ.out;have:=hvd.size;have:=hb2.size;omega,fun hu=>by have h5:=(HLK5.out.flds.lt (show UF xs.length Fs g by rw[HLK5.out.len];exact hu)).2;have:=hg.1;omega⟩) HCT1.out);have HXS:Hid (xs.length=l.length):=hX HLK5.out.len;clear hm2 hs2 hs2' hb2 hlk2 hvd HMD HGD HLD HLK1 HXB1 HCT1 HCOP HBEL HCO HCS HCN;generalize W9.setCell ⟨gm,1,none⟩ (.slice ad' (d+1) cd')=V4 at *
       have HLKP:Hid (LoopK w w.heap.size gm gf Bf (.slice SA l.length scap) l.length fb (partD l d cs xs 0) (its.take (d+1)) (its.take (d+1)) (.slice aq' (d+1) cq') (.slice ad' (d+1) cd') bM2 Fs V4):=hX (by rw[partD_zero];exact HLK2.out);clear HLK2;go_loopg [14,15,86] l.length (fun m _ _ v wr=>∃(k:Nat) (Fs:Nat→Nat→Prop),v = .int .i64 k∧k≤l.length∧m=l.length - k∧Hid (LoopK w w.heap.size gm gf Bf (.slice SA l.length scap) l.length fb (partD l d cs xs k) (its.take (d+1)) (its.take (d+1)) (.slice aq' (d+1) cq') (.slice ad' (d+1) cd') bM2 Fs wr)∧Hid (T.At bare wr (fun g=>g<wr.heap.size∧¬UF l.length Fs g) (cellsT cs) (.slice CA cs.length ccap)))
       case atStart=>exact ⟨0,Fs,rfl,Nat.zero_le _,rfl,HLKP,HCT2⟩
       case round=>
        clear HLKP HCT2;rename World=>wi
        obtain ⟨k,Fi,rfl,hk,rfl,HLI,HCI⟩:=hrel;by_cases hklt:k<l.length
        ·have hxk:k<xs.length:=by rw[HXS.out];exact hklt
         have hget:=partD_get (l:=l) (d:=d) (cs:=cs) hxk;have HPS:Hid (partD l d cs xs (k+1)=(partD l d cs xs k).set k (stepD toksF l k l[k].kind d (ofF k cs) xs[k])):=hX (partD_step hxk hklt);have HFK:=hX ((HFW.out _ (List.getElem_mem hxk)).few hlen2);have hkd:=checkS_kind HCK.out hklt;obtain ⟨G,hG,hE,hM⟩:=meth_any l k hklt hkd (fb k);have HM:=hX hM;have hptr:=HLI.out.ptr hklt;have hb5:Below wi.heap.size wi (wi.alloc (.cells #[.int .i64 k] 3)):=(Below.refl _ _).alloc (Nat.le_refl _) _;have HL5:=hX (HLI.out.below hb5);have HIB:=hX (Blk.new wi 3 #[.int .i64 k]);have HFA5:=hX (HL5.out.flds.each k _ hget)
         have HKD:Hid (Calls Tryz.prog 39 #[.pointer (some ⟨fb k,0,none⟩)] (wi.alloc (.cells #[.int .i64 k] 3)) fun e w'=>e = .returned (.func (.func G) #[.pointer (some ⟨fb k,0,none⟩)] #[])∧Below (wi.alloc (.cells #[.int .i64 k] 3)).heap.size (wi.alloc (.cells #[.int .i64 k] 3)) w'):=hX (by
          have:=kind_any _ Bf (fb k) k (.slice SA l.length scap) xs[k] (Fi k) l HFA5.out (At.below HU.out HL5.out.bel (fun g hg=>Nat.lt_of_lt_of_le hg HL5.out.bel.size)) hklt hkd;rw[hG] at this
          exact this)
         have HKL:Hid (k<l.length):=hX hklt;have HGT:=hX hget;have j4:(0:Int)≤(k:Int):=by omega
         have j5:(k:Int)<(l.length:Int):=by omega
         have HB5:=hX hb5;clear hkd hM hG hb5 hget;generalize hkk:l[k].kind=kd at *;generalize hxx:xs[k]=xk at *;clear hkk hxx;generalize hfk:fb k=fk at *;have HFB:=hX hfk;clear hfk;go_upto_region 22 with fail;clear hptr;generalize hib:wi.heap.size=ib at *;generalize wi.alloc (.cells #[.int .i64 k] 3)=V5 at *;have HIBE:=hX hib;clear hib;go_wp2_with fail;refine HKD.out.mono ?_;clear HKD;rintro e V6 ⟨rfl,hb6⟩;have hb56:Below ib wi V6:=HB5.out.trans (hb6.mono (by have:=HB5.out.size;have:=HIBE.out;omega));have HB56:=hX hb56;have HIB6:=hX (HIB.out.below hb6 HIB.out.lt);have HCT6:Hid (T.At bare V6 (fun g=>g<ib∧¬UF l.length Fi g) (cellsT cs) (.slice CA cs.length ccap)):=hX (At.keep (fun p hp=>hb56.cell (by have:=hp.1;have:=HIBE.out;omega)) (fun g hg=>⟨by have:=hg.1;have:=HIBE.out;omega,hg.2⟩) HCI.out)
         obtain ⟨ys,hys,hrc⟩:∃ys,C3s V6 (fun g=>g<ib∧¬UF l.length Fi g) cs ys∧RowC3 V6 V6.heap.size CA ccap ys:=by
          have h:=HCT6.out;simp only[rowT,T.At] at h;obtain ⟨A',cap',vs,hv,h1,h2,h3,h4,h5⟩:=h;injection hv with e1 e2 e3;subst e1 e3;obtain ⟨ys,rfl,h6,h7⟩:=c3_of h5;refine ⟨ys,C3s.of h6 h7,by rw[h6];simpa [bare] using h1,h2,?_,fun hn=>?_⟩
          ·rw[flat_len c3V_len]
          ·obtain ⟨ad',e,hs,hc⟩:=h4 (by rw[h6] at hn;simpa [bare] using hn);refine ⟨ad',e,?_,?_⟩
           ·have h8:=hs.1;have h9:=HIB6.out.lt;show ad'.block<V6.heap.size;omega
           ·intro j u hu;exact hc j u (by simpa [bare] using hu)
         have hyl:=hys.len
         have HCLN:Hid (Calls Tryz.prog 41 #[.slice CA cs.length ccap] V6 (CloneC cs.length (ys.flatMap c3V) V6)):=hX (by
          rw[←hyl]
          exact cloneC_any CA ccap ys V6 hrc (by rw[hyl];have:=HCL.out.1;omega))
         have HYS:=hX hys;have HYL:=hX hyl;clear hb6 hb56 hys hrc hyl;go_wp2_with fail;refine HCLN.out.mono ?_;clear HCLN;rintro e V7 ⟨A7,c7,rfl,ho7,hb7⟩;have HO7:=hX ho7;have HB7:=hX hb7;have HIB7:=hX (HIB6.out.below hb7 HIB6.out.lt);have hE42:∀args w,(callFunc 42 args).run Tryz.prog w = .ok (.enter 42 args) w:=enters_of Tryz.func42 (by kernel_rfl) rfl
         have HDEL:Hid (Calls Tryz.prog 40 #[.slice A7 cs.length c7,.func (.func 42) #[] #[.pointer (some ⟨ib,0,none⟩)]] V7 (RowOutC V6.heap.size (.slice A7 cs.length c7) (ys.filter fun y=>!(y.f != (k:Int))) V7)):=hX (deleteC_any (fun y=>y.f != (k:Int)) 42 #[.pointer (some ⟨ib,0,none⟩)] V6.heap.size ys (.slice A7 cs.length c7) V7 (by rw[HYL.out];exact ho7) hE42 (fun y W hW=>by
          have hlt7:=HIB7.out.lt;have hne:some ib≠(Value.slice A7 cs.length c7).ownBlock:=fun e=>by have:=(ho7.lt ib e.symm).1;have:=HIB6.out.lt;omega
          have hbW:=HIB7.out.grown hW hne
          exact other_any W ib k y.f y.t y.a y.n y.c (hbW.cell 0) hbW.lt))
         clear ho7 hb7 hE42;go_wp2_with fail;refine HDEL.out.mono ?_;clear HDEL;rintro e V8 ⟨A8,c8,rfl,ho8,hg8,hob⟩;have h7lt:=HO7.out
         have hb8:Below ib wi V8:=((HB56.out.trans (HB7.out.mono (by have:=HIB6.out.lt;omega))).grown hg8 (by have:=HIB7.out.lt;omega) (fun r e=>by have:=(h7lt.lt r e).1;have:=HIB6.out.lt;omega))
         have hb8':Below wi.heap.size wi V8:=by rw[HIBE.out];exact hb8
         have HL8:=hX (HLI.out.below hb8');have hFx:=HL8.out.flds.each k _ HGT.out;rw[HFB.out] at hFx
         have hUF:∀g,Fi k g→UF l.length Fi g:=fun g hg=>⟨k,HKL.out,hg⟩
         have hFlt:∀g,Fi k g→g<ib:=fun g hg=>by have:=(HLI.out.flds.lt (show UF (partD l d cs xs k).length Fi g by rw[HLI.out.len];exact hUF g hg)).2;have:=HIBE.out;omega
         have hc8:T.At bare V8 (fun g=>g<V8.heap.size∧¬Fi k g) (cellsT (ofF k cs)) (.slice A8 (ys.filter fun y=>!(y.f != (k:Int))).length c8):=own_cells_at ho8 rfl ((HYS.out.filter k).keepS (fun p hp=>(hb8.cell hp.1).trans (HB56.out.cell hp.1).symm) (fun g hg=>⟨by have:=hg.1;have:=hb8.size;have:=HIBE.out;omega,fun hf=>hg.2 (hUF g hf)⟩)) (fun g e=>⟨(ho8.lt g e).2,fun hf=>by have:=(ho8.lt g e).1;have:=hFlt g hf;have:=HIB6.out.lt;omega⟩)
         have hBf8:Bf≤V8.heap.size:=(by obtain ⟨bm,n,D,bt,Di,rv,vl,vt,vn,vp,bt1,bn,bp,q1,q2,q3⟩:=hFx;have:=q1.low;have:=q1.self.lt;omega)
         have HMC:=hX (HM.out V8 Bf (.slice SA l.length scap) _ xk (Fi k) d (ofF k cs) hFx HFK.out (wf_i64d hlen2) hBf8 (At.below HU.out HL8.out.bel (fun g hg=>Nat.lt_of_lt_of_le hg HL8.out.bel.size)) hl HF.out hc8 (HCF.out k) (HTT.out.next HL8.out.bel));have HB8:=hX hb8';have HL8':=hX HL8.out;have hct8:T.At bare V8 (fun g=>g<ib∧¬UF l.length Fi g) (cellsT cs) (.slice CA cs.length ccap):=At.keep (fun p hp=>(hb8.cell hp.1).trans (HB56.out.cell hp.1).symm) (fun g hg=>hg) HCT6.out;have HC8:=hX hct8;have HFL:=hX hFlt;have HUF:=hX hUF;clear ho8 hg8 hob h7lt hb8 hb8' hFx hUF hFlt hc8 hBf8 hct8;go_wp2_with fail;refine HMC.out.mono ?_;clear HMC;rintro e V9 hret;obtain ⟨Fs9,hl9,hu9⟩:=HL8.out.fieldStep HKL.out (x':=stepD toksF l k kd d (ofF k cs) xk) (by rw[HFB.out];exact hret);rw[←HPS.out] at hl9;have HL9:=hX hl9;have hb9:=hret.2.1;have HCT9:Hid (T.At bare V9 (fun g=>g<V9.heap.size∧¬UF l.length Fs9 g) (cellsT cs) (.slice CA cs.length ccap)):=hX (At.keep (fun p hp=>hb9.cell (by have h1:=hp.1;have h2:=HB8.out.size;have h3:=HIBE.out;omega) (fun hf=>hp.2 (HUF.out _ hf))) (fun g hg=>⟨by have h1:=hg.1;have h2:=HB8.out.size;have h3:=HIBE.out;have h4:=hb9.size;omega,fun hf=>(hu9 g hf).elim hg.2 (fun h=>by have h1:=hg.1;have h2:=HB8.out.size;have h3:=HIBE.out;omega)⟩) HC8.out);obtain ⟨rfl,_⟩:=hret;clear hl9 hu9 hb9;go_wp2_with fail;go_roundg (l.length - (k+1))
         case measure=>have:=HKL.out;omega
         case rel=>exact ⟨k+1,Fs9,by go_num,by have:=HKL.out;omega,rfl,HL9,HCT9⟩
        ·obtain rfl:k=l.length:=by omega
         clear hklt;have hpd:partD l d cs xs l.length=docD toksF l d cs xs:=by rw[←HXS.out];exact partD_all
         have HLE:=hX HLI.out;rw[hpd] at HLE;have HFE:=hX (FewD.doc HFW.out (l:=l) (dd:=d) (cs:=cs) HCL.out.1);clear hpd HLI HCI;go_wp2_with fail;go_roundg (its.length - (d+1))
         case measure=>have:=HLT.out;omega
         case rel=>exact ⟨d+1,_,_,_,_,_,by go_num,by have:=HLT.out;omega,rfl,HLE,HFE,HEO⟩
     ·obtain rfl:d=its.length:=by omega
      clear hlt;have HLF:=hX HLK.out;rw[List.take_length] at HLF;have HFK:=hX HLF.out.fin;have HGE:Hid (buildD toksF cellsO l its = .ok xs):=hX (by rw[←HG.out];exact goD_end);have HXW:Hid (w.heap.size≤wr.heap.size):=hX HLK.out.bel.size
      have HXBf:Hid (Bf≤wr.heap.size∧xs.length=l.length):=hX ⟨by
       have hl1:0<l.length:=by
        have:=HCK.out;unfold checkS at this;rw[Bool.and_eq_true,Bool.and_eq_true] at this;have h9:1≤l.length:=by simpa using this.1.1
        omega
       obtain ⟨x,hx⟩:∃x,xs[0]?=some x:=⟨_,List.getElem?_eq_getElem (by rw[HLK.out.len];exact hl1)⟩
       obtain ⟨bm,n,D,bt,Di,rv,vl,vt,vn,vp,bt1,bn,bp,q1,q2,q3⟩:=HLK.out.flds.each 0 x hx;have:=q1.low;have:=q1.self.lt
       omega,HLK.out.len⟩
      clear HLK HLF HG
      obtain ⟨Wf,rfl⟩:∃W:World,W=wr:=⟨_,rfl⟩
      go_upto_region 26 with fail;go_loopg [17,103] l.length (fun m _ v wr=>∃(k:Nat) (vf:Value),v = .int .i64 k∧k≤l.length∧m=l.length - k∧Hid (FinK w Wf gm gf Bf (.slice SA l.length scap) l.length fb xs its vq vd Fs k vf wr))
      case atStart=>exact ⟨0,_,rfl,Nat.zero_le _,rfl,HFK⟩
      case round=>
       clear HFK;obtain ⟨k,vf,rfl,hk,rfl,HFK⟩:=hrel;by_cases hklt:k<l.length
       ·have hxk:k<xs.length:=by rw[HXBf.out.2];exact hklt
        have hget:xs[k]?=some xs[k]:=List.getElem?_eq_getElem hxk;have hF:=HFK.out.flds k _ (Nat.le_refl _) hget;have hfs:=fields_self hF;have hBfw:Bf≤wr.heap.size:=Nat.le_trans HXBf.out.1 HFK.out.grow;have hfew:=((HFW.out _ (List.getElem_mem hxk)).few HLEN.out).adds;have HDN:=hX (done_anyS wr.drew Bf (fb k) k (.slice SA l.length scap) xs[k] (Fs k) (hF.keep fun _ _=>rfl) hfew hBfw)
        have HSTEP:Hid (∀(w5:World) (v0 v1 v2 v3 v4 v5:Value) (bI bS bZ:List Nat),But (fun g=>g=fb k) wr w5→DoneAt w5 Bf (doneF xs[k]) v0 v1 v2 v3 v4 v5 bI bS bZ→(∀g∈bI++(bS++bZ),Fs k g∨wr.heap.size≤g)→(∀g∈bI++(bS++bZ),g<w5.heap.size)→
         ∃us,w5.ownsRow Wf.heap.size 53 6 vf k us∧∀(vf':Value) (w6:World),w5.grownBy w6 vf.ownBlock→w6.ownsRow Wf.heap.size 53 6 vf' (k+1) (us++[v0,v1,v2,v3,v4,v5])→FinK w Wf gm gf Bf (.slice SA l.length scap) l.length fb xs its vq vd Fs (k+1) vf' (w6.setCell ⟨gm,2,none⟩ vf')):=hX (fun w5 v0 v1 v2 v3 v4 v5 bI bS bZ hb hd hbl hb5=>HFK.out.step hklt hget hb hd hbl hb5)
        have hptr:=HFK.out.ptr hklt;have cm2:wr.cell? ⟨gm,2,none⟩=some vf:=HFK.out.self.cell 2;have hgmw:gm<wr.heap.size:=HFK.out.self.lt;have HVR:Hid (∃us,wr.ownsRow Wf.heap.size 53 6 vf k us):=hX (by obtain ⟨us,_,_,_,h1,_⟩:=HFK.out.done;exact ⟨us,h1⟩)
        have hvN:¬(vf.ownBlock=some gm∨gm=fb k):=fun h=>by
         rcases h with h | h
         ·obtain ⟨us,h1⟩:=HVR.out;exact own_blk_ne h1 HFK.out.self (by decide) h
         ·obtain ⟨⟨cs,h1⟩,_⟩:=hfs;exact Blk.ne_ HFK.out.self h1 (by decide) h
        have HGW4:Hid (Wf.heap.size≤wr.heap.size):=hX HFK.out.grow;have HKL:Hid (k<l.length):=hX hklt;have j4:(0:Int)≤(k:Int):=by omega
        have j5:(k:Int)<(l.length:Int):=by omega
        have hk16:k≤16:=by omega
        have HSF:=hX HFK.out.self;have HFSB:=hX hfs.1;clear hF hfs hBfw hfew hget HFK;generalize xs[k]=xk at *;clear hxk;generalize hfk:fb k=fk at *;have HFB:=hX hfk;clear hfk;go_upto_region 28 with fail;clear hptr;refine HeldU.wp_region_until #[true,true,true,true,true,true,true,true,true,false,false,false] (fun V=>But (fun g=>vf.ownBlock=some g∨g=fk) wr V) (by kernel_rfl) (But.of_below ((Below.refl _ _).drew)) (fun hSf0=>?_);refine' HeldU.tkU 0 (by simp only[tkD,tkE,tkG];rfl) (by kernel_rfl) (by exact fun _ _ _ h=>h) (by rfl) hSf0 (by intro V hSw;clear hSw;go_simp;try with_reducible rfl) ?_;try simp only[Act.put,tkA,tkB,tkC]
        refine' HeldU.tkU 1 (by simp only[tkD,tkE,tkG];rfl) (by kernel_rfl) (by exact fun _ _ _ h=>h) (by rfl) hSf0 (by intro V hSw;clear hSw;go_simp;try with_reducible rfl) ?_;try simp only[Act.put,tkA,tkB,tkC]
        refine' HeldU.tkU 2 (by simp only[tkD,tkE,tkG];rfl) (by kernel_rfl) (by exact fun _ _ _ h=>h) (by rfl) hSf0 (by intro V hSw;clear hSw;go_simp;try with_reducible rfl) ?_;try simp only[Act.put,tkA,tkB,tkC]
        refine' HeldU.tkU 3 (by simp only[tkD,tkE,tkG];rfl) (by kernel_rfl) (by exact fun _ _ _ h=>h) (by rfl) hSf0 (by intro V hSw;clear hSw;go_simp;try with_reducible rfl) ?_;try simp only[Act.put,tkA,tkB,tkC]
        refine' HeldU.tkU 4 (by simp only[tkD,tkE,tkG];rfl) (by kernel_rfl) (by exact fun _ _ _ h=>h) (by rfl) hSf0 (by intro V hSw;have c4v:=(hSw.cell hgmw hvN).trans cm2;clear hSw;go_simp;try with_reducible rfl) ?_;try simp only[Act.put,tkA,tkB,tkC]
        refine' HeldU.tkU 5 (by simp only[tkD,tkE,tkG];rfl) (by kernel_rfl) (by exact fun _ _ _ h=>h) (by rfl) hSf0 (by intro V hSw;clear hSw;go_simp;try with_reducible rfl) ?_;try simp only[Act.put,tkA,tkB,tkC]
        refine' HeldU.wpAnyU_one (i:=6) (by kernel_rfl) (by kernel_rfl) (by simp only[tkD,tkE,tkG];rfl) (fun K hK=>?_);go_simp;refine (HDN.out).mono ?_;rintro e Vf1 ⟨a0,n0,c0,a1,n1,c1,a2,n2,c2,a3,n3,c3,a4,n4,c4,a5,n5,c5,bI,bS,bZ,rfl,hdone,hbl,hbut⟩;have Bf1:=hX (But.trans hSf0 (hbut.mono (fun g e=>.inr e)));go_simp;refine hK.out _ _ Bf1.out (fun hSf1=>?_);clear hK K;try simp only[Act.put,tkA,tkB,tkC]
        refine' HeldU.wpAnyU_one (i:=7) (by kernel_rfl) (by kernel_rfl) (by simp only[tkD,tkE,tkG];rfl) (fun K hK=>?_);go_simp;refine hK.out _ _ ((hSf1).alloc _) (fun hSf2=>?_);clear hK K;try simp only[Act.put,tkA,tkB,tkC]
        refine' HeldU.wpAnyU_one (i:=8) (by kernel_rfl) (by kernel_rfl) (by simp only[tkD,tkE,tkG];rfl) (fun K hK=>?_);have hbf:But (fun g=>g=fk) wr Vf1:=(But.of_below (N:=fun g=>g=fk) (Below.refl _ wr).drew).trans hbut;obtain ⟨us,ho5,hst⟩:=HSTEP.out Vf1 _ _ _ _ _ _ bI bS bZ hbf hdone hbl (fun g hg=>(hdone.lt g hg).2);have HST:=hX hst;obtain ⟨j0,hj1,hj2,hj3,hj4⟩:=info_parts infoInv;have hA1:Below Vf1.heap.size Vf1 (Vf1.alloc (.cells #[.slice a0 n0 c0,.slice a1 n1 c1,.slice a2 n2 c2,.slice a3 n3 c3,.slice a4 n4 c4,.slice a5 n5 c5] 53)):=(Below.refl _ _).alloc (Nat.le_refl _) _;have hownA:=own_below ho5 hA1;have HA1:=hX hA1;have hzf:Wf.heap.size≤Vf1.heap.size:=Nat.le_trans HGW4.out hbf.size;have hm5:Blk Vf1 gm 47 _:=hbf.blk HSF.out (fun e=>hvN (.inr e));clear hst;refine step_append_any _ rfl (.tmp 111) (.tmp 114) 45 rfl Wf.heap.size 53 j0 (.agg #[.slice none 0 0,.slice none 0 0,.slice none 0 0,.slice none 0 0,.slice none 0 0,.slice none 0 0]) 6 144 Tryz.underlying45 hj1 hj2 hj3 hj4 rfl (by decide) _ _ _ rfl hownA (Vf1.heap.size+1) (some ⟨Vf1.heap.size,0,none⟩) 1 1 [.slice a0 n0 c0,.slice a1 n1 c1,.slice a2 n2 c2,.slice a3 n3 c3,.slice a4 n4 c4,.slice a5 n5 c5] rfl ?e1 ?e2 ?e3 ?e4 ?e5 ?_;case e1=>exact ⟨rfl,fun _=>⟨_,rfl,Nat.lt_succ_self _,World.news_of_block (Blk.new Vf1 _ _)⟩⟩
        case e2=>intro u hu;simp only[List.mem_cons,List.not_mem_nil,or_false] at hu;rcases hu with rfl | rfl | rfl | rfl | rfl | rfl <;> rfl
        case e3=>unfold maxLen;omega
        case e4=>omega
        case e5=>exact Nat.le_trans hzf hA1.size
        intro v' W9 ho hg hat;obtain ⟨af',cf',rfl⟩:=own_slm ho;replace hg:(Vf1.alloc (.cells #[.slice a0 n0 c0,.slice a1 n1 c1,.slice a2 n2 c2,.slice a3 n3 c3,.slice a4 n4 c4,.slice a5 n5 c5] 53)).grownBy W9 vf.ownBlock:=hg;have hgw:Vf1.grownBy W9 vf.ownBlock:=(only_of_below hA1 vf.ownBlock).trans hg;have hb9:=hm5.grown hgw (fun e=>hvN (.inl e.symm));have q2:W9.cell? ⟨gm,2,none⟩=some vf:=hb9.cell 2;have qx:W9.frozen? ⟨gm,2,none⟩=false:=hb9.frozen 2;have HFK9:=hX (HST.out _ W9 hgw ho);refine hK.out _ _ ((hSf2).trans (But.grown hg fun r e=>.inl e)) (fun hSf9=>?_);clear hK K ho hg hat hA1 hownA hgw hb9 hzf hm5 hbf ho5 hdone hbl hbut;try simp only[Act.put,tkA,tkB,tkC]
        refine HeldU.wpAnyU_off (by kernel_rfl) ?_;refine' tk 9 (by simp only[tkD,tkE,tkG];rfl) (by kernel_rfl) (by exact fun _ _ _ h=>h) (by rfl) trivial (by intro V hSw;clear hSw;go_simp;try with_reducible rfl) ?_;try simp only[Act.put,tkA,tkB,tkC]
        refine' tk 10 (by simp only[tkD,tkE,tkG];rfl) (by kernel_rfl) (by exact fun _ _ _ h=>h) (by rfl) trivial (by intro V hSw;clear hSw;go_simp;try with_reducible rfl) ?_;try simp only[Act.put,tkA,tkB,tkC]
        refine wpAnyH_ready (rs:=[11]) (by kernel_rfl) (by simp) ?_;refine' AllReadyH.cons (by simp only[tkD,tkE,tkG];rfl) (fun K hK=>?_) AllReadyH.nil;go_simp;refine hK.out _ _ trivial (fun _=>?_);clear hK K;try simp only[Act.put,tkA,tkB,tkC]
        refine wpAnyH_done (by kernel_rfl) ?_ _;go_wp2_with fail;go_roundg (l.length - (k+1))
        case measure=>have:=HKL.out;omega
        case rel=>exact ⟨k+1,_,by go_num,by have:=HKL.out;omega,rfl,HFK9⟩
       ·obtain rfl:k=l.length:=by omega
        clear hklt;obtain ⟨aq,cq,rfl⟩:=own_slm HFK.out.seqs;obtain ⟨adq,cdq,rfl⟩:∃a c,vd = .slice a its.length c:=by obtain ⟨vs,bN,h1,_⟩:=HFK.out.docs;exact own_slm h1
        obtain ⟨af,cf,rfl⟩:∃a c,vf = .slice a l.length c:=by obtain ⟨us,_,_,_,h1,_⟩:=HFK.out.done;exact own_slm h1
        have HFI:=hX (fun (w9:World) (hk:KeepT (fun t=>t≠47) wr w9)=>HFK.out.fin hk);obtain ⟨k0,k1,k2,_⟩:=HFI.out wr (KeepT.refl _ _);have HSF:=hX HFK.out.self;have HBW:=hX HFK.out.bel;have hgw9:w.heap.size≤gm:=HFK.out.low.2.2;have HGW9:=hX hgw9;have m0:=HSF.out.cell 0;have m1:=HSF.out.cell 1;have m2:=HSF.out.cell 2;have z0:=HSF.out.frozen 0;have z1:=HSF.out.frozen 1;have z2:=HSF.out.frozen 2;have hgm9:gm<wr.heap.size:=HSF.out.lt;clear HFK hgw9;go_upto_region 30 with fail;refine wp_region_held_drew (S:=fun _=>True) (by kernel_rfl) trivial (fun _=>?_);refine' tk 0 (by simp only[tkD,tkE,tkG];rfl) (by kernel_rfl) (by exact fun _ _ _ h=>h) (by rfl) trivial (by intro V hSw;clear hSw;go_simp;try with_reducible rfl) ?_;try simp only[Act.put,tkA,tkB,tkC]
        refine' tk 1 (by simp only[tkD,tkE,tkG];rfl) (by kernel_rfl) (by exact fun _ _ _ h=>h) (by rfl) trivial (by intro V hSw;clear hSw;go_simp;try with_reducible rfl) ?_;try simp only[Act.put,tkA,tkB,tkC]
        refine' tk 2 (by simp only[tkD,tkE,tkG];rfl) (by kernel_rfl) (by exact fun _ _ _ h=>h) (by rfl) trivial (by intro V hSw;clear hSw;go_simp;try with_reducible rfl) ?_;try simp only[Act.put,tkA,tkB,tkC]
        refine' tk 3 (by simp only[tkD,tkE,tkG];rfl) (by kernel_rfl) (by exact fun _ _ _ h=>h) (by rfl) trivial (by intro V hSw;clear hSw;go_simp;try with_reducible rfl) ?_;try simp only[Act.put,tkA,tkB,tkC]
        refine' tk 4 (by simp only[tkD,tkE,tkG];rfl) (by kernel_rfl) (by exact fun _ _ _ h=>h) (by rfl) trivial (by intro V hSw;clear hSw;go_simp;try with_reducible rfl) ?_;try simp only[Act.put,tkA,tkB,tkC]
        refine' tk 5 (by simp only[tkD,tkE,tkG];rfl) (by kernel_rfl) (by exact fun _ _ _ h=>h) (by rfl) trivial (by intro V hSw;clear hSw;go_simp;try with_reducible rfl) ?_;try simp only[Act.put,tkA,tkB,tkC]
        refine' tk 8 (by simp only[tkD,tkE,tkG];rfl) (by kernel_rfl) (by exact fun _ _ _ h=>h) (by rfl) trivial (by intro V hSw;clear hSw;go_simp;try with_reducible rfl) ?_;try simp only[Act.put,tkA,tkB,tkC]
        refine' tk 9 (by simp only[tkD,tkE,tkG];rfl) (by kernel_rfl) (by exact fun _ _ _ h=>h) (by rfl) trivial (by intro V hSw;clear hSw;go_simp;try with_reducible rfl) ?_;try simp only[Act.put,tkA,tkB,tkC]
        refine' tk 10 (by simp only[tkD,tkE,tkG];rfl) (by kernel_rfl) (by exact fun _ _ _ h=>h) (by rfl) trivial (by intro V hSw;clear hSw;go_simp;try with_reducible rfl) ?_;try simp only[Act.put,tkA,tkB,tkC]
        refine' tk 13 (by simp only[tkD,tkE,tkG];rfl) (by kernel_rfl) (by exact fun _ _ _ h=>h) (by rfl) trivial (by intro V hSw;clear hSw;go_simp;try with_reducible rfl) ?_;try simp only[Act.put,tkA,tkB,tkC]
        refine' tk 14 (by simp only[tkD,tkE,tkG];rfl) (by kernel_rfl) (by exact fun _ _ _ h=>h) (by rfl) trivial (by intro V hSw;clear hSw;go_simp;try with_reducible rfl) ?_;try simp only[Act.put,tkA,tkB,tkC]
        refine' tk 15 (by simp only[tkD,tkE,tkG];rfl) (by kernel_rfl) (by exact fun _ _ _ h=>h) (by rfl) trivial (by intro V hSw;clear hSw;go_simp;try with_reducible rfl) ?_;try simp only[Act.put,tkA,tkB,tkC]
        refine HeldU.wpAnyU_on #[true,true,true,true,true,true,true,true,true,true,true,true,true,true,true,true,true,true,false,false,false,false,false,false,false,false,false] (fun V=>But (fun _=>False) wr V) (But.of_below ((Below.refl _ _).drew)) (fun hSz0=>?_);refine' HeldU.tkU 6 (by simp only[tkD,tkE,tkG];rfl) (by kernel_rfl) (by exact fun _ _ _ h=>h) (by rfl) hSz0 (by intro V hSw;have c0v:=(hSw.cell hgm9 (fun h=>h)).trans m0;clear hSw;go_simp;try with_reducible rfl) ?_;try simp only[Act.put,tkA,tkB,tkC]
        refine' HeldU.tkU 11 (by simp only[tkD,tkE,tkG];rfl) (by kernel_rfl) (by exact fun _ _ _ h=>h) (by rfl) hSz0 (by intro V hSw;have c1v:=(hSw.cell hgm9 (fun h=>h)).trans m1;clear hSw;go_simp;try with_reducible rfl) ?_;try simp only[Act.put,tkA,tkB,tkC]
        refine' HeldU.tkU 16 (by simp only[tkD,tkE,tkG];rfl) (by kernel_rfl) (by exact fun _ _ _ h=>h) (by rfl) hSz0 (by intro V hSw;have c2v:=(hSw.cell hgm9 (fun h=>h)).trans m2;clear hSw;go_simp;try with_reducible rfl) ?_;try simp only[Act.put,tkA,tkB,tkC]
        refine' HeldU.wpAnyU_one (i:=7) (by kernel_rfl) (by kernel_rfl) (by simp only[tkD,tkE,tkG];rfl) (fun K hK=>?_);go_simp;refine (clip_u64 aq its.length cq _ k0).mono ?_;rintro e Vz1 ⟨rfl,rfl⟩;have Bz1:=hX (But.trans hSz0 (But.refl _ _));go_simp;refine hK.out _ _ Bz1.out (fun hSz1=>?_);clear hK K;try simp only[Act.put,tkA,tkB,tkC]
        refine' HeldU.wpAnyU_one (i:=12) (by kernel_rfl) (by kernel_rfl) (by simp only[tkD,tkE,tkG];rfl) (fun K hK=>?_);go_simp;refine (clip_docs adq its.length cdq _ k1).mono ?_;rintro e Vz2 ⟨rfl,rfl⟩;have Bz2:=hX (But.trans hSz1 (But.refl _ _));go_simp;refine hK.out _ _ Bz2.out (fun hSz2=>?_);clear hK K;try simp only[Act.put,tkA,tkB,tkC]
        refine' HeldU.wpAnyU_one (i:=17) (by kernel_rfl) (by kernel_rfl) (by simp only[tkD,tkE,tkG];rfl) (fun K hK=>?_);go_simp;refine (clip_inv af l.length cf _ k2).mono ?_;rintro e Vz3 ⟨rfl,rfl⟩;have Bz3:=hX (But.trans hSz2 (But.refl _ _));go_simp;refine hK.out _ _ Bz3.out (fun hSz3=>?_);clear hK K;try simp only[Act.put,tkA,tkB,tkC]
        refine HeldU.wpAnyU_off (by kernel_rfl) ?_;refine' tk 18 (by simp only[tkD,tkE,tkG];rfl) (by kernel_rfl) (by exact fun _ _ _ h=>h) (by rfl) trivial (by intro V hSw;clear hSw;go_simp;try with_reducible rfl) ?_;try simp only[Act.put,tkA,tkB,tkC]
        refine' tk 19 (by simp only[tkD,tkE,tkG];rfl) (by kernel_rfl) (by exact fun _ _ _ h=>h) (by rfl) trivial (by intro V hSw;clear hSw;go_simp;try with_reducible rfl) ?_;try simp only[Act.put,tkA,tkB,tkC]
        refine wpAnyH_ready (rs:=[20]) (by kernel_rfl) (by simp) ?_;refine' AllReadyH.cons (by simp only[tkD,tkE,tkG];rfl) (fun K hK=>?_) AllReadyH.nil;go_simp;refine hK.out _ _ trivial (fun _=>?_);clear hK K;try simp only[Act.put,tkA,tkB,tkC]
        refine' tk 21 (by simp only[tkD,tkE,tkG];rfl) (by kernel_rfl) (by exact fun _ _ _ h=>h) (by rfl) trivial (by intro V hSw;clear hSw;go_simp;try with_reducible rfl) ?_;try simp only[Act.put,tkA,tkB,tkC]
        refine' tk 22 (by simp only[tkD,tkE,tkG];rfl) (by kernel_rfl) (by exact fun _ _ _ h=>h) (by rfl) trivial (by intro V hSw;clear hSw;go_simp;try with_reducible rfl) ?_;try simp only[Act.put,tkA,tkB,tkC]
        refine wpAnyH_ready (rs:=[23]) (by kernel_rfl) (by simp) ?_;refine' AllReadyH.cons (by simp only[tkD,tkE,tkG];rfl) (fun K hK=>?_) AllReadyH.nil;go_simp;refine hK.out _ _ trivial (fun _=>?_);clear hK K;try simp only[Act.put,tkA,tkB,tkC]
        refine' tk 24 (by simp only[tkD,tkE,tkG];rfl) (by kernel_rfl) (by exact fun _ _ _ h=>h) (by rfl) trivial (by intro V hSw;clear hSw;go_simp;try with_reducible rfl) ?_;try simp only[Act.put,tkA,tkB,tkC]
        refine' tk 25 (by simp only[tkD,tkE,tkG];rfl) (by kernel_rfl) (by exact fun _ _ _ h=>h) (by rfl) trivial (by intro V hSw;clear hSw;go_simp;try with_reducible rfl) ?_;try simp only[Act.put,tkA,tkB,tkC]
        refine wpAnyH_ready (rs:=[26]) (by kernel_rfl) (by simp) ?_;refine' AllReadyH.cons (by simp only[tkD,tkE,tkG];rfl) (fun K hK=>?_) AllReadyH.nil;go_simp;refine hK.out _ _ trivial (fun _=>?_);clear hK K;try simp only[Act.put,tkA,tkB,tkC]
        refine wpAnyH_done (by kernel_rfl) ?_ _;have hB9:Blk ((((wr.setCell ⟨gm,0,none⟩ (.slice aq its.length its.length)).setCell ⟨gm,1,none⟩ (.slice adq its.length its.length)).setCell ⟨gm,2,none⟩ (.slice af l.length l.length)).drew) gm 47 #[.slice aq its.length its.length,.slice adq its.length its.length,.slice af l.length l.length]:=by simpa using ((((HSF.out.set_ 0 (.slice aq its.length its.length)).set_ 1 (.slice adq its.length its.length)).set_ 2 (.slice af l.length l.length)).drew)
        have hK9:KeepT (fun t=>t≠47) wr ((((wr.setCell ⟨gm,0,none⟩ (.slice aq its.length its.length)).setCell ⟨gm,1,none⟩ (.slice adq its.length its.length)).setCell ⟨gm,2,none⟩ (.slice af l.length l.length)).drew):=(((KeepT.of_set HSF.out (by simp) 0 _).trans (KeepT.of_set (HSF.out.set_ 0 _) (by simp) 1 _)).trans (KeepT.of_set ((HSF.out.set_ 0 _).set_ 1 _) (by simp) 2 _)).trans (KeepT.of_below ((Below.refl _ _).drew));have HMEM:=hX ((HFI.out _ hK9).2.2.2 hB9);have HBF:Hid (Below w.heap.size w ((((wr.setCell ⟨gm,0,none⟩ (.slice aq its.length its.length)).setCell ⟨gm,1,none⟩ (.slice adq its.length its.length)).setCell ⟨gm,2,none⟩ (.slice af l.length l.length)).drew)):=hX ((((HBW.out.setCell HGW9.out _).setCell HGW9.out _).setCell HGW9.out _).drew);clear hB9 hK9 m0 m1 m2 z0 z1 z2;go_wp2_with fail;go_ret2;exact ⟨HBF.out,by rw[HGE.out];exact ⟨gm,rfl,HMEM.out⟩⟩
 ·have HBD:=hX (buildD_err hz);have HNZ:Hid (rightD l its≠0):=hX hz;have hne:((rightD l its:Int) == 0)=false:=by simpa using hz
  have hne2:((rightD l its:Int) != 0)=true:=by simpa using hz
  have bx:=HBX0.out.cell 0;clear hz;generalize rightD l its=z at *;go_enter Tryz.func12,Tryz.ntmps12;go_wp2_with fail;refine HRI.out.mono ?_;clear HRI;rintro e W1 ⟨rfl,hb1⟩;have HB1:Hid (Below w.heap.size w W1):=hX (HBA.out.trans (hb1.mono HBA.out.size));clear hb1 bx;go_wp2_with fail;go_ret2;exact ⟨HB1.out,by rw[HBD.out];rfl⟩
end Go.Proofs.YtigfcihakghddaaGreatDoor.BufT
