/- Lemmas that the last text leans on. -/
import Derived.Test.YtigfcihakghddaaGreatDoorPack9
set_option linter.all false
namespace Go.Proofs.YtigfcihakghddaaGreatDoor.BufT
open Go Go.RowKit Words Tree MapV BufP
theorem RowR.own_mem {X:Type} {w:World} {B:Nat} {et e:TypeId} {m:Nat} {pre sub:X→List Value} {v:Value} {xs:List X} {bs:List Nat} (h:RowR w B et m e pre sub v xs bs) {g:Nat} (hg:v.ownBlock=some g):g∈bs:=by
 obtain ⟨vs,b1,h1,h2,rfl⟩:=h;exact List.mem_append_left _ (mem_own.2 hg)
section
variable {w w1:World} {B fb k:Nat} {sv:Value} {x:FD} {bm n:Nat} {D:DataW Value} {bt:List UInt8→Nat} {Di:List UInt8→DataW Value} {rv:List UInt8→Int→Value} {vl vt vn vp:Value} {bt1 bn bp:List Nat}
theorem FieldIn.textsUp (h:FieldIn w B fb k sv x bm n D bt Di rv vl vt vn vp bt1 bn bp) {vt':Value} {xs':List (List (List UInt8))} {b':List Nat} (hg:w.grownBy w1 vt.ownBlock) (hr:RowR w1 B 48 1 9 (fun _=>[]) strCells vt' xs' b')
 (hsub:∀g∈b',g∈bt1∨¬FootF fb bm x bt rv vl (bt1++(bn++bp)) g) (hn:b'.Nodup) :
 FieldIn (w1.setCell ⟨fb,3,none⟩ vt') B fb k sv { x with texts:=xs' } bm n D bt Di rv vl vt' vn vp b' bn bp:=by
 have hnd:=h.nd;rw[List.nodup_iff_count] at hnd;have cnt:∀g,([fb].count g+(vl.ownBlock.toList.count g+(bt1.count g+(bn.count g+bp.count g))))≤1:=fun g=>by have:=hnd g;rw[show fb::(vl.ownBlock.toList++(bt1++(bn++bp)))=[fb]++(vl.ownBlock.toList++(bt1++(bn++bp))) from rfl,List.count_append,List.count_append,List.count_append,List.count_append] at this;exact this
 have pos:∀{l:List Nat} {g:Nat},g∈l→0<l.count g:=fun hm=>List.count_pos_iff.2 hm;have hfl:fb<w.heap.size:=h.self.lt;have hf1:0<[fb].count fb:=by simp
 have hown:∀g,vt.ownBlock=some g→g∈bt1:=fun g e=>h.texts.own_mem e;have key:∀g,g≠fb→g∉bt1→g<w.heap.size→(w1.setCell ⟨fb,3,none⟩ vt').heap[g]?=w.heap[g]?:=fun g h1 h2 h3=>(Below.heap_setCell w1 ⟨fb,3,none⟩ vt' g h1).trans (hg.block g h3 fun e=>h2 (hown g e.symm));have hoth:∀g,g∈fb::(vl.ownBlock.toList++(bt1++(bn++bp)))→(g≠fb∧g∉bt1)→(w1.setCell ⟨fb,3,none⟩ vt').heap[g]?=w.heap[g]?:=fun g hm hd=>key g hd.1 hd.2 (h.ltL hm).2
 have hdl:∀g∈vl.ownBlock.toList,g≠fb∧g∉bt1:=fun g hm=>⟨fun e=>by have:=cnt g;have:=pos hm;rw[e] at *;omega,fun hm2=>by have:=cnt g;have:=pos hm;have:=pos hm2;omega⟩
 have hdbn:∀g∈bn,g≠fb∧g∉bt1:=fun g hm=>⟨fun e=>by have:=cnt g;have:=pos hm;rw[e] at *;omega,fun hm2=>by have:=cnt g;have:=pos hm;have:=pos hm2;omega⟩
 have hdbp:∀g∈bp,g≠fb∧g∉bt1:=fun g hm=>⟨fun e=>by have:=cnt g;have:=pos hm;rw[e] at *;omega,fun hm2=>by have:=cnt g;have:=pos hm;have:=pos hm2;omega⟩
 have hbf:fb∉bt1:=fun hm=>by have:=cnt fb;have:=pos hm;omega
 have hfoot:∀g,Foot bm (hasT x.adds) x.adds bt rv g→(w1.setCell ⟨fb,3,none⟩ vt').heap[g]?=w.heap[g]?:=fun g hf=>key g (fun e=>h.off fb (List.mem_cons_self ..) (e ▸ hf)) (fun hm=>h.off g (List.mem_cons_of_mem _ (List.mem_append_right _ (List.mem_append_left _ hm))) hf) (h.terms.bound hf)
 have hb':∀g∈b',g≠fb∧g∉vl.ownBlock.toList∧g∉bn∧g∉bp∧¬Foot bm (hasT x.adds) x.adds bt rv g:=fun g hm=>by
  rcases hsub g hm with hm | hm
  ·refine ⟨fun e=>hbf (e ▸ hm),fun h2=>(hdl g h2).2 hm,fun h2=>(hdbn g h2).2 hm,fun h2=>(hdbp g h2).2 hm,h.off g (List.mem_cons_of_mem _ (List.mem_append_right _ (List.mem_append_left _ hm)))⟩
  ·refine ⟨fun e=>hm (.inl (e ▸ List.mem_cons_self ..)),fun h2=>hm (.inl (List.mem_cons_of_mem _ (List.mem_append_left _ h2))),fun hm2=>hm (.inl ?_),fun hm2=>hm (.inl ?_),fun hf=>hm (.inr hf)⟩
   ·have hm:=hm2;exact List.mem_cons_of_mem _ (List.mem_append_right _ (List.mem_append_right _ (List.mem_append_left _ hm)))
   ·have hm:=hm2;exact List.mem_cons_of_mem _ (List.mem_append_right _ (List.mem_append_right _ (List.mem_append_right _ hm)))
 have hb1:Blk w1 fb 95 _:=h.self.grown hg (fun e=>hbf (hown fb e.symm));refine ⟨hb1.set_ 3 vt',h.low,h.terms.keep hfoot,own_stay h.lens fun g e=>hoth g (List.mem_cons_of_mem _ (List.mem_append_left _ (mem_own.2 e))) (hdl g (mem_own.2 e)),hr.keep fun g hm=>Below.heap_setCell w1 ⟨fb,3,none⟩ vt' g (hb' g hm).1,h.nums.keep fun g hm=>hoth g (List.mem_cons_of_mem _ (List.mem_append_right _ (List.mem_append_right _ (List.mem_append_left _ hm)))) (hdbn g hm),h.pts.keep fun g hm=>hoth g (List.mem_cons_of_mem _ (List.mem_append_right _ (List.mem_append_right _ (List.mem_append_right _ hm)))) (hdbp g hm),?_,?_,h.above⟩
 ·rw[List.nodup_iff_count];intro g;rw[show fb::(vl.ownBlock.toList++(b'++(bn++bp)))=[fb]++(vl.ownBlock.toList++(b'++(bn++bp))) from rfl,List.count_append,List.count_append,List.count_append,List.count_append];have h1:=cnt g;have h2:=List.nodup_iff_count.1 hn g;by_cases hm:g∈b'
  ·obtain ⟨a1,a2,a3,a4,_⟩:=hb' g hm;have c1:[fb].count g=0:=List.count_eq_zero.2 (by simpa using a1);have c2:=List.count_eq_zero.2 a2;have c3:=List.count_eq_zero.2 a3;have c4:=List.count_eq_zero.2 a4;omega
  ·have c1:=List.count_eq_zero.2 hm;omega
 ·intro g hm hf;rcases List.mem_cons.1 hm with rfl | hm
  ·exact h.off g (List.mem_cons_self ..) hf
  ·rcases List.mem_append.1 hm with hm | hm
   ·exact h.off g (List.mem_cons_of_mem _ (List.mem_append_left _ hm)) hf
   ·rcases List.mem_append.1 hm with hm | hm
    ·exact (hb' g hm).2.2.2.2 hf
    ·rcases List.mem_append.1 hm with hm | hm
     ·exact h.off g (List.mem_cons_of_mem _ (List.mem_append_right _ (List.mem_append_right _ (List.mem_append_left _ hm)))) hf
     ·exact h.off g (List.mem_cons_of_mem _ (List.mem_append_right _ (List.mem_append_right _ (List.mem_append_right _ hm)))) hf
theorem FieldIn.numsUp (h:FieldIn w B fb k sv x bm n D bt Di rv vl vt vn vp bt1 bn bp) {vn':Value} {xs':List (List Int)} {b':List Nat} (hg:w.grownBy w1 vn.ownBlock) (hr:RowR w1 B 50 1 2 (fun _=>[]) intCells vn' xs' b')
 (hsub:∀g∈b',g∈bn∨¬FootF fb bm x bt rv vl (bt1++(bn++bp)) g) (hn:b'.Nodup) :
 FieldIn (w1.setCell ⟨fb,4,none⟩ vn') B fb k sv { x with nums:=xs' } bm n D bt Di rv vl vt vn' vp bt1 b' bp:=by
 have hnd:=h.nd;rw[List.nodup_iff_count] at hnd;have cnt:∀g,([fb].count g+(vl.ownBlock.toList.count g+(bt1.count g+(bn.count g+bp.count g))))≤1:=fun g=>by have:=hnd g;rw[show fb::(vl.ownBlock.toList++(bt1++(bn++bp)))=[fb]++(vl.ownBlock.toList++(bt1++(bn++bp))) from rfl,List.count_append,List.count_append,List.count_append,List.count_append] at this;exact this
 have pos:∀{l:List Nat} {g:Nat},g∈l→0<l.count g:=fun hm=>List.count_pos_iff.2 hm;have hfl:fb<w.heap.size:=h.self.lt;have hf1:0<[fb].count fb:=by simp
 have hown:∀g,vn.ownBlock=some g→g∈bn:=fun g e=>h.nums.own_mem e;have key:∀g,g≠fb→g∉bn→g<w.heap.size→(w1.setCell ⟨fb,4,none⟩ vn').heap[g]?=w.heap[g]?:=fun g h1 h2 h3=>(Below.heap_setCell w1 ⟨fb,4,none⟩ vn' g h1).trans (hg.block g h3 fun e=>h2 (hown g e.symm));have hoth:∀g,g∈fb::(vl.ownBlock.toList++(bt1++(bn++bp)))→(g≠fb∧g∉bn)→(w1.setCell ⟨fb,4,none⟩ vn').heap[g]?=w.heap[g]?:=fun g hm hd=>key g hd.1 hd.2 (h.ltL hm).2
 have hdl:∀g∈vl.ownBlock.toList,g≠fb∧g∉bn:=fun g hm=>⟨fun e=>by have:=cnt g;have:=pos hm;rw[e] at *;omega,fun hm2=>by have:=cnt g;have:=pos hm;have:=pos hm2;omega⟩
 have hdbt1:∀g∈bt1,g≠fb∧g∉bn:=fun g hm=>⟨fun e=>by have:=cnt g;have:=pos hm;rw[e] at *;omega,fun hm2=>by have:=cnt g;have:=pos hm;have:=pos hm2;omega⟩
 have hdbp:∀g∈bp,g≠fb∧g∉bn:=fun g hm=>⟨fun e=>by have:=cnt g;have:=pos hm;rw[e] at *;omega,fun hm2=>by have:=cnt g;have:=pos hm;have:=pos hm2;omega⟩
 have hbf:fb∉bn:=fun hm=>by have:=cnt fb;have:=pos hm;omega
 have hfoot:∀g,Foot bm (hasT x.adds) x.adds bt rv g→(w1.setCell ⟨fb,4,none⟩ vn').heap[g]?=w.heap[g]?:=fun g hf=>key g (fun e=>h.off fb (List.mem_cons_self ..) (e ▸ hf)) (fun hm=>h.off g (List.mem_cons_of_mem _ (List.mem_append_right _ (List.mem_append_right _ (List.mem_append_left _ hm)))) hf) (h.terms.bound hf)
 have hb':∀g∈b',g≠fb∧g∉vl.ownBlock.toList∧g∉bt1∧g∉bp∧¬Foot bm (hasT x.adds) x.adds bt rv g:=fun g hm=>by
  rcases hsub g hm with hm | hm
  ·refine ⟨fun e=>hbf (e ▸ hm),fun h2=>(hdl g h2).2 hm,fun h2=>(hdbt1 g h2).2 hm,fun h2=>(hdbp g h2).2 hm,h.off g (List.mem_cons_of_mem _ (List.mem_append_right _ (List.mem_append_right _ (List.mem_append_left _ hm))))⟩
  ·refine ⟨fun e=>hm (.inl (e ▸ List.mem_cons_self ..)),fun h2=>hm (.inl (List.mem_cons_of_mem _ (List.mem_append_left _ h2))),fun hm2=>hm (.inl ?_),fun hm2=>hm (.inl ?_),fun hf=>hm (.inr hf)⟩
   ·have hm:=hm2;exact List.mem_cons_of_mem _ (List.mem_append_right _ (List.mem_append_left _ hm))
   ·have hm:=hm2;exact List.mem_cons_of_mem _ (List.mem_append_right _ (List.mem_append_right _ (List.mem_append_right _ hm)))
 have hb1:Blk w1 fb 95 _:=h.self.grown hg (fun e=>hbf (hown fb e.symm));refine ⟨hb1.set_ 4 vn',h.low,h.terms.keep hfoot,own_stay h.lens fun g e=>hoth g (List.mem_cons_of_mem _ (List.mem_append_left _ (mem_own.2 e))) (hdl g (mem_own.2 e)),h.texts.keep fun g hm=>hoth g (List.mem_cons_of_mem _ (List.mem_append_right _ (List.mem_append_left _ hm))) (hdbt1 g hm),hr.keep fun g hm=>Below.heap_setCell w1 ⟨fb,4,none⟩ vn' g (hb' g hm).1,h.pts.keep fun g hm=>hoth g (List.mem_cons_of_mem _ (List.mem_append_right _ (List.mem_append_right _ (List.mem_append_right _ hm)))) (hdbp g hm),?_,?_,h.above⟩
 ·rw[List.nodup_iff_count];intro g;rw[show fb::(vl.ownBlock.toList++(bt1++(b'++bp)))=[fb]++(vl.ownBlock.toList++(bt1++(b'++bp))) from rfl,List.count_append,List.count_append,List.count_append,List.count_append];have h1:=cnt g;have h2:=List.nodup_iff_count.1 hn g;by_cases hm:g∈b'
  ·obtain ⟨a1,a2,a3,a4,_⟩:=hb' g hm;have c1:[fb].count g=0:=List.count_eq_zero.2 (by simpa using a1);have c2:=List.count_eq_zero.2 a2;have c3:=List.count_eq_zero.2 a3;have c4:=List.count_eq_zero.2 a4;omega
  ·have c1:=List.count_eq_zero.2 hm;omega
 ·intro g hm hf;rcases List.mem_cons.1 hm with rfl | hm
  ·exact h.off g (List.mem_cons_self ..) hf
  ·rcases List.mem_append.1 hm with hm | hm
   ·exact h.off g (List.mem_cons_of_mem _ (List.mem_append_left _ hm)) hf
   ·rcases List.mem_append.1 hm with hm | hm
    ·exact h.off g (List.mem_cons_of_mem _ (List.mem_append_right _ (List.mem_append_left _ hm))) hf
    ·rcases List.mem_append.1 hm with hm | hm
     ·exact (hb' g hm).2.2.2.2 hf
     ·exact h.off g (List.mem_cons_of_mem _ (List.mem_append_right _ (List.mem_append_right _ (List.mem_append_right _ hm)))) hf
theorem FieldIn.ptsUp (h:FieldIn w B fb k sv x bm n D bt Di rv vl vt vn vp bt1 bn bp) {vp':Value} {xs':List (Int × List Int)} {b':List Nat} (hg:w.grownBy w1 vp.ownBlock) (hr:RowR w1 B 55 2 2 (fun p=>[.int .i64 p.1]) (fun p=>intCells p.2) vp' xs' b')
 (hsub:∀g∈b',g∈bp∨¬FootF fb bm x bt rv vl (bt1++(bn++bp)) g) (hn:b'.Nodup) :
 FieldIn (w1.setCell ⟨fb,5,none⟩ vp') B fb k sv { x with pts:=xs' } bm n D bt Di rv vl vt vn vp' bt1 bn b':=by
 have hnd:=h.nd;rw[List.nodup_iff_count] at hnd;have cnt:∀g,([fb].count g+(vl.ownBlock.toList.count g+(bt1.count g+(bn.count g+bp.count g))))≤1:=fun g=>by have:=hnd g;rw[show fb::(vl.ownBlock.toList++(bt1++(bn++bp)))=[fb]++(vl.ownBlock.toList++(bt1++(bn++bp))) from rfl,List.count_append,List.count_append,List.count_append,List.count_append] at this;exact this
 have pos:∀{l:List Nat} {g:Nat},g∈l→0<l.count g:=fun hm=>List.count_pos_iff.2 hm;have hfl:fb<w.heap.size:=h.self.lt;have hf1:0<[fb].count fb:=by simp
 have hown:∀g,vp.ownBlock=some g→g∈bp:=fun g e=>h.pts.own_mem e;have key:∀g,g≠fb→g∉bp→g<w.heap.size→(w1.setCell ⟨fb,5,none⟩ vp').heap[g]?=w.heap[g]?:=fun g h1 h2 h3=>(Below.heap_setCell w1 ⟨fb,5,none⟩ vp' g h1).trans (hg.block g h3 fun e=>h2 (hown g e.symm));have hoth:∀g,g∈fb::(vl.ownBlock.toList++(bt1++(bn++bp)))→(g≠fb∧g∉bp)→(w1.setCell ⟨fb,5,none⟩ vp').heap[g]?=w.heap[g]?:=fun g hm hd=>key g hd.1 hd.2 (h.ltL hm).2
 have hdl:∀g∈vl.ownBlock.toList,g≠fb∧g∉bp:=fun g hm=>⟨fun e=>by have:=cnt g;have:=pos hm;rw[e] at *;omega,fun hm2=>by have:=cnt g;have:=pos hm;have:=pos hm2;omega⟩
 have hdbt1:∀g∈bt1,g≠fb∧g∉bp:=fun g hm=>⟨fun e=>by have:=cnt g;have:=pos hm;rw[e] at *;omega,fun hm2=>by have:=cnt g;have:=pos hm;have:=pos hm2;omega⟩
 have hdbn:∀g∈bn,g≠fb∧g∉bp:=fun g hm=>⟨fun e=>by have:=cnt g;have:=pos hm;rw[e] at *;omega,fun hm2=>by have:=cnt g;have:=pos hm;have:=pos hm2;omega⟩
 have hbf:fb∉bp:=fun hm=>by have:=cnt fb;have:=pos hm;omega
 have hfoot:∀g,Foot bm (hasT x.adds) x.adds bt rv g→(w1.setCell ⟨fb,5,none⟩ vp').heap[g]?=w.heap[g]?:=fun g hf=>key g (fun e=>h.off fb (List.mem_cons_self ..) (e ▸ hf)) (fun hm=>h.off g (List.mem_cons_of_mem _ (List.mem_append_right _ (List.mem_append_right _ (List.mem_append_right _ hm)))) hf) (h.terms.bound hf)
 have hb':∀g∈b',g≠fb∧g∉vl.ownBlock.toList∧g∉bt1∧g∉bn∧¬Foot bm (hasT x.adds) x.adds bt rv g:=fun g hm=>by
  rcases hsub g hm with hm | hm
  ·refine ⟨fun e=>hbf (e ▸ hm),fun h2=>(hdl g h2).2 hm,fun h2=>(hdbt1 g h2).2 hm,fun h2=>(hdbn g h2).2 hm,h.off g (List.mem_cons_of_mem _ (List.mem_append_right _ (List.mem_append_right _ (List.mem_append_right _ hm))))⟩
  ·refine ⟨fun e=>hm (.inl (e ▸ List.mem_cons_self ..)),fun h2=>hm (.inl (List.mem_cons_of_mem _ (List.mem_append_left _ h2))),fun hm2=>hm (.inl ?_),fun hm2=>hm (.inl ?_),fun hf=>hm (.inr hf)⟩
   ·have hm:=hm2;exact List.mem_cons_of_mem _ (List.mem_append_right _ (List.mem_append_left _ hm))
   ·have hm:=hm2;exact List.mem_cons_of_mem _ (List.mem_append_right _ (List.mem_append_right _ (List.mem_append_left _ hm)))
 have hb1:Blk w1 fb 95 _:=h.self.grown hg (fun e=>hbf (hown fb e.symm));refine ⟨hb1.set_ 5 vp',h.low,h.terms.keep hfoot,own_stay h.lens fun g e=>hoth g (List.mem_cons_of_mem _ (List.mem_append_left _ (mem_own.2 e))) (hdl g (mem_own.2 e)),h.texts.keep fun g hm=>hoth g (List.mem_cons_of_mem _ (List.mem_append_right _ (List.mem_append_left _ hm))) (hdbt1 g hm),h.nums.keep fun g hm=>hoth g (List.mem_cons_of_mem _ (List.mem_append_right _ (List.mem_append_right _ (List.mem_append_left _ hm)))) (hdbn g hm),hr.keep fun g hm=>Below.heap_setCell w1 ⟨fb,5,none⟩ vp' g (hb' g hm).1,?_,?_,h.above⟩
 ·rw[List.nodup_iff_count];intro g;rw[show fb::(vl.ownBlock.toList++(bt1++(bn++b')))=[fb]++(vl.ownBlock.toList++(bt1++(bn++b'))) from rfl,List.count_append,List.count_append,List.count_append,List.count_append];have h1:=cnt g;have h2:=List.nodup_iff_count.1 hn g;by_cases hm:g∈b'
  ·obtain ⟨a1,a2,a3,a4,_⟩:=hb' g hm;have c1:[fb].count g=0:=List.count_eq_zero.2 (by simpa using a1);have c2:=List.count_eq_zero.2 a2;have c3:=List.count_eq_zero.2 a3;have c4:=List.count_eq_zero.2 a4;omega
  ·have c1:=List.count_eq_zero.2 hm;omega
 ·intro g hm hf;rcases List.mem_cons.1 hm with rfl | hm
  ·exact h.off g (List.mem_cons_self ..) hf
  ·rcases List.mem_append.1 hm with hm | hm
   ·exact h.off g (List.mem_cons_of_mem _ (List.mem_append_left _ hm)) hf
   ·rcases List.mem_append.1 hm with hm | hm
    ·exact h.off g (List.mem_cons_of_mem _ (List.mem_append_right _ (List.mem_append_left _ hm))) hf
    ·rcases List.mem_append.1 hm with hm | hm
     ·exact h.off g (List.mem_cons_of_mem _ (List.mem_append_right _ (List.mem_append_right _ (List.mem_append_left _ hm)))) hf
     ·exact (hb' g hm).2.2.2.2 hf
end
end Go.Proofs.YtigfcihakghddaaGreatDoor.BufT
