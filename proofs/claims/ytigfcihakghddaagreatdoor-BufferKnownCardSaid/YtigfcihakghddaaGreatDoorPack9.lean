/- Lemmas that the last text leans on. -/
import Derived.Test.YtigfcihakghddaaGreatDoorBufAdd
import Derived.Test.YtigfcihakghddaaGreatDoorPack8
import Derived.Test.YtigfcihakghddaaGreatDoorPack3
import Derived.Test.YtigfcihakghddaaGreatDoorPack4
import Derived.Test.YtigfcihakghddaaGreatDoorTake
import Derived.Deep.RegionHeld3
import Derived.Deep.QuietTactic
import Derived.LoopTactic
import Derived.BigQuiet
set_option linter.all false
section
namespace Go.Proofs.YtigfcihakghddaaGreatDoor.BufT
open Go Go.RowKit Words Tree MapV BufP
theorem FieldRet.step {w w1 w2:World} {B fb k:Nat} {sv:Value} {x x1 x2:FD} {F F1:Nat→Prop} {e:Ending} (hb:But F w w1) (hf:∀g,F1 g→F g∨w.heap.size≤g) (h2:FieldRet w1 B fb k sv x2 F1 e w2):FieldRet w B fb k sv x2 F e w2:=by
 obtain ⟨rfl,hb2,F2,h3,h4⟩:=h2;exact ⟨rfl,hb.more hb2 hf,F2,h3,fun g hg=>(h4 g hg).elim (hf g) (fun h=>.inr (Nat.le_trans hb.size h))⟩
theorem addF_any (w:World) (B fb k:Nat) (sv:Value) (x:FD) (F:Nat→Prop) (s:ByteArray) (d p:Int) (h:FieldAt w B fb k sv x F) (hL:x.adds.length≤274877906944) (hs:s.size≤maxLen) (hd:(Lit.int .i64 d).wf=true) (hB:B≤w.heap.size) :
 Calls Tryz.prog 105 #[.pointer (some ⟨fb,0,none⟩),.string s,.int .i64 d,.int .i64 p] w (FieldRet w B fb k sv { x with adds:=x.adds++[⟨s.data.toList,d,p⟩] } F):=by
 obtain ⟨bm,n,D,bt,Di,rv,vl,vt,vn,vp,bt1,bn,bp,h1,h2,h3⟩:=h;refine (add_any w B fb bm n D bt Di rv x.adds s d p (h1.self.cell 8) h1.terms (by omega) (by omega) hs hd hB (h1.off fb (List.mem_cons_self ..)) h1.self.lt).mono ?_;rintro e w' ⟨rfl,hb,n',D',bt',Di',rv',hn',ht,hf⟩;refine ⟨rfl,hb.mono (fun g hg=>(h3 g).2 (.inr hg)),FootF fb bm { x with adds:=x.adds++[⟨s.data.toList,d,p⟩] } bt' rv' vl (bt1++(bn++bp)),⟨bm,n',D',bt',Di',rv',vl,vt,vn,vp,bt1,bn,bp,h1.added hb hB ht hf,?_,fun g=>Iff.rfl⟩,fun g hg=>?_⟩
 ·show n'≤2*(x.adds++[(⟨s.data.toList,d,p⟩:Ad)]).length;rw[List.length_append,List.length_singleton];omega
 ·rcases hg with h | h
  ·exact .inl ((h3 g).2 (.inl h))
  ·exact (hf g h).imp (fun h=>(h3 g).2 (.inr h)) id
end Go.Proofs.YtigfcihakghddaaGreatDoor.BufT
end
section
namespace Go.Proofs.YtigfcihakghddaaGreatDoor.BufT
open Go Go.RowKit Words Tree MapV BufP
section
variable {w w1:World} {B fb k:Nat} {sv:Value} {x:FD} {bm n:Nat} {D:DataW Value} {bt:List UInt8→Nat} {Di:List UInt8→DataW Value} {rv:List UInt8→Int→Value} {vl vt vn vp:Value} {bt1 bn bp:List Nat}
theorem FieldIn.lensUp (h:FieldIn w B fb k sv x bm n D bt Di rv vl vt vn vp bt1 bn bp) {z:Int} {vl':Value} (hg:w.grownBy w1 vl.ownBlock) (ho:w1.ownsRow B 2 1 vl' (x.lens.length+1) (intCells x.lens++[.int .i64 z]))
 (hl:vl'.ownBlock=vl.ownBlock∨∃g,vl'.ownBlock=some g∧w.heap.size≤g) :
 FieldIn (w1.setCell ⟨fb,2,none⟩ vl') B fb k sv { x with lens:=x.lens++[z] } bm n D bt Di rv vl' vt vn vp bt1 bn bp:=by
 obtain ⟨n1,n2⟩:=List.nodup_cons.1 h.nd;obtain ⟨n3,n4,n5⟩:=List.nodup_append.1 n2;have hfl:fb<w.heap.size:=h.self.lt;have hfr:vl.ownBlock≠some fb:=fun e=>n1 (List.mem_append_left _ (mem_own.2 e));have key:∀g,g≠fb→vl.ownBlock≠some g→g<w.heap.size→(w1.setCell ⟨fb,2,none⟩ vl').heap[g]?=w.heap[g]?:=fun g h1 h2 h3=>(Below.heap_setCell w1 ⟨fb,2,none⟩ vl' g h1).trans (hg.block g h3 fun e=>h2 e.symm);have hrest:∀g∈bt1++(bn++bp),(w1.setCell ⟨fb,2,none⟩ vl').heap[g]?=w.heap[g]?:=fun g hm=>key g (fun e=>n1 (e ▸ List.mem_append_right _ hm)) (fun e=>n5 g (mem_own.2 e) g hm rfl) (h.ltL (List.mem_cons_of_mem _ (List.mem_append_right _ hm))).2;have hfoot:∀g,Foot bm (hasT x.adds) x.adds bt rv g→(w1.setCell ⟨fb,2,none⟩ vl').heap[g]?=w.heap[g]?:=fun g hf=>key g (fun e=>h.off fb (List.mem_cons_self ..) (e ▸ hf)) (fun e=>h.off g (List.mem_cons_of_mem _ (List.mem_append_left _ (mem_own.2 e))) hf) (h.terms.bound hf)
 have hv':∀g,vl'.ownBlock=some g→g≠fb∧g∉bt1++(bn++bp)∧¬Foot bm (hasT x.adds) x.adds bt rv g:=fun g e=>by
  rcases hl with hl | ⟨g',hl,hge⟩
  ·rw[hl] at e;exact ⟨fun e2=>hfr (e2 ▸ e),fun hm=>n5 g (mem_own.2 e) g hm rfl,h.off g (List.mem_cons_of_mem _ (List.mem_append_left _ (mem_own.2 e)))⟩
  ·rw[hl] at e;obtain rfl:=Option.some.inj e;exact ⟨fun e2=>by omega,fun hm=>by have:=(h.ltL (List.mem_cons_of_mem _ (List.mem_append_right _ hm))).2;omega,fun hf=>by have:=h.terms.bound hf;omega⟩
 have hb1:Blk w1 fb 95 _:=h.self.grown hg (fun e=>hfr e.symm);refine ⟨hb1.set_ 2 vl',h.low,h.terms.keep hfoot,?_,h.texts.keep fun g hm=>hrest g (List.mem_append_left _ hm),h.nums.keep fun g hm=>hrest g (List.mem_append_right _ (List.mem_append_left _ hm)),h.pts.keep fun g hm=>hrest g (List.mem_append_right _ (List.mem_append_right _ hm)),?_,?_,h.above⟩
 ·have e1:intCells (x.lens++[z])=intCells x.lens++[.int .i64 z]:=by simp[intCells]
  show (w1.setCell ⟨fb,2,none⟩ vl').ownsRow B 2 1 vl' (x.lens++[z]).length (intCells (x.lens++[z]));rw[e1,List.length_append,List.length_singleton];exact own_stay ho fun g e=>Below.heap_setCell w1 ⟨fb,2,none⟩ vl' g (hv' g e).1
 ·refine List.nodup_cons.2 ⟨fun hm=>?_,List.nodup_append.2 ⟨by cases vl'.ownBlock <;> simp,n4,fun a ha b hb e=>?_⟩⟩
  ·rcases List.mem_append.1 hm with hm | hm
   ·exact (hv' fb (mem_own.1 hm)).1 rfl
   ·exact n1 (List.mem_append_right _ hm)
  ·subst e;exact (hv' a (mem_own.1 ha)).2.1 hb
 ·intro g hm;rcases List.mem_cons.1 hm with rfl | hm
  ·exact h.off g (List.mem_cons_self ..)
  ·rcases List.mem_append.1 hm with hm | hm
   ·exact (hv' g (mem_own.1 hm)).2.2
   ·exact h.off g (List.mem_cons_of_mem _ (List.mem_append_right _ hm))
end
end Go.Proofs.YtigfcihakghddaaGreatDoor.BufT
end
section
namespace Go.Proofs.YtigfcihakghddaaGreatDoor.Sch
open Go.RowKit Go.WideShapes Go.ChangeShapes Words Tree SchP
def fcells (f:FT):List T:=[.lit (.string f.name),.lit (.int .i64 f.kind),numsT .i64 f.chain,.lit (.int .i64 f.scale),.lit (.int .i64 f.dims),.lit (.bool f.many),.lit (.bool f.stored)]
def ecells (e:ET):List T:=[.lit (.string e.field),.lit (.string e.text),numsT .i64 e.nums]
def ccells (c:CT):List T:=[.lit (.int .i64 c.field),.lit (.string c.text),numsT .i64 c.nums]
theorem fcells_len (f:FT):(fcells f).length=7:=rfl
theorem ecells_len (e:ET):(ecells e).length=3:=rfl
theorem ccells_len (c:CT):(ccells c).length=3:=rfl
abbrev fieldsT (l:List FT):T:=rowT 7 fcells l
abbrev entriesT (l:List ET):T:=rowT 3 ecells l
abbrev cellsT (l:List CT):T:=rowT 3 ccells l
def I64 (n:Int):Prop:=-9223372036854775808≤n∧n≤9223372036854775807
def NumsOk (l:List Int):Prop:=l.length*8≤140737488351232∧∀z∈l,I64 z
structure FOk (f:FT):Prop where
 name:f.name.size≤140737488351232
 kind:I64 f.kind
 chain:NumsOk f.chain
 scale:I64 f.scale
 dims:I64 f.dims
structure EOk (e:ET):Prop where
 field:e.field.size≤140737488351232
 text:e.text.size≤140737488351232
 nums:NumsOk e.nums
structure COk (c:CT):Prop where
 field:I64 c.field
 text:c.text.size≤140737488351232
 nums:NumsOk c.nums
section
variable {sent:Nat→List (List Value)} {w:World} {S:Nat→Prop}
theorem at_fcells {f:FT} {vs:List Value} (h:T.AtL sent w S (fcells f) vs):∃v,vs=[.string f.name,.int .i64 f.kind,v,.int .i64 f.scale,.int .i64 f.dims,.bool f.many,.bool f.stored]∧T.At sent w S (numsT .i64 f.chain) v:=by
 rw[fcells] at h;obtain ⟨v0,r,rfl,h0,h⟩:=AtL.cons_ h;obtain ⟨v1,r,rfl,h1,h⟩:=AtL.cons_ h;obtain ⟨v2,r,rfl,h2,h⟩:=AtL.cons_ h;obtain ⟨v3,r,rfl,h3,h⟩:=AtL.cons_ h;obtain ⟨v4,r,rfl,h4,h⟩:=AtL.cons_ h;obtain ⟨v5,r,rfl,h5,h⟩:=AtL.cons_ h;obtain ⟨v6,r,rfl,h6,h⟩:=AtL.cons_ h;obtain rfl:=AtL.nil_ h;simp only[T.At] at h0 h1 h3 h4 h5 h6;subst h0 h1 h3 h4 h5 h6;exact ⟨v2,rfl,h2⟩
theorem fcells_mk {f:FT} {v:Value} (h:T.At sent w S (numsT .i64 f.chain) v):T.AtL sent w S (fcells f) [.string f.name,.int .i64 f.kind,v,.int .i64 f.scale,.int .i64 f.dims,.bool f.many,.bool f.stored]:=by
 simp only[fcells,T.AtL,T.At,true_and,and_true];exact h
theorem at_ecells {e:ET} {vs:List Value} (h:T.AtL sent w S (ecells e) vs):∃v,vs=[.string e.field,.string e.text,v]∧T.At sent w S (numsT .i64 e.nums) v:=by
 rw[ecells] at h;obtain ⟨v0,r,rfl,h0,h⟩:=AtL.cons_ h;obtain ⟨v1,r,rfl,h1,h⟩:=AtL.cons_ h;obtain ⟨v2,r,rfl,h2,h⟩:=AtL.cons_ h;obtain rfl:=AtL.nil_ h;simp only[T.At] at h0 h1;subst h0 h1;exact ⟨v2,rfl,h2⟩
theorem ecells_mk {e:ET} {v:Value} (h:T.At sent w S (numsT .i64 e.nums) v):T.AtL sent w S (ecells e) [.string e.field,.string e.text,v]:=by
 simp only[ecells,T.AtL,T.At,true_and,and_true];exact h
theorem at_ccells {c:CT} {vs:List Value} (h:T.AtL sent w S (ccells c) vs):∃v,vs=[.int .i64 c.field,.string c.text,v]∧T.At sent w S (numsT .i64 c.nums) v:=by
 rw[ccells] at h;obtain ⟨v0,r,rfl,h0,h⟩:=AtL.cons_ h;obtain ⟨v1,r,rfl,h1,h⟩:=AtL.cons_ h;obtain ⟨v2,r,rfl,h2,h⟩:=AtL.cons_ h;obtain rfl:=AtL.nil_ h;simp only[T.At] at h0 h1;subst h0 h1;exact ⟨v2,rfl,h2⟩
theorem ccells_mk {c:CT} {v:Value} (h:T.At sent w S (numsT .i64 c.nums) v):T.AtL sent w S (ccells c) [.int .i64 c.field,.string c.text,v]:=by
 simp only[ccells,T.AtL,T.At,true_and,and_true];exact h
end
section
variable {H:Type} {enc:TypeId × Value→H} {w:World} {r:Reach} {b0:Nat} {v:Value} {d:DataW H} {ps:List MemPlace}
end
end Go.Proofs.YtigfcihakghddaaGreatDoor.Sch
end
section
namespace Go.Proofs.YtigfcihakghddaaGreatDoor.BufT
open Go Go.RowKit Words Tree Owned MapV BufP Sch SchP
def methV (fb:Nat) (kd:Int):Value:=.func (.func (if kd=1 then 72 else if kd=2 then 73 else if kd=5 then 75 else 74)) #[.pointer (some ⟨fb,0,none⟩)] #[]
set_option maxRecDepth 100000 in
set_option maxHeartbeats 4000000 in
theorem kind_any (w:World) (B fb k:Nat) (sv:Value) (x:FD) (F:Nat→Prop) (l:List FT) (h:FieldAt w B fb k sv x F) (hu:T.At bare w (fun g=>g<w.heap.size) (fieldsT l) sv) (hk:k<l.length) (hkd:1≤l[k].kind∧l[k].kind≤5) :
 Calls Tryz.prog 39 #[.pointer (some ⟨fb,0,none⟩)] w fun e w'=>e = .returned (methV fb l[k].kind)∧Below w.heap.size w w':=by
 have hc6:w.cell? ⟨fb,6,none⟩=some sv∧w.cell? ⟨fb,7,none⟩=some (.int .i64 k):=by obtain ⟨bm,n,D,bt,Di,rv,vl,vt,vn,vp,bt1,bn,bp,h1,h2,h3⟩:=h;exact ⟨h1.self.cell 6,h1.self.cell 7⟩
 have hfb:fb<w.heap.size:=by obtain ⟨bm,n,D,bt,Di,rv,vl,vt,vn,vp,bt1,bn,bp,h1,h2,h3⟩:=h;exact h1.self.lt
 obtain ⟨hc6,hc7⟩:=hc6;obtain ⟨A,cap,rfl,hcap,hmax,hr⟩:=at_row fcells_len hu;obtain ⟨ad,us,rfl,hs,hat,hl,hc⟩:=hr k hk
 have hck:w.cell? ⟨(ad.add (k*7)).block,(ad.add (k*7)).off+1,none⟩=some (.int .i64 l[k].kind):=by
  simp only[fcells] at hat
  match us,hat with
  | u0::u1::us,hat=>
   simp only[T.AtL,T.At] at hat;obtain ⟨_,rfl,_⟩:=hat;exact hc.at_ 1 _ rfl (by omega)
 have h4:(0:Int)≤(k:Int):=by omega
 have h5:(k:Int)<(l.length:Int):=by omega
 have hab:(ad.add (k*7)).block<w.heap.size:=by rw[block_of_add];exact hs
 clear h hu hr hat hc hcap
 obtain ⟨kd,hkd0⟩:∃kd,l[k].kind=kd:=⟨_,rfl⟩
 rw[hkd0] at hkd hck ⊢;clear hkd0;have hcases:kd=1∨kd=2∨kd=3∨kd=4∨kd=5:=by omega
 go_enter Tryz.func39,Tryz.ntmps39;go_upto_region 1 with fail;refine wp_region_held_drew (S:=fun V=>Below w.heap.size w V) (by kernel_rfl) (Below.refl _ _).drew (fun hS0=>?_);refine' tk 0 (by simp only[tkD,tkE,tkG];rfl) (by kernel_rfl) (by exact fun _ _ _ h=>h) (by rfl) hS0 (by intro V hSw;clear hSw;go_simp;try with_reducible rfl) ?_;try simp only[Act.put,tkA,tkB,tkC]
 refine' tk 1 (by simp only[tkD,tkE,tkG];rfl) (by kernel_rfl) (by exact fun _ _ _ h=>h) (by rfl) hS0 (by intro V hSw;clear hSw;go_simp;try with_reducible rfl) ?_;try simp only[Act.put,tkA,tkB,tkC]
 refine' tk 2 (by simp only[tkD,tkE,tkG];rfl) (by kernel_rfl) (by exact fun _ _ _ h=>h) (by rfl) hS0 (by intro V hSw;clear hSw;go_simp;try with_reducible rfl) ?_;try simp only[Act.put,tkA,tkB,tkC]
 refine' tk 3 (by simp only[tkD,tkE,tkG];rfl) (by kernel_rfl) (by exact fun _ _ _ h=>h) (by rfl) hS0 (by intro V hSw;clear hSw;go_simp;try with_reducible rfl) ?_;try simp only[Act.put,tkA,tkB,tkC]
 refine' tk 4 (by simp only[tkD,tkE,tkG];rfl) (by kernel_rfl) (by exact fun _ _ _ h=>h) (by rfl) hS0 (by intro V hSw;clear hSw;go_simp;try with_reducible rfl) ?_;try simp only[Act.put,tkA,tkB,tkC]
 refine' tk 5 (by simp only[tkD,tkE,tkG];rfl) (by kernel_rfl) (by exact fun _ _ _ h=>h) (by rfl) hS0 (by intro V hSw;clear hSw;go_simp;try with_reducible rfl) ?_;try simp only[Act.put,tkA,tkB,tkC]
 refine' tk 6 (by simp only[tkD,tkE,tkG];rfl) (by kernel_rfl) (by exact fun _ _ _ h=>h) (by rfl) hS0 (by intro V hSw;clear hSw;go_simp;try with_reducible rfl) ?_;try simp only[Act.put,tkA,tkB,tkC]
 refine' tk 7 (by simp only[tkD,tkE,tkG];rfl) (by kernel_rfl) (by exact fun _ _ _ h=>h) (by rfl) hS0 (by intro V hSw;clear hSw;go_simp;try with_reducible rfl) ?_;try simp only[Act.put,tkA,tkB,tkC]
 refine' tk 8 (by simp only[tkD,tkE,tkG];rfl) (by kernel_rfl) (by exact fun _ _ _ h=>h) (by rfl) hS0 (by intro V hSw;clear hSw;go_simp;try with_reducible rfl) ?_;try simp only[Act.put,tkA,tkB,tkC]
 refine' tk 9 (by simp only[tkD,tkE,tkG];rfl) (by kernel_rfl) (by exact fun _ _ _ h=>h) (by rfl) hS0 (by intro V hSw;clear hSw;go_simp;try with_reducible rfl) ?_;try simp only[Act.put,tkA,tkB,tkC]
 refine' tk 11 (by simp only[tkD,tkE,tkG];rfl) (by kernel_rfl) (by exact fun _ _ _ h=>h) (by rfl) hS0 (by intro V hSw;clear hSw;go_simp;try with_reducible rfl) ?_;try simp only[Act.put,tkA,tkB,tkC]
 refine' tk 12 (by simp only[tkD,tkE,tkG];rfl) (by kernel_rfl) (by exact fun _ _ _ h=>h) (by rfl) hS0 (by intro V hSw;clear hSw;go_simp;try with_reducible rfl) ?_;try simp only[Act.put,tkA,tkB,tkC]
 refine' tk 13 (by simp only[tkD,tkE,tkG];rfl) (by kernel_rfl) (by exact fun _ _ _ h=>h) (by rfl) hS0 (by intro V hSw;clear hSw;go_simp;try with_reducible rfl) ?_;try simp only[Act.put,tkA,tkB,tkC]
 refine' tk 14 (by simp only[tkD,tkE,tkG];rfl) (by kernel_rfl) (by exact fun _ _ _ h=>h) (by rfl) hS0 (by intro V hSw;clear hSw;go_simp;try with_reducible rfl) ?_;try simp only[Act.put,tkA,tkB,tkC]
 refine' tk 15 (by simp only[tkD,tkE,tkG];rfl) (by kernel_rfl) (by exact fun _ _ _ h=>h) (by rfl) hS0 (by intro V hSw;have c6:=(hSw.cell hfb).trans hc6;clear hSw;go_simp;try with_reducible rfl) ?_;try simp only[Act.put,tkA,tkB,tkC]
 refine' tk 16 (by simp only[tkD,tkE,tkG];rfl) (by kernel_rfl) (by exact fun _ _ _ h=>h) (by rfl) hS0 (by intro V hSw;clear hSw;go_simp;try with_reducible rfl) ?_;try simp only[Act.put,tkA,tkB,tkC]
 refine' tk 17 (by simp only[tkD,tkE,tkG];rfl) (by kernel_rfl) (by exact fun _ _ _ h=>h) (by rfl) hS0 (by intro V hSw;clear hSw;go_simp;try with_reducible rfl) ?_;try simp only[Act.put,tkA,tkB,tkC]
 refine' tk 18 (by simp only[tkD,tkE,tkG];rfl) (by kernel_rfl) (by exact fun _ _ _ h=>h) (by rfl) hS0 (by intro V hSw;clear hSw;go_simp;try with_reducible rfl) ?_;try simp only[Act.put,tkA,tkB,tkC]
 refine' tk 19 (by simp only[tkD,tkE,tkG];rfl) (by kernel_rfl) (by exact fun _ _ _ h=>h) (by rfl) hS0 (by intro V hSw;have c7:=(hSw.cell hfb).trans hc7;clear hSw;go_simp;try with_reducible rfl) ?_;try simp only[Act.put,tkA,tkB,tkC]
 refine' tk 20 (by simp only[tkD,tkE,tkG];rfl) (by kernel_rfl) (by exact fun _ _ _ h=>h) (by rfl) hS0 (by intro V hSw;clear hSw;go_simp;try with_reducible rfl) ?_;try simp only[Act.put,tkA,tkB,tkC]
 refine' tk 21 (by simp only[tkD,tkE,tkG];rfl) (by kernel_rfl) (by exact fun _ _ _ h=>h) (by rfl) hS0 (by intro V hSw;clear hSw;go_simp;try with_reducible rfl) ?_;try simp only[Act.put,tkA,tkB,tkC]
 refine' tk 22 (by simp only[tkD,tkE,tkG];rfl) (by kernel_rfl) (by exact fun _ _ _ h=>h) (by rfl) hS0 (by intro V hSw;have ck:=(hSw.cell (p:=⟨(ad.add (k*7)).block,(ad.add (k*7)).off+1,none⟩) hab).trans hck;clear hSw;go_simp;try with_reducible rfl) ?_;try simp only[Act.put,tkA,tkB,tkC]
 refine wpAnyH_ready (rs:=[10]) (by kernel_rfl) (by simp) ?_;refine' AllReadyH.cons (by simp only[tkD,tkE,tkG];rfl) (fun K hK=>?_) AllReadyH.nil;go_simp;have hA:Below w.heap.size w (w.alloc (.cells #[.nilFunc,.func (.func 72) #[Value.pointer (some ⟨fb,0,none⟩)] #[],.func (.func 73) #[Value.pointer (some ⟨fb,0,none⟩)] #[],.func (.func 74) #[Value.pointer (some ⟨fb,0,none⟩)] #[],.func (.func 74) #[Value.pointer (some ⟨fb,0,none⟩)] #[],.func (.func 75) #[Value.pointer (some ⟨fb,0,none⟩)] #[]] 99)).drew:=((Below.refl _ _).alloc (Nat.le_refl _) _).drew;have HBT:=hX (Blk.new w 99 #[.nilFunc,.func (.func 72) #[Value.pointer (some ⟨fb,0,none⟩)] #[],.func (.func 73) #[Value.pointer (some ⟨fb,0,none⟩)] #[],.func (.func 74) #[Value.pointer (some ⟨fb,0,none⟩)] #[],.func (.func 74) #[Value.pointer (some ⟨fb,0,none⟩)] #[],.func (.func 75) #[Value.pointer (some ⟨fb,0,none⟩)] #[]]).drew;refine hK.out _ _ hA (fun hS1=>?_);try simp only[Act.put,tkA,tkB,tkC]
 clear hA hK K;have b1:=HBT.out.cell 1;have b2:=HBT.out.cell 2;have b3:=HBT.out.cell 3;have b4:=HBT.out.cell 4;have b5:=HBT.out.cell 5;rcases hcases with rfl | rfl | rfl | rfl | rfl
 all_goals
  refine wpAnyH_ready (rs:=[23]) (by kernel_rfl) (by simp) ?_;refine' AllReadyH.cons (by simp only[tkD,tkE,tkG];rfl) (fun K hK=>?_) AllReadyH.nil;go_simp;refine hK.out _ _ hS1 (fun _=>?_);clear hK K;try simp only[Act.put,tkA,tkB,tkC]
  refine wpAnyH_ready (rs:=[24]) (by kernel_rfl) (by simp) ?_;refine' AllReadyH.cons (by simp only[tkD,tkE,tkG];rfl) (fun K hK=>?_) AllReadyH.nil;go_simp;refine hK.out _ _ hS1 (fun _=>?_);clear hK K;try simp only[Act.put,tkA,tkB,tkC]
  refine wpAnyH_ready (rs:=[25]) (by kernel_rfl) (by simp) ?_;refine' AllReadyH.cons (by simp only[tkD,tkE,tkG];rfl) (fun K hK=>?_) AllReadyH.nil;go_simp;refine hK.out _ _ hS1 (fun _=>?_);clear hK K;try simp only[Act.put,tkA,tkB,tkC]
  refine wpAnyH_done (by kernel_rfl) ?_ _;go_wp2_with fail;go_ret;exact ⟨rfl,hS1⟩
end Go.Proofs.YtigfcihakghddaaGreatDoor.BufT
end
