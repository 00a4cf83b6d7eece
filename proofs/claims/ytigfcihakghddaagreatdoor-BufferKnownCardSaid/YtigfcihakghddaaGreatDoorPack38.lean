/- Lemmas that the last text leans on. -/
import Derived.Test.YtigfcihakghddaaGreatDoorPack35
import Derived.Test.YtigfcihakghddaaGreatDoorPack36
import Derived.Test.YtigfcihakghddaaGreatDoorPack37
import Derived.Test.YtigfcihakghddaaGreatDoorPack8
import Derived.Test.YtigfcihakghddaaGreatDoorPack32
import Derived.Test.YtigfcihakghddaaGreatDoorPack4
set_option linter.all false
section
namespace Go.Proofs.YtigfcihakghddaaGreatDoor.BufT
open Go Go.RowKit Words Tree Owned MapV BufP Sch SchP AnaP Kit
structure FieldsAt (w:World) (B:Nat) (sv:Value) (xs:List FD) (fb:Nat→Nat) (Fs:Nat→Nat→Prop):Prop where
 each:∀k x,xs[k]?=some x→FieldAt w B (fb k) k sv x (Fs k)
 apart:∀j k g,j<xs.length→k<xs.length→Fs j g→Fs k g→j=k
def UF (n:Nat) (Fs:Nat→Nat→Prop) (g:Nat):Prop:=∃k,k<n∧Fs k g
section
variable {w w':World} {B:Nat} {sv:Value} {xs:List FD} {fb:Nat→Nat} {Fs:Nat→Nat→Prop}
theorem FieldsAt.keep (h:FieldsAt w B sv xs fb Fs) (hk:∀g,UF xs.length Fs g→w'.heap[g]?=w.heap[g]?):FieldsAt w' B sv xs fb Fs:=
 ⟨fun k x hx=>(h.each k x hx).keep fun g hg=>hk g ⟨k,(List.getElem?_eq_some_iff.1 hx).1,hg⟩,h.apart⟩
theorem FieldsAt.lt (h:FieldsAt w B sv xs fb Fs) {g:Nat} (hg:UF xs.length Fs g):B≤g∧g<w.heap.size:=by
 obtain ⟨k,hk,hg⟩:=hg;exact (h.each k _ (List.getElem?_eq_getElem hk)).lt hg
theorem FieldsAt.below (h:FieldsAt w B sv xs fb Fs) (hb:Below w.heap.size w w'):FieldsAt w' B sv xs fb Fs:=h.keep fun g hg=>hb.block g (h.lt hg).2
theorem FieldsAt.step (h:FieldsAt w B sv xs fb Fs) {k:Nat} {x':FD} {e:Ending} (hk:k<xs.length) (hr:FieldRet w B (fb k) k sv x' (Fs k) e w') :
 ∃Fs',FieldsAt w' B sv (xs.set k x') fb Fs'∧(∀g,UF xs.length Fs' g→UF xs.length Fs g∨w.heap.size≤g):=by
 classical
 obtain ⟨_,hb,F',h1,h2⟩:=hr;have hlt:∀j g,j<xs.length→Fs j g→g<w.heap.size:=fun j g hj hg=>(h.lt ⟨j,hj,hg⟩).2;refine ⟨fun j=>if j=k then F' else Fs j,⟨fun j x hx=>?_,fun i j g hi hj hgi hgj=>?_⟩,fun g hg=>?_⟩
 ·by_cases hjk:j=k
  ·subst hjk;rw[List.getElem?_set_self hk] at hx;cases hx;rw[if_pos rfl];exact h1
  ·rw[List.getElem?_set_ne (Ne.symm hjk)] at hx;rw[if_neg hjk];have hj:=(List.getElem?_eq_some_iff.1 hx).1;exact (h.each j x hx).keep fun g hg=>hb.block g (hlt j g hj hg) fun hg'=>hjk (h.apart j k g hj hk hg hg')
 ·rw[List.length_set] at hi hj;by_cases h3:i=k <;> by_cases h4:j=k
  ·rw[h3,h4]
  ·simp only[if_pos h3] at hgi;simp only[if_neg h4] at hgj;rcases h2 g hgi with h5 | h5
   ·rw[h3];exact h.apart k j g hk hj h5 hgj
   ·have:=hlt j g hj hgj;omega
  ·simp only[if_neg h3] at hgi;simp only[if_pos h4] at hgj;rcases h2 g hgj with h5 | h5
   ·rw[h4];exact h.apart i k g hi hk hgi h5
   ·have:=hlt i g hi hgi;omega
  ·simp only[if_neg h3] at hgi;simp only[if_neg h4] at hgj;exact h.apart i j g hi hj hgi hgj
 ·obtain ⟨j,hj,hg⟩:=hg;by_cases h3:j=k
  ·simp only[if_pos h3] at hg;exact (h2 g hg).imp (fun h5=>⟨k,hk,h5⟩) id
  ·simp only[if_neg h3] at hg;exact .inl ⟨j,hj,hg⟩
theorem FieldsAt.nil_:FieldsAt w B sv [] fb Fs:=⟨fun k x h=>by simp at h,fun j k g h=>by simp at h⟩
open Classical in
theorem FieldsAt.snoc (h:FieldsAt w B sv xs fb Fs) (hb:Below w.heap.size w w') {b:Nat} {x:FD} {F:Nat→Prop} (hx:FieldAt w' B b xs.length sv x F) (hF:∀g,F g→w.heap.size≤g) :
 FieldsAt w' B sv (xs++[x]) (fun k=>if k=xs.length then b else fb k) (fun k=>if k=xs.length then F else Fs k):=by
 have h':=h.below hb;have hlt:∀j g,j<xs.length→Fs j g→g<w.heap.size:=fun j g hj hg=>(h.lt ⟨j,hj,hg⟩).2;refine ⟨fun k y hy=>?_,fun i j g hi hj hgi hgj=>?_⟩
 ·by_cases hk:k=xs.length
  ·subst hk;simp at hy;subst hy;simp only[if_pos rfl];exact hx
  ·have hlt':=(List.getElem?_eq_some_iff.1 hy).1;simp at hlt';rw[List.getElem?_append_left (by omega)] at hy;simp only[if_neg hk];exact h'.each k y hy
 ·simp only[List.length_append,List.length_singleton] at hi hj;by_cases h3:i=xs.length <;> by_cases h4:j=xs.length
  ·rw[h3,h4]
  ·simp only[if_pos h3] at hgi;simp only[if_neg h4] at hgj;have:=hlt j g (by omega) hgj;have:=hF g hgi;omega
  ·simp only[if_neg h3] at hgi;simp only[if_pos h4] at hgj;have:=hlt i g (by omega) hgi;have:=hF g hgj;omega
  ·simp only[if_neg h3] at hgi;simp only[if_neg h4] at hgj;exact h.apart i j g (by omega) (by omega) hgi hgj
end
theorem field_new {w w2:World} {B b k:Nat} {sv:Value} (hB:B≤w.heap.size) (hm:w2.heap[w.heap.size]?=some (.map #[] 0)) (hs:Blk w2 b 95 #[.slice none 0 0,.slice none 0 0,.slice none 0 0,.slice none 0 0,.slice none 0 0,.slice none 0 0,sv,.int .i64 k,.map (some w.heap.size)]) (hb:w.heap.size<b) :
 FieldAt w2 B b k sv FD.zero (fun g=>g=b∨g=w.heap.size):=by
 have h0:=TermsAt.made w Tryz.prog 9 3 3 B
 have hco:∀x,False↔hasT ([]:List Ad) x:=fun x=>⟨False.elim,fun ⟨a,ha,_⟩=>by cases ha⟩
 have h1:=(h0.keep (w':=w2) (fun g hg=>by
  rcases hg with rfl | ⟨s,hs,_⟩ | ⟨s,d,⟨a,ha,_⟩,_⟩
  ·rw[hm];exact ((MapKept.heap_alloc w _).1).symm
  ·exact hs.elim
  ·cases ha)).congr hco
 have hft:∀g,Foot w.heap.size (hasT ([]:List Ad)) [] (fun _=>0) (fun _ _=>.slice none 0 0) g↔g=w.heap.size:=fun g=>by
  constructor
  ·intro hg
   rcases hg with h | ⟨s,⟨a,ha,_⟩,_⟩ | ⟨s,d,⟨a,ha,_⟩,_⟩
   ·exact h
   ·cases ha
   ·cases ha
  ·exact fun h=>.inl h
 refine ⟨w.heap.size,0,.map [],fun _=>0,fun _=>.map [],fun _ _=>.slice none 0 0,.slice none 0 0,.slice none 0 0,.slice none 0 0,.slice none 0 0,[],[],[],⟨hs,by omega,h1,World.ownsRow_nil _ _ _ _,RowR.nil_,RowR.nil_,RowR.nil_,by simp[Value.ownBlock],fun g hg hf=>?_,fun g hf=>?_⟩,Nat.zero_le _,fun g=>?_⟩
 ·simp[Value.ownBlock] at hg;have:=(hft g).1 hf;omega
 ·have:=(hft g).1 hf;omega
 ·unfold FootF;rw[show FD.zero.adds=[] from rfl,hft];simp[Value.ownBlock]
def DocC (w:World) (B:Nat) (d:List ET) (v:Value) (bs:List Nat):Prop:=∃vs,ClipM w B 82 3 v d.length (flat preE d vs)∧SubL w B 2 (fun e=>intCells e.nums) d vs bs
def okM (t:TypeId):Prop:=t=82∨t=2
theorem DocC.keepT {w w':World} {B:Nat} {d:List ET} {v:Value} {bs:List Nat} {ok:TypeId→Prop} (h:DocC w B d v bs) (hk:KeepT ok w w') (h1:ok 82) (h2:ok 2):DocC w' B d v bs:=by
 obtain ⟨vs,ha,hb⟩:=h;exact ⟨vs,ha.keepT hk h1,hb.keepT hk h2⟩
theorem DocC.keep {w w':World} {B:Nat} {d:List ET} {v:Value} {bs:List Nat} (h:DocC w B d v bs) (hk:∀g,(v.ownBlock=some g∨g∈bs)→w'.heap[g]?=w.heap[g]?):DocC w' B d v bs:=by
 obtain ⟨vs,ha,hb⟩:=h;exact ⟨vs,ha.keep fun g hg=>hk g (.inl hg),hb.keep fun g hg=>hk g (.inr hg)⟩
def ownsL (vs:List Value):List Nat:=vs.flatMap fun v=>v.ownBlock.toList
theorem docs_keep {w w':World} {B:Nat} {ds:List (List ET)} {vs:List Value} {bs:List Nat} (h:SubG (DocC w B) ds vs bs) (hk:∀g,g∈ownsL vs++bs→w'.heap[g]?=w.heap[g]?):SubG (DocC w' B) ds vs bs:=by
 induction h with
 | nil=>exact .nil
 | @cons x xs v vs b bs h t ih=>
  refine .cons (h.keep fun g hg=>hk g ?_) (ih fun g hg=>hk g ?_)
  ·rcases hg with hg | hg
   ·exact List.mem_append_left _ (by unfold ownsL;rw[List.flatMap_cons];exact List.mem_append_left _ (mem_own.2 hg))
   ·exact List.mem_append_right _ (List.mem_append_left _ hg)
  ·rcases List.mem_append.1 hg with hg | hg
   ·exact List.mem_append_left _ (by unfold ownsL;rw[List.flatMap_cons];exact List.mem_append_right _ hg)
   ·exact List.mem_append_right _ (List.mem_append_right _ hg)
theorem docs_lt {w:World} {B:Nat} {ds:List (List ET)} {vs:List Value} {bs:List Nat} (h:SubG (DocC w B) ds vs bs):∀g,g∈ownsL vs++bs→B≤g∧g<w.heap.size:=by
 induction h with
 | nil=>intro g hg;simp[ownsL] at hg
 | @cons x xs v vs b bs h t ih=>
  intro g hg;obtain ⟨us,ha,hb⟩:=h;rcases List.mem_append.1 hg with hg | hg
  ·unfold ownsL at hg;rw[List.flatMap_cons] at hg;rcases List.mem_append.1 hg with hg | hg
   ·exact ha.lt (mem_own.1 hg)
   ·exact ih g (List.mem_append_left _ hg)
  ·rcases List.mem_append.1 hg with hg | hg
   ·exact hb.mem g hg
   ·exact ih g (List.mem_append_right _ hg)
structure MemK (w:World) (B gm:Nat) (its1 its2:List IT) (vq vd:Value) (bM:List Nat):Prop where
 self:Blk w gm 47 #[vq,vd,.slice none 0 0]
 seqs:w.ownsRow B 68 1 vq its1.length (its1.map fun it=>.int .u64 it.seq)
 docs:∃vs bN,w.ownsRow B 67 1 vd its2.length vs∧SubG (DocC w B) (its2.map (·.doc)) vs bN∧bN.Nodup∧(ownsL vs).Nodup∧bM=gm::(vq.ownBlock.toList++(vd.ownBlock.toList++(ownsL vs++bN)))
section
variable {w w' w1:World} {B gm:Nat} {its1 its2:List IT} {vq vd:Value} {bM:List Nat}
theorem MemK.keep (h:MemK w B gm its1 its2 vq vd bM) (hk:∀g∈bM,w'.heap[g]?=w.heap[g]?):MemK w' B gm its1 its2 vq vd bM:=by
 obtain ⟨vs,bN,h1,h2,h3,h4,rfl⟩:=h.docs
 exact ⟨(hk gm (List.mem_cons_self ..)).trans h.self,own_stay h.seqs fun g e=>hk g (List.mem_cons_of_mem _ (List.mem_append_left _ (mem_own.2 e))),vs,bN,
  own_stay h1 fun g e=>hk g (List.mem_cons_of_mem _ (List.mem_append_right _ (List.mem_append_left _ (mem_own.2 e)))),
  docs_keep h2 fun g hg=>hk g (List.mem_cons_of_mem _ (List.mem_append_right _ (List.mem_append_right _ hg))),h3,h4,rfl⟩
theorem MemK.lt (h:MemK w B gm its1 its2 vq vd bM):∀g∈bM,g<w.heap.size:=by
 obtain ⟨vs,bN,h1,h2,h3,h4,rfl⟩:=h.docs;intro g hg;rcases List.mem_cons.1 hg with rfl | hg
 ·exact h.self.lt
 ·rcases List.mem_append.1 hg with hg | hg
  ·exact (h.seqs.lt g (mem_own.1 hg)).2
  ·rcases List.mem_append.1 hg with hg | hg
   ·exact (h1.lt g (mem_own.1 hg)).2
   ·exact (docs_lt h2 g hg).2
theorem MemK.below (h:MemK w B gm its1 its2 vq vd bM) (hb:Below w.heap.size w w'):MemK w' B gm its1 its2 vq vd bM:=h.keep fun g hg=>hb.block g (h.lt g hg)
theorem MemK.mem_q (h:MemK w B gm its1 its2 vq vd bM) {g:Nat} (hg:vq.ownBlock=some g):g∈bM:=by
 obtain ⟨vs,bN,h1,h2,h3,h4,rfl⟩:=h.docs;exact List.mem_cons_of_mem _ (List.mem_append_left _ (mem_own.2 hg))
theorem MemK.mem_d (h:MemK w B gm its1 its2 vq vd bM) {g:Nat} (hg:vd.ownBlock=some g):g∈bM:=by
 obtain ⟨vs,bN,h1,h2,h3,h4,rfl⟩:=h.docs;exact List.mem_cons_of_mem _ (List.mem_append_right _ (List.mem_append_left _ (mem_own.2 hg)))
theorem MemK.mem_m (h:MemK w B gm its1 its2 vq vd bM):gm∈bM:=by
 obtain ⟨vs,bN,h1,h2,h3,h4,rfl⟩:=h.docs;exact List.mem_cons_self ..
theorem MemK.stepQ (h:MemK w B gm its1 its2 vq vd bM) {it:IT} {vq':Value} (hg:w.grownBy w1 vq.ownBlock) (ho:w1.ownsRow B 68 1 vq' (its1.length+1) ((its1.map fun it=>.int .u64 it.seq)++[.int .u64 it.seq])) (hat:vq'.ownBlock=vq.ownBlock∨∃g,vq'.ownBlock=some g∧w.heap.size≤g) :
 ∃bM',MemK (w1.setCell ⟨gm,0,none⟩ vq') B gm (its1++[it]) its2 vq' vd bM'∧∀g∈bM',g∈bM∨w.heap.size≤g:=by
 obtain ⟨vs,bN,h1,h2,h3,h4,rfl⟩:=h.docs;have hb3:Blk w1 gm 47 _:=h.self.grown hg (fun e=>own_blk_ne h.seqs h.self (by decide) e.symm);have kt:KeepT okM w w1:=KeepT.of_row hg h.seqs (by simp[okM]);have ks:KeepT okM w1 (w1.setCell ⟨gm,0,none⟩ vq'):=KeepT.of_set hb3 (by simp[okM]) 0 vq'
 have hd3:w1.ownsRow B 67 1 vd its2.length vs:=own_stay h1 fun g e=>hg.block g (h1.lt g e).2 fun e2=>by
  rcases own_own_ne h1 h.seqs (by decide) with h0 | h0
  ·rw[h0] at e;cases e
  ·exact h0 (e.trans e2)
 refine ⟨_,⟨by simpa using hb3.set_ 0 vq',?_,vs,bN,own_setCell_ne hd3 (own_blk_ne hd3 hb3 (by decide)) _,h2.imp fun x v b hp=>hp.keepT (kt.trans ks) (.inl rfl) (.inr rfl),h3,h4,rfl⟩,fun g hg'=>?_⟩
 ·rw[List.length_append,List.length_singleton,List.map_append];exact own_setCell_ne ho (own_blk_ne ho hb3 (by decide)) _
 ·rcases List.mem_cons.1 hg' with rfl | hg'
  ·exact .inl (List.mem_cons_self ..)
  ·rcases List.mem_append.1 hg' with hg' | hg'
   ·rcases hat with e | ⟨g',e,hge⟩
    ·rw[e] at hg';exact .inl (List.mem_cons_of_mem _ (List.mem_append_left _ hg'))
    ·rw[mem_own,e] at hg';obtain rfl:=Option.some.inj hg';exact .inr hge
   ·exact .inl (List.mem_cons_of_mem _ (List.mem_append_right _ hg'))
theorem MemK.stepD (h:MemK w B gm its1 its2 vq vd bM) {it:IT} {u:Value} {bu:List Nat} {N:Nat} (hu:DocC w B it.doc u bu) (hun:bu.Nodup) (hN:∀g,u.ownBlock=some g∨g∈bu→N≤g) (hM:∀g∈bM,g<N) :
 ∃vs,w.ownsRow B 67 1 vd its2.length vs∧∀(vd':Value) (w1:World),w.grownBy w1 vd.ownBlock→w1.ownsRow B 67 1 vd' (its2.length+1) (vs++[u])→(vd'.ownBlock=vd.ownBlock∨∃g,vd'.ownBlock=some g∧w.heap.size≤g)→N≤w.heap.size→
  ∃bM',MemK (w1.setCell ⟨gm,1,none⟩ vd') B gm its1 (its2++[it]) vq vd' bM'∧∀g∈bM',g∈bM∨N≤g:=by
 obtain ⟨vs,bN,h1,h2,h3,h4,rfl⟩:=h.docs;refine ⟨vs,h1,fun vd' w1 hg ho hat hNw=>?_⟩;have hb3:Blk w1 gm 47 _:=h.self.grown hg (fun e=>own_blk_ne h1 h.self (by decide) e.symm);have kt:KeepT okM w w1:=KeepT.of_row hg h1 (by simp[okM]);have ks:KeepT okM w1 (w1.setCell ⟨gm,1,none⟩ vd'):=KeepT.of_set hb3 (by simp[okM]) 1 vd'
 have hq3:w1.ownsRow B 68 1 vq its1.length (its1.map fun it=>.int .u64 it.seq):=own_stay h.seqs fun g e=>hg.block g (h.seqs.lt g e).2 fun e2=>by
  rcases own_own_ne h.seqs h1 (by decide) with h0 | h0
  ·rw[h0] at e;cases e
  ·exact h0 (e.trans e2)
 have eo:ownsL (vs++[u])=ownsL vs++u.ownBlock.toList:=by simp[ownsL]
 refine ⟨_,⟨by simpa using hb3.set_ 1 vd',own_setCell_ne hq3 (own_blk_ne hq3 hb3 (by decide)) _,vs++[u],bN++bu,?_,?_,?_,?_,rfl⟩,fun g hg'=>?_⟩
 ·rw[List.length_append,List.length_singleton];exact own_setCell_ne ho (own_blk_ne ho hb3 (by decide)) _
 ·rw[List.map_append];refine SubG.append (h2.imp fun x v b hp=>hp.keepT (kt.trans ks) (.inl rfl) (.inr rfl)) ?_;exact SubG.one (hu.keepT (kt.trans ks) (.inl rfl) (.inr rfl))
 ·rw[List.nodup_append];refine ⟨h3,hun,fun g hg1 g' hg2 e=>?_⟩;subst e;have:=hM g (List.mem_cons_of_mem _ (List.mem_append_right _ (List.mem_append_right _ (List.mem_append_right _ hg1))));have:=hN g (.inr hg2);omega
 ·rw[eo,List.nodup_append];refine ⟨h4,by rw[List.nodup_iff_count];exact fun g=>count_toList _ g,fun g hg1 g' hg2 e=>?_⟩;subst e;have:=hM g (List.mem_cons_of_mem _ (List.mem_append_right _ (List.mem_append_right _ (List.mem_append_left _ hg1))));have:=hN g (.inl (mem_own.1 hg2));omega
 ·rcases List.mem_cons.1 hg' with rfl | hg'
  ·exact .inl (List.mem_cons_self ..)
  ·rcases List.mem_append.1 hg' with hg' | hg'
   ·exact .inl (List.mem_cons_of_mem _ (List.mem_append_left _ hg'))
   ·rcases List.mem_append.1 hg' with hg' | hg'
    ·rcases hat with e | ⟨g',e,hge⟩
     ·rw[e] at hg';exact .inl (List.mem_cons_of_mem _ (List.mem_append_right _ (List.mem_append_left _ hg')))
     ·rw[mem_own,e] at hg';obtain rfl:=Option.some.inj hg';exact .inr (by omega)
    ·rcases List.mem_append.1 hg' with hg' | hg'
     ·rw[eo] at hg';rcases List.mem_append.1 hg' with hg' | hg'
      ·exact .inl (List.mem_cons_of_mem _ (List.mem_append_right _ (List.mem_append_right _ (List.mem_append_left _ hg'))))
      ·exact .inr (hN g (.inl (mem_own.1 hg')))
     ·rcases List.mem_append.1 hg' with hg' | hg'
      ·exact .inl (List.mem_cons_of_mem _ (List.mem_append_right _ (List.mem_append_right _ (List.mem_append_right _ hg'))))
      ·exact .inr (hN g (.inr hg'))
end
end Go.Proofs.YtigfcihakghddaaGreatDoor.BufT
end
section
namespace BufP
open SchP AnaP
section
variable {toks:List FT→Int→List CT→List TokD} {cells:List FT→List ET→Except Int (List CT)} {l:List FT}
theorem docD_len (d:Int) (cs:List CT) (xs:List FD):(docD toks l d cs xs).length=xs.length:=by unfold docD;exact List.length_mapIdx
theorem docD_get {d:Int} {cs:List CT} {xs:List FD} {k:Nat} (hk:k<xs.length):(docD toks l d cs xs)[k]?=some (stepD toks l k ((l[k]?.map (·.kind)).getD 0) d (ofF k cs) xs[k]):=by
 unfold docD;rw[List.getElem?_mapIdx,List.getElem?_eq_getElem hk];rfl
end
end BufP
end
section
namespace Go.Proofs.YtigfcihakghddaaGreatDoor.BufT
open Go Go.RowKit Words Tree Owned MapV BufP Sch SchP AnaP Kit
theorem stepF_errB {l:List FT} {out:List (CT × Nat)} {e:ET} {n:Int} (h:stepF decO runO l out e = .error n):n≠0:=by
 unfold stepF at h;split at h
 ·cases h;decide
 ·split at h
  ·cases h;decide
  ·split at h
   ·cases h;decide
   ·split at h
    ·cases h;decide
    ·split at h
     ·cases h;decide
     ·split at h
      ·cases h;decide
      ·cases h
theorem goF_errB {l:List FT}:∀{d:List ET} {out:List (CT × Nat)} {n:Int},goF decO runO l out d = .error n→n≠0
 | [],out,n,h=>by simp[goF] at h
 | e::d,out,n,h=>by
  simp only[goF] at h;split at h
  ·rename_i m hm
   injection h with h;rw[←h];exact stepF_errB hm
  ·exact goF_errB h
theorem cellsF_errB {l:List FT} {d:List ET} {n:Int} (h:cellsF decO runO l d = .error n):n≠0:=by
 unfold cellsF at h;split at h
 ·cases h;decide
 ·split at h
  ·cases h;decide
  ·cases hg:goF decO runO l [] d with
   | error m=>rw[hg] at h;injection h with h;rw[←h];exact goF_errB hg
   | ok o=>rw[hg] at h;cases h
abbrev cellsO (l:List FT) (d:List ET):Except Int (List CT):=cellsF decO runO l d
theorem goD_err {l:List FT} {d:Nat} {xs:List FD} {its:List IT} {n:Int} (hd:d<its.length) (h:cellsF decO runO l its[d].doc = .error n):goD toksF cellsO l d xs (its.drop d) = .error n:=by
 rw[List.drop_eq_getElem_cons hd,goD];show (match cellsF decO runO l its[d].doc with | .error n=>Except.error n | .ok cs=>_)=_;rw[h]
theorem goD_ok {l:List FT} {d:Nat} {xs:List FD} {its:List IT} {cs:List CT} (hd:d<its.length) (h:cellsF decO runO l its[d].doc = .ok cs):goD toksF cellsO l d xs (its.drop d)=goD toksF cellsO l (d+1) (docD toksF l d cs xs) (its.drop (d+1)):=by
 rw[List.drop_eq_getElem_cons hd,goD];show (match cellsF decO runO l its[d].doc with | .error n=>Except.error n | .ok cs=>_)=_;rw[h]
theorem goD_end {l:List FT} {xs:List FD} {its:List IT}:goD toksF cellsO l its.length xs (its.drop its.length) = .ok xs:=by rw[List.drop_length,goD]
theorem buildD_err {l:List FT} {its:List IT} (h:rightD l its≠0):buildD toksF cellsO l its = .error (rightD l its):=by unfold buildD;rw[if_pos h]
theorem buildD_ok {l:List FT} {its:List IT} (h:rightD l its=0):buildD toksF cellsO l its=goD toksF cellsO l 0 (List.replicate l.length FD.zero) its:=by unfold buildD;rw[if_neg (by simp[h])]
theorem right_zero {l:List FT} {its:List IT} (h:rightD l its=0):checkS l=true∧its.length≤16384:=by
 unfold rightD at h;split at h
 ·cases h
 ·rename_i h1
  split at h
  ·cases h
  ·exact ⟨by simpa using h1,by omega⟩
def partD (l:List FT) (d:Int) (cs:List CT) (xs:List FD) (k:Nat):List FD:=(docD toksF l d cs xs).take k++xs.drop k
theorem docD_lenO {l:List FT} {d:Int} {cs:List CT} {xs:List FD}:(docD toksF l d cs xs).length=xs.length:=docD_len d cs xs
theorem partD_zero {l:List FT} {d:Int} {cs:List CT} {xs:List FD}:partD l d cs xs 0=xs:=by simp[partD]
theorem partD_all {l:List FT} {d:Int} {cs:List CT} {xs:List FD}:partD l d cs xs xs.length=docD toksF l d cs xs:=by
 unfold partD;rw[List.drop_length,List.append_nil,←docD_lenO (l:=l) (d:=d) (cs:=cs),List.take_length]
theorem partD_get {l:List FT} {d:Int} {cs:List CT} {xs:List FD} {k:Nat} (hk:k<xs.length):(partD l d cs xs k)[k]?=some xs[k]:=by
 unfold partD;rw[List.getElem?_append_right (by rw[List.length_take];omega),List.length_take,docD_lenO,Nat.min_eq_left (by omega),Nat.sub_self,List.getElem?_drop,Nat.add_zero,List.getElem?_eq_getElem hk]
theorem partD_step {l:List FT} {d:Int} {cs:List CT} {xs:List FD} {k:Nat} (hk:k<xs.length) (hl:k<l.length):partD l d cs xs (k+1)=(partD l d cs xs k).set k (stepD toksF l k l[k].kind d (ofF k cs) xs[k]):=by
 have hd:k<(docD toksF l d cs xs).length:=by rw[docD_lenO];exact hk
 have h1:(docD toksF l d cs xs)[k]=stepD toksF l k l[k].kind d (ofF k cs) xs[k]:=(by have:=docD_get (toks:=toksF) (l:=l) (d:=d) (cs:=cs) hk;rw[List.getElem?_eq_getElem hd,List.getElem?_eq_getElem hl] at this;simpa using this)
 unfold partD;rw[List.take_succ_eq_append_getElem hd,h1,List.append_assoc,List.set_append_right _ _ (by rw[List.length_take];omega),List.length_take,Nat.min_eq_left (by omega),Nat.sub_self,List.drop_eq_getElem_cons hk,List.set_cons_zero];rfl
structure FewD (d:Nat) (x:FD):Prop where
 adds:x.adds.length≤262144*d
 lens:x.lens.length≤d
 texts:x.texts.length≤d
 nums:x.nums.length≤d
 pts:x.pts.length≤64*d
theorem FewD.few {d:Nat} {x:FD} (h:FewD d x) (hd:d≤16384):Few x:=⟨by have:=h.adds;omega,by have:=h.lens;omega,by have:=h.texts;omega,by have:=h.nums;omega,by have:=h.pts;omega⟩
theorem FewD.zero:FewD 0 FD.zero:=⟨by simp[FD.zero],by simp[FD.zero],by simp[FD.zero],by simp[FD.zero],by simp[FD.zero]⟩
theorem FewD.step {d:Nat} {x:FD} (h:FewD d x) {l:List FT} {k:Nat} {kd dd:Int} {cs:List CT} (hc:cs.length≤64):FewD (d+1) (stepD toksF l k kd dd cs x):=by
 have h1:=h.adds;have h2:=h.lens;have h3:=h.texts;have h4:=h.nums;have h5:=h.pts;have ht:=(toksF_ok l k cs).len
 have hk:(kwsF cs).length≤cs.length:=(by unfold kwsF;have:=compact_len ((cs.map fun c=>c.text.data.toList).mergeSort Go.leB);rw[List.length_mergeSort,List.length_map] at this;exact this)
 unfold stepD;split
 ·constructor <;> (try simp only[textAd,List.length_append,List.length_map,List.length_singleton]) <;> omega
 ·split
  ·constructor <;> (try simp only[List.length_append,List.length_map,List.length_singleton]) <;> omega
  ·split
   ·constructor <;> (try simp only[ptsF,List.length_append,List.length_map]) <;> omega
   ·constructor <;> (try simp only[ptsF,List.length_append,List.length_map,List.length_singleton]) <;> omega
theorem FewD.doc {d:Nat} {xs:List FD} (h:∀x∈xs,FewD d x) {l:List FT} {dd:Int} {cs:List CT} (hc:cs.length≤64):∀x∈docD toksF l dd cs xs,FewD (d+1) x:=by
 intro x hx;unfold docD at hx;rw[List.mem_mapIdx] at hx;obtain ⟨i,hi,rfl⟩:=hx;exact (h _ (List.getElem_mem hi)).step (Nat.le_trans (List.length_filter_le _ _) hc)
inductive C3s (w:World) (S:Nat→Prop):List CT→List C3→Prop
 | nil:C3s w S [] []
 | cons {c:CT} {cs:List CT} {y:C3} {ys:List C3} (hf:y.f=c.field) (ht:y.t=c.text) (hn:T.At bare w S (numsT .i64 c.nums) (.slice y.a y.n y.c)) (t:C3s w S cs ys):C3s w S (c::cs) (y::ys)
theorem C3s.of {w:World} {S:Nat→Prop}:∀{cs:List CT} {ys:List C3},ys.length=cs.length→(∀i (h:i<cs.length) (h':i<ys.length),ys[i].f=cs[i].field∧ys[i].t=cs[i].text∧T.At bare w S (numsT .i64 cs[i].nums) (.slice ys[i].a ys[i].n ys[i].c))→C3s w S cs ys
 | [],[],_,_=>.nil
 | c::cs,y::ys,hl,h=>by obtain ⟨h1,h2,h3⟩:=h 0 (by simp) (by simp);exact .cons h1 h2 h3 (C3s.of (by simpa using hl) fun i hi hi'=>h (i+1) (by simpa using hi) (by simpa using hi'))
 | [],_::_,hl,_=>by simp at hl
 | _::_,[],hl,_=>by simp at hl
theorem C3s.keepS {w w':World} {S S':Nat→Prop} {cs:List CT} {ys:List C3} (h:C3s w S cs ys) (hk:∀p:Addr,S p.block→w'.cell? p=w.cell? p) (hS:∀g,S g→S' g):C3s w' S' cs ys:=by
 induction h with
 | nil=>exact .nil
 | cons hf ht hn t ih=>exact .cons hf ht (At.keep hk hS hn) ih
theorem C3s.atL {w:World} {S:Nat→Prop} {cs:List CT} {ys:List C3} (h:C3s w S cs ys):T.AtL bare w S (cs.flatMap ccells) (ys.flatMap c3V):=by
 induction h with
 | nil=>simp[T.AtL]
 | cons hf ht hn t ih=>
  rw[List.flatMap_cons,List.flatMap_cons];refine AtL.append ?_ ih;simp only[ccells,c3V,T.AtL,T.At,and_true];exact ⟨by rw[hf],by rw[ht],hn⟩
theorem C3s.filter {w:World} {S:Nat→Prop} {cs:List CT} {ys:List C3} (h:C3s w S cs ys) (k:Nat):C3s w S (ofF k cs) (ys.filter fun y=>!(y.f != (k:Int))):=by
 unfold ofF
 induction h with
 | nil=>exact .nil
 | @cons c cs y ys hf ht hn t ih=>
  by_cases hc:c.field=(k:Int)
  ·rw[List.filter_cons_of_pos (by simpa using hc),List.filter_cons_of_pos (by rw[hf];simpa using hc)];exact .cons hf ht hn ih
  ·rw[List.filter_cons_of_neg (by simpa using hc),List.filter_cons_of_neg (by rw[hf];simpa using hc)];exact ih
theorem C3s.len {w:World} {S:Nat→Prop} {cs:List CT} {ys:List C3} (h:C3s w S cs ys):ys.length=cs.length:=by
 induction h with
 | nil=>rfl
 | cons _ _ _ _ ih=>simp[ih]
theorem own_cells_at {w:World} {B n c:Nat} {A:Option Addr} {S:Nat→Prop} {cs:List CT} {ys:List C3} (ho:w.ownsRow B 103 3 (.slice A n c) n (ys.flatMap c3V)) (hn:n=ys.length) (h:C3s w S cs ys) (hS:∀g,(Value.slice A n c).ownBlock=some g→S g):T.At bare w S (cellsT cs) (.slice A n c):=by
 subst hn;have hl:=h.len;simp only[rowT,T.At];rw[←hl]
 rcases ho.2 with ⟨hv,h0⟩ | ⟨g,cap,cur,hv,hB,hb,h1,h2,h3,h4⟩
 ·injection hv with e1 e2 e3;subst e1 e3;exact ⟨none,0,_,rfl,by simp[bare,h0],by unfold maxLen;omega,by rw[flatMap_len ccells ccells_len,hl],fun hlt=>by simp[bare,h0] at hlt,h.atL⟩
 ·injection hv with e1 e2 e3;subst e1 e3;refine ⟨_,c,_,rfl,by simpa [bare] using h1,h2,by rw[flatMap_len ccells ccells_len,hl],fun _=>⟨_,rfl,hS g rfl,?_⟩,h.atL⟩;have:=ho.cells (g:=g) rfl;simpa [bare,Cells] using this
end Go.Proofs.YtigfcihakghddaaGreatDoor.BufT
end
section
namespace Go.Proofs.YtigfcihakghddaaGreatDoor.BufT
open Go Words Tree BufP Sch SchP AnaP Kit
def givenL:List FT:=[⟨⟨#[116]⟩,1,[1,10],0,0,false,false⟩,⟨⟨#[107]⟩,2,[],0,0,true,false⟩,⟨⟨#[110]⟩,3,[],0,0,true,false⟩]
def firstE:List ET:=[⟨⟨#[116]⟩,⟨#[65,32,98,32,97]⟩,[]⟩,⟨⟨#[107]⟩,⟨#[120]⟩,[]⟩,⟨⟨#[110]⟩,⟨#[]⟩,[5]⟩]
def secondE:List ET:=[⟨⟨#[107]⟩,⟨#[121]⟩,[]⟩,⟨⟨#[107]⟩,⟨#[120]⟩,[]⟩,⟨⟨#[110]⟩,⟨#[]⟩,[2]⟩,⟨⟨#[110]⟩,⟨#[]⟩,[2]⟩]
def itemsL:List IT:=[⟨3,firstE⟩,⟨7,secondE⟩]
def firstC:List CT:=[⟨0,⟨#[65,32,98,32,97]⟩,[]⟩,⟨1,⟨#[120]⟩,[]⟩,⟨2,⟨#[]⟩,[5]⟩]
def secondC:List CT:=[⟨1,⟨#[121]⟩,[]⟩,⟨1,⟨#[120]⟩,[]⟩,⟨2,⟨#[]⟩,[2]⟩,⟨2,⟨#[]⟩,[2]⟩]
theorem kb_first:cellsF decO runO givenL firstE = .ok firstC:=by kernel_rfl
theorem kb_second:cellsF decO runO givenL secondE = .ok secondC:=by kernel_rfl
theorem kb_right:rightD givenL itemsL=0:=by kernel_rfl
theorem kb_toks1:∃f0 t0 f1 t1 f2 t2,toksF givenL 0 [⟨0,⟨#[65,32,98,32,97]⟩,[]⟩]=[⟨⟨#[97]⟩,0,f0,t0⟩,⟨⟨#[98]⟩,1,f1,t1⟩,⟨⟨#[97]⟩,2,f2,t2⟩]:=⟨0,1,2,3,4,5,by kernel_rfl⟩
theorem kb_toks2:toksF givenL 0 []=[]:=by kernel_rfl
theorem kb_kw1:kwsF [⟨1,⟨#[120]⟩,[]⟩]=[[120]]:=by
 refine rise_ext (l:=kwsF _) rise_compact ?_ (fun x=>?_)
 ·simp
 ·unfold kwsF;rw[mem_sortC];simp
theorem kb_kw2:kwsF [⟨1,⟨#[121]⟩,[]⟩,⟨1,⟨#[120]⟩,[]⟩]=[[120],[121]]:=by
 refine rise_ext (l:=kwsF _) rise_compact ?_ (fun x=>?_)
 ·simp only[List.pairwise_cons,List.mem_singleton,forall_eq,List.not_mem_nil,false_implies,implies_true,List.Pairwise.nil,and_true];decide
 ·unfold kwsF;rw[mem_sortC];simp[or_comm]
theorem kb_n1:numF [⟨2,⟨#[]⟩,[5]⟩]=[5]:=by simp[numF]
theorem kb_n2:numF [⟨2,⟨#[]⟩,[2]⟩,⟨2,⟨#[]⟩,[2]⟩]=[2,2]:=by simp[numF,List.mergeSort,List.MergeSort.Internal.splitInTwo,List.merge]
def x0F:FD:=⟨[⟨[97],0,0⟩,⟨[98],0,1⟩,⟨[97],0,2⟩],[3,0],[],[],[]⟩
def x1F:FD:=⟨[⟨[120],0,0⟩,⟨[120],1,0⟩,⟨[121],1,0⟩],[],[[[120]],[[120],[121]]],[],[]⟩
def x2F:FD:=⟨[],[],[],[[5],[2,2]],[(0,[5]),(1,[2]),(1,[2])]⟩
theorem kb_build:buildD toksF cellsO givenL itemsL = .ok [x0F,x1F,x2F]:=by
 rw[buildD_ok kb_right];have h1:=goD_ok (xs:=List.replicate givenL.length FD.zero) (d:=0) (its:=itemsL) (l:=givenL) (by decide) kb_first;rw[List.drop_zero] at h1;rw[h1,goD_ok (d:=1) (by decide) kb_second];show goD toksF cellsO givenL 2 _ []=_;rw[goD];have e0:ofF 0 firstC=[⟨0,⟨#[65,32,98,32,97]⟩,[]⟩]:=by kernel_rfl
 have e1:ofF 1 firstC=[⟨1,⟨#[120]⟩,[]⟩]:=by kernel_rfl
 have e2:ofF 2 firstC=[⟨2,⟨#[]⟩,[5]⟩]:=by kernel_rfl
 have f0:ofF 0 secondC=[]:=by kernel_rfl
 have f1:ofF 1 secondC=[⟨1,⟨#[121]⟩,[]⟩,⟨1,⟨#[120]⟩,[]⟩]:=by kernel_rfl
 have f2:ofF 2 secondC=[⟨2,⟨#[]⟩,[2]⟩,⟨2,⟨#[]⟩,[2]⟩]:=by kernel_rfl
 obtain ⟨u0,t0,u1,t1,u2,t2,ht⟩:=kb_toks1;have hd:∀(d:Int) (cs:List CT) (a b c:FD),docD toksF givenL d cs [a,b,c]=[stepD toksF givenL 0 1 d (ofF 0 cs) a,stepD toksF givenL 1 2 d (ofF 1 cs) b,stepD toksF givenL 2 3 d (ofF 2 cs) c]:=fun d cs a b c=>rfl;rw[show List.replicate givenL.length FD.zero=[FD.zero,FD.zero,FD.zero] from rfl,hd,hd,e0,e1,e2,f0,f1,f2];simp only[stepD,show ((0:Nat):Int)=0 from rfl,ht,kb_toks2,kb_kw1,kb_kw2,kb_n1,kb_n2,textAd,ptsF,FD.zero,x0F,x1F,x2F];simp
theorem kb_terms0:termsF x0F.adds=[[97],[98]]:=by
 refine rise_ext (terms_rise _) ?_ (fun x=>?_)
 ·simp only[List.pairwise_cons,List.mem_singleton,forall_eq,List.not_mem_nil,false_implies,implies_true,List.Pairwise.nil,and_true];decide
 ·rw[mem_termsF];by_cases h1:x=[97] <;> by_cases h2:x=[98] <;> simp[hasT,x0F,h1,h2,eq_comm]
theorem kb_docs:∀{L:List Ad} {s:List UInt8} {m:List Int},m.Pairwise (fun a b=>a<b)→(∀x,hasD L s x↔x∈m)→docsF L s=m:=fun h1 h2=>riseZ_ext (docs_rise _ _) h1 fun x=>by rw[mem_docsF];exact h2 x
theorem kb_done0:doneF x0F=⟨[[97],[98]],[[(0,[0,2])],[(0,[1])]],[3,0],[],[],[]⟩:=by
 have d1:docsF x0F.adds [97]=[0]:=kb_docs (by simp) (fun x=>by simp[hasD,x0F,eq_comm]);have d2:docsF x0F.adds [98]=[0]:=kb_docs (by simp) (fun x=>by simp[hasD,x0F,eq_comm]);have p1:posF x0F.adds [97] 0=[0,2]:=by kernel_rfl
 have p2:posF x0F.adds [98] 0=[1]:=by kernel_rfl
 simp only[doneF,kb_terms0,List.map_cons,List.map_nil,postsF,d1,d2,p1,p2];rfl
theorem kb_terms1:termsF x1F.adds=[[120],[121]]:=by
 refine rise_ext (terms_rise _) ?_ (fun x=>?_)
 ·simp only[List.pairwise_cons,List.mem_singleton,forall_eq,List.not_mem_nil,false_implies,implies_true,List.Pairwise.nil,and_true];decide
 ·rw[mem_termsF];simp[hasT,x1F,eq_comm]
theorem kb_done1:doneF x1F=⟨[[120],[121]],[[(0,[0]),(1,[0])],[(1,[0])]],[],[[[120]],[[120],[121]]],[],[]⟩:=by
 have d1:docsF x1F.adds [120]=[0,1]:=kb_docs (by simp) (fun x=>by simp[hasD,x1F,eq_comm]);have d2:docsF x1F.adds [121]=[1]:=kb_docs (by simp) (fun x=>by simp[hasD,x1F,eq_comm]);have p1:posF x1F.adds [120] 0=[0]:=by kernel_rfl
 have p2:posF x1F.adds [120] 1=[0]:=by kernel_rfl
 have p3:posF x1F.adds [121] 1=[0]:=by kernel_rfl
 simp only[doneF,kb_terms1,List.map_cons,List.map_nil,postsF,d1,d2,p1,p2,p3];rfl
theorem kb_done2:doneF x2F=⟨[],[],[],[],[[5],[2,2]],[(0,[5]),(1,[2]),(1,[2])]⟩:=by
 have t:termsF x2F.adds=[]:=rise_ext (terms_rise _) (by simp) (fun x=>by rw[mem_termsF];simp[hasT,x2F]);simp only[doneF,t,List.map_nil];rfl
theorem kb_ok:∀f∈givenL,FOk f:=by
 intro f hf;simp only[givenL,List.mem_cons,List.not_mem_nil,or_false] at hf;rcases hf with rfl | rfl | rfl
 all_goals exact ⟨by decide,by unfold I64;decide,⟨by decide,fun z hz=>by (first | (simp at hz;unfold I64;omega) | (simp at hz))⟩,by unfold I64;decide,by unfold I64;decide⟩
end Go.Proofs.YtigfcihakghddaaGreatDoor.BufT
end
section
namespace Go.Proofs.YtigfcihakghddaaGreatDoor.HeldU
open Go
section
variable {P:Program} {ops:Array Oper} {Q:Exit→Act→World→Prop} {md:Region.Mode} {S:World→Prop} {m:Array Bool}
theorem wpAnyH_of_any:∀(fuel:Nat) (listed:Array Bool) (a:Act) (w:World),wpAny P md ops Q fuel listed a w→wpAnyH P md ops Q (fun _=>True) fuel listed a w
 | 0,_,_,_,h=>h
 | fuel+1,_,_,_,h=>⟨h.1,fun i hi=>wpOp_mono (fun a' w' h'=>⟨trivial,wpAnyH_of_any fuel _ a' w' h'⟩) (h.2 i hi)⟩
theorem wpAnyU_on {fuel:Nat} {listed:Array Bool} {a:Act} {w:World} (m:Array Bool) (S:World→Prop) (hS:S w) (h:S w→wpAnyU P md ops Q S m fuel listed a w):wpAnyH P md ops Q (fun _=>True) fuel listed a w:=
 wpAnyH_of_any _ _ _ _ (wpAny_of_until _ _ _ _ (h hS))
theorem wpAnyU_done {fuel:Nat} {listed:Array Bool} {a:Act} {w:World} (hr:Region.ready md ops listed=[]) (h:Q .normal a w):wpAnyU P md ops Q S m fuel listed a w:=by
 cases fuel with
 | zero=>exact ⟨hr,h⟩
 | succ n=>
  rw[wpAnyU];split
  ·exact ⟨fun _=>h,fun i hi=>by rw[hr] at hi;cases hi⟩
  ·exact ⟨fun _=>h,fun i hi=>by rw[hr] at hi;cases hi⟩
end
end Go.Proofs.YtigfcihakghddaaGreatDoor.HeldU
end
