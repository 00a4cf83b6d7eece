/- Lemmas that the last text leans on. -/
import Derived.Test.YtigfcihakghddaaGreatDoorPack35
import Derived.Test.YtigfcihakghddaaGreatDoorShelf
import Derived.Lib.SlKeysI
import Derived.Test.YtigfcihakghddaaGreatDoorBufI
import Derived.Test.YtigfcihakghddaaGreatDoorPack32
set_option linter.all false
section
namespace Go.Proofs.YtigfcihakghddaaGreatDoor.BufT
open Go Go.RowKit Go.Maps Words Tree MapV BufP
section
variable {w:World} {P:Program} {k:TypeId} {b n:Nat} {D:DataW Value}
theorem keysS_of (h:MapV w P k b n D) (K:Keyed P k) (hk:P.underlying k=some .string):(strKeys D).Nodup∧∀x,x∈strKeys D↔has D (.string x)=true:=by
 obtain ⟨es,hD,hpw,_⟩:=World.ownsMap.entries h K;obtain ⟨es',hD',hko⟩:=World.ownsMap.keysOf h;obtain rfl:es=es':=by rw[hD] at hD';simpa using hD'
 subst hD;have hs:∀p∈es,∃x,p.1 = .string x:=fun p hp=>by obtain ⟨v,hv⟩:=hko p hp;obtain ⟨x,_,hx,_⟩:=Maps.keyOf_str hk hv;exact ⟨x,hx⟩
 refine ⟨?_,fun x=>?_⟩
 ·show (es.map fun p=>strOf p.1).Nodup;refine List.pairwise_map.2 (hpw.imp_of_mem fun {p q} hp' hq' hne e=>hne ?_);obtain ⟨a,ha⟩:=hs p hp';obtain ⟨b,hb⟩:=hs q hq';rw[ha,hb] at e ⊢;exact congrArg _ e
 ·rw[has_eq,List.any_eq_true];show x∈es.map (fun p=>strOf p.1)↔_;rw[List.mem_map];constructor
  ·rintro ⟨p,hp',rfl⟩;obtain ⟨a,ha⟩:=hs p hp';exact ⟨p,hp',by rw[ha];simp[Lit.sameKey,strOf]⟩
  ·rintro ⟨p,hp',hx⟩;obtain ⟨a,ha⟩:=hs p hp';rw[ha] at hx;exact ⟨p,hp',by rw[ha];simpa [Lit.sameKey,strOf] using hx⟩
theorem keysI_of (h:MapV w P k b n D) (K:Keyed P k) (hk:P.underlying k=some (.int .i64)):(intKeys D).Nodup∧∀x,x∈intKeys D↔has D (.int .i64 x)=true:=by
 obtain ⟨es,hD,hpw,_⟩:=World.ownsMap.entries h K;obtain ⟨es',hD',hko⟩:=World.ownsMap.keysOf h;obtain rfl:es=es':=by rw[hD] at hD';simpa using hD'
 subst hD;have hs:∀p∈es,∃x,p.1 = .int .i64 x:=fun p hp=>by obtain ⟨v,hv⟩:=hko p hp;obtain ⟨x,_,hx,_⟩:=Maps.keyOf_i64 hk hv;exact ⟨x,hx⟩
 refine ⟨?_,fun x=>?_⟩
 ·show (es.map fun p=>Go.intOf p.1).Nodup;refine List.pairwise_map.2 (hpw.imp_of_mem fun {p q} hp' hq' hne e=>hne ?_);obtain ⟨a,ha⟩:=hs p hp';obtain ⟨b,hb⟩:=hs q hq';rw[ha,hb] at e ⊢;exact congrArg _ e
 ·rw[has_eq,List.any_eq_true];show x∈es.map (fun p=>Go.intOf p.1)↔_;rw[List.mem_map];constructor
  ·rintro ⟨p,hp',rfl⟩;obtain ⟨a,ha⟩:=hs p hp';exact ⟨p,hp',by rw[ha];simp[Lit.sameKey,Go.intOf]⟩
  ·rintro ⟨p,hp',hx⟩;obtain ⟨a,ha⟩:=hs p hp';rw[ha] at hx;exact ⟨p,hp',by rw[ha];simpa [Lit.sameKey,Go.intOf] using hx⟩
end
open Go.Sort Go.Shelf in
theorem sortsZ (m:Nat):AnyZI.SortsIn Tryz.prog Tryz.sorted79_ren Fence.wide m:=
 ⟨fun blk off cap ss W hH hblk hsz=>callsIn_wide.2 (Tryz.slices_Sort_int_f112 blk off cap ss W hH hblk hsz),
  fun p cap W=>callsIn_wide.2 (Tryz.slices_Sort_int_none_f112 p cap W)⟩
open Go.Sort Go.Shelf in
set_option maxHeartbeats 1000000 in
theorem sortedZ (b nn:Nat) (D0:DataW Value) (R:Value→Option (DataW Value × List MemPlace)) (w:World) (hown:w.ownsMap Tryz.prog 3 R b nn D0) (hmax:Maps.size D0≤maxLen) (hbytes:Maps.size D0*8≤140737488355328) :
 CallsIn Fence.wide 5 Tryz.prog 79 #[.func (.func 113) #[] #[.pointer (some ⟨w.heap.size,0,none⟩)]] (w.alloc (.cells #[.map (some b)] 143)) fun e w'=>∃(v:Value) (ss:List Int),e = .returned v∧ss.Perm (intKeys D0)∧
  w'.ownsRow (w.alloc (.cells #[.map (some b)] 143)).heap.size 3 1 v ss.length ((ss.mergeSort (fun x y=>decide (x≤y))).map encZ)∧(v = .slice none 0 0↔ss=[])∧Below (w.alloc (.cells #[.map (some b)] 143)).heap.size (w.alloc (.cells #[.map (some b)] 143)) w':=by
 have hbl:=hown.lt
 have hseq:SeqGives Fence.wide 2 Tryz.prog 113 #[.pointer (some ⟨w.heap.size,0,none⟩)] encZ (fun ss=>ss.Perm (intKeys D0)) (Maps.size D0) (w.alloc (.cells #[.map (some b)] 143)):=
  AnyZI.keys_gives (ρ:=Tryz.keys80_ren) { Tryz.keys80 with } Fence.wide _ trivial rfl (by omega) w.heap.size b nn D0 _ (by simp) (by simp) (by
   obtain ⟨es,clock,hb,Ft,hs,hD⟩:=hown
   exact ⟨es,clock,(Below.heap_alloc _ _ b hbl).trans hb,Ft,hs,hD⟩)
 exact AnyZI.sorted_in Tryz.sorted79 Fence.wide 5 trivial trivial trivial trivial rfl (by omega) (sortsZ _) (enters_of Tryz.func112 (by kernel_rfl) rfl) 113 #[.pointer (some ⟨w.heap.size,0,none⟩)] trivial (enters_of Tryz.func113 (by kernel_rfl) rfl) _ _ hmax hbytes _ hseq
theorem keysT (w:World) (b:Nat) :
 Calls Tryz.prog 78 #[.map (some b)] w fun e w'=>e = .returned (.func (.func 110) #[] #[.pointer (some ⟨w.heap.size,0,none⟩)])∧w'=w.alloc (.cells #[.map (some b)] 93):=
 callsIn_wide.1 (Tryz.maps_Keys_78 (some b) w)
theorem keysD (w:World) (b:Nat) :
 Calls Tryz.prog 80 #[.map (some b)] w fun e w'=>e = .returned (.func (.func 113) #[] #[.pointer (some ⟨w.heap.size,0,none⟩)])∧w'=w.alloc (.cells #[.map (some b)] 143):=
 callsIn_wide.1 (Tryz.maps_Keys_80 (some b) w)
theorem sortedT (w:World) {B bm n:Nat} {D:DataW Value} {bt:List UInt8→Nat} {Di:List UInt8→DataW Value} {rv:List UInt8→Int→Value} {L:List Ad} (K:Keyed Tryz.prog 9) (h:TermsAt Tryz.prog 9 3 3 B w bm (hasT L) L n D bt Di rv) (hn:n≤1099511627776) :
 Calls Tryz.prog 77 #[.func (.func 110) #[] #[.pointer (some ⟨w.heap.size,0,none⟩)]] (w.alloc (.cells #[.map (some bm)] 93)) fun e w'=>
  ∃a c,e = .returned (.slice a (termsF L).length c)∧w'.ownsRow w.heap.size 9 1 (.slice a (termsF L).length c) (termsF L).length (strCells (termsF L))∧Below w.heap.size w w':=by
 have hsz:=h.out.size_le;refine (callsIn_wide.1 (Tryz.slices_Sorted_keys_77_78 bm n D rawR w h.out (by unfold maxLen;omega) (by omega))).mono ?_;rintro e w' ⟨v,ss,rfl,hp,ho,_,hb⟩;obtain ⟨k1,k2⟩:=keysS_of h.out K Tryz.underlying9
 have hss:ss.mergeSort (fun x y=>decide (x≤y))=termsF L:=termsF_of (hp.nodup_iff.2 k1) fun x=>by
  rw[hp.mem_iff,k2,(MapV.held h.out).has_iff];constructor
  ·rintro ⟨v,hv⟩;by_cases hx:hasT L x
   ·exact hx
   ·rw[h.outNo x hx] at hv;cases hv
  ·exact fun hx=>⟨_,h.outAt x hx⟩
 have hl:ss.length=(termsF L).length:=by rw[←hss];simp
 rw[hss,hl] at ho;have hb0:Below w.heap.size w w':=((Below.refl _ w).alloc (Nat.le_refl _) _).trans (hb.mono (by simp))
 rcases ho.2 with ⟨rfl,h0⟩ | ⟨g,cap,cur,rfl,hB,hr⟩
 ·refine ⟨none,0,by rw[h0],?_,hb0⟩;have e0:=List.length_eq_zero_iff.1 h0;rw[e0];exact World.ownsRow_nil _ _ _ _
 ·exact ⟨_,_,rfl,⟨ho.1,.inr ⟨g,cap,cur,rfl,by simp at hB;omega,hr⟩⟩,hb0⟩
theorem sortedD (w:World) {B bm n:Nat} {D:DataW Value} {bt:List UInt8→Nat} {Di:List UInt8→DataW Value} {rv:List UInt8→Int→Value} {L:List Ad} (K:Keyed Tryz.prog 3) (h:TermsAt Tryz.prog 9 3 3 B w bm (hasT L) L n D bt Di rv) (hn:n≤1099511627776) {s:List UInt8} (hs:hasT L s) :
 Calls Tryz.prog 79 #[.func (.func 113) #[] #[.pointer (some ⟨w.heap.size,0,none⟩)]] (w.alloc (.cells #[.map (some (bt s))] 143)) fun e w'=>
  ∃a c,e = .returned (.slice a (docsF L s).length c)∧w'.ownsRow w.heap.size 3 1 (.slice a (docsF L s).length c) (docsF L s).length (intCells (docsF L s))∧Below w.heap.size w w':=by
 have hi:=h.inn s hs;have hsz:=hi.size_le;refine (callsIn_wide.1 (sortedZ (bt s) n (Di s) rawR w hi (by unfold maxLen;omega) (by omega))).mono ?_;rintro e w' ⟨v,ss,rfl,hp,ho,_,hb⟩;obtain ⟨k1,k2⟩:=keysI_of hi K Tryz.underlying3
 have hss:ss.mergeSort (fun x y=>decide (x≤y))=docsF L s:=docsF_of (hp.nodup_iff.2 k1) fun x=>by
  rw[hp.mem_iff,k2,(MapV.held hi).has_iff];constructor
  ·rintro ⟨v,hv⟩;by_cases hx:hasD L s x
   ·exact hx
   ·rw[h.innNo s _ hs (fun d e hd=>by injection e with _ e;exact hx (e ▸ hd))] at hv;cases hv
  ·exact fun hx=>⟨_,h.innAt s x hx⟩
 have hl:ss.length=(docsF L s).length:=by rw[←hss];simp
 rw[hss,hl] at ho;have hb0:Below w.heap.size w w':=((Below.refl _ w).alloc (Nat.le_refl _) _).trans (hb.mono (by simp))
 rcases ho.2 with ⟨rfl,h0⟩ | ⟨g,cap,cur,rfl,hB,hr⟩
 ·refine ⟨none,0,by rw[h0],?_,hb0⟩;have e0:=List.length_eq_zero_iff.1 h0;rw[e0];exact World.ownsRow_nil _ _ _ _
 ·exact ⟨_,_,rfl,⟨ho.1,.inr ⟨g,cap,cur,rfl,by simp at hB;omega,hr⟩⟩,hb0⟩
end Go.Proofs.YtigfcihakghddaaGreatDoor.BufT
end
section
namespace Go.Proofs.YtigfcihakghddaaGreatDoor.BufT
open Go Go.RowKit Words Tree Owned MapV BufP
theorem own_cut (a:Option Addr) (n c n' c':Nat):(Value.slice a n c).ownBlock=(Value.slice a n' c').ownBlock:=by cases a <;> rfl
def blkT (L:List Ad) (rv:List UInt8→Int→Value) (s:List UInt8):List Nat:=(docsF L s).flatMap fun d=>(rv s d).ownBlock.toList
theorem count_toList (o:Option Nat) (g:Nat):o.toList.count g≤1:=by cases o <;> simp[List.count_cons];split <;> omega
theorem nodup_flat {α:Type} {f:α→List Nat}:∀{l:List α},(∀a∈l,(f a).Nodup)→l.Pairwise (fun a b=>∀g,g∈f a→g∈f b→False)→(l.flatMap f).Nodup
 | [],_,_=>by simp
 | a::l,h1,h2=>by rw[List.pairwise_cons] at h2;rw[List.flatMap_cons,List.nodup_append];refine ⟨h1 a (List.mem_cons_self ..),nodup_flat (fun b hb=>h1 b (List.mem_cons_of_mem _ hb)) h2.2,fun g hg g' hg' e=>?_⟩;subst e;obtain ⟨b,hb,hg'⟩:=List.mem_flatMap.1 hg';exact h2.1 b hb g hg hg'
section
variable {P:Program} {kS kI e:TypeId} {B:Nat} {w:World} {bm:Nat} {S:List UInt8→Prop} {L:List Ad} {n:Nat} {D:DataW Value} {bt:List UInt8→Nat} {Di:List UInt8→DataW Value} {rv:List UInt8→Int→Value}
theorem mem_blkT {s:List UInt8} {g:Nat} (hg:g∈blkT L rv s):∃d,hasD L s d∧(rv s d).ownBlock=some g:=by
 obtain ⟨d,hd,hg⟩:=List.mem_flatMap.1 hg;exact ⟨d,mem_docsF.1 hd,mem_own.1 hg⟩
theorem TermsAt.nodupZ (h:TermsAt P kS kI e B w bm S L n D bt Di rv):((termsF L).flatMap (blkT L rv)).Nodup:=by
 have hp:=nodup_terms L;refine nodup_flat (fun s _=>nodup_flat (fun d _=>?_) ?_) ?_
 ·rw[List.nodup_iff_count];exact fun g=>count_toList _ g
 ·refine List.Pairwise.imp_of_mem (fun {a b} ha hb hab g h1 h2=>?_) (nodup_docs L s);exact hab (h.apart s a s b g (mem_docsF.1 ha) (mem_docsF.1 hb) (mem_own.1 h1) (mem_own.1 h2)).2
 ·refine List.Pairwise.imp (fun {a b} hab g h1 h2=>?_) hp;obtain ⟨d,hd,e1⟩:=mem_blkT h1;obtain ⟨d',hd',e2⟩:=mem_blkT h2;exact hab (h.apart a d b d' g hd hd' e1 e2).1
end
structure DoneK (W1:World) (B fb k:Nat) (sv:Value) (L:List Ad) (bm:Nat) (rv:List UInt8→Int→Value) (vl vt vn vp:Value) (iT iP:Nat) (vT vP:Value) (wr:World):Prop where
 but:But (fun g=>g=fb) W1 wr
 self:Blk wr fb 95 #[vT,vP,vl,vt,vn,vp,sv,.int .i64 k,.map (some bm)]
 low:fb<W1.heap.size
 terms:wr.ownsRow W1.heap.size 9 1 vT iT (strCells ((termsF L).take iT))
 posts:∃vs,wr.ownsRow W1.heap.size 56 1 vP iP vs∧SubG (PostC wr B) (((termsF L).take iP).map (postsF L)) vs (((termsF L).take iP).flatMap (blkT L rv))
section
variable {W1 wr w2 w3:World} {B fb k:Nat} {sv:Value} {L:List Ad} {bm:Nat} {rv:List UInt8→Int→Value} {vl vt vn vp:Value} {iT iP:Nat} {vT vP:Value}
theorem DoneK.start (h:Blk W1 fb 95 #[.slice none 0 0,.slice none 0 0,vl,vt,vn,vp,sv,.int .i64 k,.map (some bm)]):DoneK W1 B fb k sv L bm rv vl vt vn vp 0 0 (.slice none 0 0) (.slice none 0 0) W1:=
 ⟨But.refl _ _,h,h.lt,World.ownsRow_nil _ _ _ _,[],World.ownsRow_nil _ _ _ _,.nil⟩
theorem DoneK.below (h:DoneK W1 B fb k sv L bm rv vl vt vn vp iT iP vT vP wr) (hb:Below wr.heap.size wr w2):DoneK W1 B fb k sv L bm rv vl vt vn vp iT iP vT vP w2:=by
 obtain ⟨vs,h1,h2⟩:=h.posts;exact ⟨h.but.trans (But.of_below hb),h.self.below hb h.self.lt,h.low,own_below h.terms hb,vs,own_below h1 hb,h2.imp fun x v b hp=>hp.keepT (ok:=okP) (KeepT.of_below hb) (.inl rfl) (.inr rfl)⟩
theorem DoneK.stepT (h:DoneK W1 B fb k sv L bm rv vl vt vn vp iT iP vT vP wr) (hi:iT<(termsF L).length) {vT':Value} (hg:wr.grownBy w3 vT.ownBlock) (ho:w3.ownsRow W1.heap.size 9 1 vT' (iT+1) (strCells ((termsF L).take iT)++[Go.Proofs.encStr (termsF L)[iT]])) :
 DoneK W1 B fb k sv L bm rv vl vt vn vp (iT+1) iP vT' vP (w3.setCell ⟨fb,0,none⟩ vT'):=by
 obtain ⟨vs,h1,h2⟩:=h.posts;have hself:=h.self;have hb3:Blk w3 fb 95 _:=hself.grown hg (fun e=>own_blk_ne h.terms hself (by decide) e.symm);have kt:KeepT okP wr w3:=KeepT.of_row hg h.terms (by simp[okP]);have ks:KeepT okP w3 (w3.setCell ⟨fb,0,none⟩ vT'):=KeepT.of_set hb3 (by simp[okP]) 0 vT';refine ⟨(h.but.more (But.grown (N:=fun g=>vT.ownBlock=some g) hg fun r e=>e) (fun g e=>.inr (h.terms.lt g e).1)).set (.inl rfl) _,by simpa using hb3.set_ 0 vT',h.low,?_,vs,?_,h2.imp fun x v b hp=>hp.keepT (kt.trans ks) (.inl rfl) (.inr rfl)⟩
 ·have e:strCells ((termsF L).take (iT+1))=strCells ((termsF L).take iT)++[Go.Proofs.encStr (termsF L)[iT]]:=by
   unfold strCells;rw[List.take_succ_eq_append_getElem hi,List.map_append];rfl
  rw[e];exact own_setCell_ne ho (own_blk_ne ho hb3 (by decide)) _
 ·have h3:w3.ownsRow W1.heap.size 56 1 vP iP vs:=own_stay h1 fun g e=>hg.block g (h1.lt g e).2 fun e2=>by
   rcases own_own_ne h1 h.terms (by decide) with h0 | h0
   ·rw[h0] at e;cases e
   ·exact h0 (e.trans e2)
  exact own_setCell_ne h3 (own_blk_ne h3 hb3 (by decide)) _
theorem DoneK.stepP (h:DoneK W1 B fb k sv L bm rv vl vt vn vp iT iP vT vP wr) (hi:iP<(termsF L).length) {vq:Value} (hq:PostC wr B (postsF L (termsF L)[iP]) vq (blkT L rv (termsF L)[iP])) :
 ∃vs,wr.ownsRow W1.heap.size 56 1 vP iP vs∧∀(vP':Value) (w3:World),wr.grownBy w3 vP.ownBlock→w3.ownsRow W1.heap.size 56 1 vP' (iP+1) (vs++[vq])→DoneK W1 B fb k sv L bm rv vl vt vn vp iT (iP+1) vT vP' (w3.setCell ⟨fb,1,none⟩ vP'):=by
 obtain ⟨vs,h1,h2⟩:=h.posts;refine ⟨vs,h1,fun vP' w3 hg ho=>?_⟩;have hself:=h.self;have hb3:Blk w3 fb 95 _:=hself.grown hg (fun e=>own_blk_ne h1 hself (by decide) e.symm);have kt:KeepT okP wr w3:=KeepT.of_row hg h1 (by simp[okP]);have ks:KeepT okP w3 (w3.setCell ⟨fb,1,none⟩ vP'):=KeepT.of_set hb3 (by simp[okP]) 1 vP';refine ⟨(h.but.more (But.grown (N:=fun g=>vP.ownBlock=some g) hg fun r e=>e) (fun g e=>.inr (h1.lt g e).1)).set (.inl rfl) _,by simpa using hb3.set_ 1 vP',h.low,?_,vs++[vq],?_,?_⟩
 ·have h3:w3.ownsRow W1.heap.size 9 1 vT iT (strCells ((termsF L).take iT)):=own_stay h.terms fun g e=>hg.block g (h.terms.lt g e).2 fun e2=>by
   rcases own_own_ne h.terms h1 (by decide) with h0 | h0
   ·rw[h0] at e;cases e
   ·exact h0 (e.trans e2)
  exact own_setCell_ne h3 (own_blk_ne h3 hb3 (by decide)) _
 ·exact own_setCell_ne ho (own_blk_ne ho hb3 (by decide)) _
 ·rw[List.take_succ_eq_append_getElem hi,List.map_append,List.flatMap_append];refine SubG.append (h2.imp fun x v b hp=>hp.keepT (kt.trans ks) (.inl rfl) (.inr rfl)) ?_;rw[List.flatMap_singleton];exact SubG.one (hq.keepT (kt.trans ks) (.inl rfl) (.inr rfl))
theorem DoneK.done {x:FD} {n:Nat} {D:DataW Value} {bt:List UInt8→Nat} {Di:List UInt8→DataW Value} {bt1 bn bp:List Nat} {ao al at_ an ap aP:Option Addr} {co cl ct cn cp cP nT nP nl nt nn np:Nat} {w9:World} (hx:FieldIn W1 B fb k sv x bm n D bt Di rv (.slice al nl cl) (.slice at_ nt ct) (.slice an nn cn) (.slice ap np cp) bt1 bn bp)
 (h:DoneK W1 B fb k sv x.adds bm rv (.slice al nl cl) (.slice at_ nt ct) (.slice an nn cn) (.slice ap np cp) (termsF x.adds).length (termsF x.adds).length (.slice ao nT co) (.slice aP nP cP) wr) (hk:KeepT okD wr w9) (hB:B≤W1.heap.size) :
 nT≤co∧nP≤cP∧nl≤cl∧nt≤ct∧nn≤cn∧np≤cp∧∃bI bS bZ,DoneAt w9 B (doneF x) (.slice ao nT nT) (.slice aP nP nP) (.slice al nl nl) (.slice at_ nt nt) (.slice an nn nn) (.slice ap np np) bI bS bZ∧(∀g,g∈bI++(bS++bZ)→FootF fb bm x bt rv (.slice al nl cl) (bt1++(bn++bp)) g∨W1.heap.size≤g):=by
 obtain ⟨vs,h1,h2⟩:=h.posts;have ht:=h.terms;rw[List.take_length] at ht h2;obtain ⟨vs3,b3,t1,t2,t3⟩:=hx.texts;obtain ⟨vs4,b4,n1,n2,n3⟩:=hx.nums;obtain ⟨vs5,b5,p1,p2,p3⟩:=hx.pts;have hb0:KeepT okD W1 wr:=KeepT.of_but h.but fun g e cur t hh hok=>by subst e;have:=hx.self;unfold Blk at this;rw[this] at hh;injection hh with hh;injection hh with _ hh;subst hh;simp[okD] at hok
 have kk:=hb0.trans hk;have cT:=ClipM.of_own ht;have cP':=ClipM.of_own h1;have cl':=ClipM.of_own hx.lens;have ct':=ClipM.of_own t1;have cn':=ClipM.of_own n1;have cp':=ClipM.of_own p1;have le_of:∀{w:World} {B m n:Nat} {e:TypeId} {a:Option Addr} {k c:Nat} {xs:List Value},ClipM w B e m (.slice a k c) n xs→k≤c:=fun hh=>by obtain ⟨a',c',e,hle⟩:=hh.form;injection e with _ e2 e3;subst e2 e3;exact hle
 have hln:((termsF x.adds).map (postsF x.adds)).length=(termsF x.adds).length:=by simp
 refine ⟨le_of cT,le_of cP',le_of cl',le_of ct',le_of cn',le_of cp',(Value.slice al nl cl).ownBlock.toList++(b4++b5),(Value.slice ao nT co).ownBlock.toList++b3,(termsF x.adds).flatMap (blkT x.adds rv),?_,?_⟩
 ·have en:∀{w:World} {B m n:Nat} {e:TypeId} {a:Option Addr} {k c:Nat} {xs:List Value},ClipM w B e m (.slice a k c) n xs→ClipM w B e m (.slice a k k) n xs:=fun hh=>by
   obtain ⟨h1,h2⟩:=hh.clip;subst h1;exact h2
  have hnd:=(List.nodup_cons.1 hx.nd).2
  refine ⟨((en cT).from_ hB).keepT hk (by simp[okD]),⟨vs,((en (show ClipM wr W1.heap.size 56 1 _ (doneF x).posts.length vs by unfold doneF;rw[hln];exact cP')).from_ hB).keepT hk (by simp[okD]),h2.imp fun x v b hp=>hp.keepT hk (by simp[okD]) (by simp[okD])⟩,(en cl').keepT kk (by simp[okD]),
   ⟨vs3,vs4,vs5,b3,b4,b5,(en ct').keepT kk (by simp[okD]),t2.keepT kk (by simp[okD]),(en cn').keepT kk (by simp[okD]),n2.keepT kk (by simp[okD]),(en cp').keepT kk (by simp[okD]),p2.keepT kk (by simp[okD]),by rw[own_cut ao nT co nT nT],by rw[own_cut al nl cl nl nl]⟩,?_,?_,hx.terms.nodupZ⟩
  ·refine hnd.sublist ?_;rw[t3,n3,p3];refine (List.Sublist.refl _).append ?_;refine (List.Sublist.append ?_ ?_).trans (List.sublist_append_right _ _)
   ·exact List.sublist_append_right _ _
   ·exact List.sublist_append_right _ _
  ·rw[List.nodup_append];have h3:b3.Nodup:=((List.nodup_append.1 (List.nodup_append.1 hnd).2.1).1).sublist (by rw[t3];exact List.sublist_append_right _ _);refine ⟨by rw[List.nodup_iff_count];exact fun g=>count_toList _ g,h3,fun g hg g' hg' e=>?_⟩;subst e;have e1:=(ht.lt g (mem_own.1 hg)).1;have e2:=(t2.mem g hg').2;omega
 ·intro g hg;rcases List.mem_append.1 hg with hg | hg
  ·refine .inl (.inl (List.mem_cons_of_mem _ ?_));rcases List.mem_append.1 hg with hg | hg
   ·exact List.mem_append_left _ hg
   ·refine List.mem_append_right _ (List.mem_append_right _ ?_);rw[n3,p3];rcases List.mem_append.1 hg with hg | hg
    ·exact List.mem_append_left _ (List.mem_append_right _ hg)
    ·exact List.mem_append_right _ (List.mem_append_right _ hg)
  ·rcases List.mem_append.1 hg with hg | hg
   ·rcases List.mem_append.1 hg with hg | hg
    ·exact .inr (ht.lt g (mem_own.1 hg)).1
    ·refine .inl (.inl (List.mem_cons_of_mem _ (List.mem_append_right _ (List.mem_append_left _ ?_))));rw[t3];exact List.mem_append_right _ hg
   ·obtain ⟨s,_,hg⟩:=List.mem_flatMap.1 hg;obtain ⟨d,hd,e⟩:=mem_blkT hg;exact .inl (.inr (.inr (.inr ⟨s,d,hd,e⟩)))
end
end Go.Proofs.YtigfcihakghddaaGreatDoor.BufT
end
