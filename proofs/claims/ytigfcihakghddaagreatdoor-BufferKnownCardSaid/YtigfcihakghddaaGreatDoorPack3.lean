/- Lemmas that the last text leans on. -/
import Derived.WalkKit
import Derived.WalkLawsBesides
import Derived.WalkSpells
import Derived.Lib.Hide
import Derived.Lib.UnsafeStr
import Derived.Lib.RuneBytes
import Derived.Lib.Small
import Derived.Deep.Light
import Derived.Test.YtigfcihakghddaaGreatDoorWords
import Derived.Test.YtigfcihakghddaaGreatDoorRows
import Derived.Carry
import Derived.OpenShut
import Derived.ProofKit
import Derived.SizedLaws
import Derived.Maps.OwnSet
import Derived.Maps.RangeWalk
import Derived.Maps.Ext
import Derived.Sort.KeysCollected
import Derived.OwnWalk
set_option linter.all false
section
namespace Go.Proofs.YtigfcihakghddaaGreatDoor.Kit
open Go.RowKit Go.Lib
theorem ret_int {k:IntKind} {a b:Int} (h:a=b):Ending.returned (.int k a) = .returned (.int k b):=by rw[h]
theorem ret_bool {a b:Bool} (h:a=b):Ending.returned (.bool a) = .returned (.bool b):=by rw[h]
def str (l:List UInt8):ByteArray:=⟨l.toArray⟩
theorem runeCells_bytes (r:Int):runeCells r=byteCells (encodeRune r):=(byteCells_encodeRune r).symm
end Go.Proofs.YtigfcihakghddaaGreatDoor.Kit
end
section
namespace Go.Proofs.YtigfcihakghddaaGreatDoor.Law
open Go.RowKit Go.WideShapes Go.ChangeShapes Words
section
variable {H:Type} {enc:TypeId × Value→H} {P:Program}
theorem trodAll_stays (hl:laidOutB P=true) {W W':World} {sp:Nat→Bool}:∀{ts:List TypeId} {vs:List Value} {ds:List (DataW H)} {ps:List MemPlace},(∀t∈ts,P.readableRec t=true∧t<P.types.size)→
 DataW.TrodAll enc P W 0 (fun _=>true) true ts vs ds ps→(∀p∈ps,W.sameAt W' p)→(∀p∈ps,sp p.block=true)→DataW.TrodAll enc P W' 0 sp true ts vs ds ps
 | [],_,_,_,_,h,_,_=>by obtain ⟨rfl,rfl,rfl⟩:=trodAll_nil h;rfl
 | t::ts,_,_,_,hr,h,hs,hp=>by
  obtain ⟨v,vs,d,ds,p,q,rfl,rfl,rfl,h0,h1⟩:=trodAll_cons h
  exact ⟨p,q,WideElems.Trod_stays hl (hr t (by simp)).1 (hr t (by simp)).2 h0 (fun x hx=>hs x (by simp[hx])) (fun x hx=>hp x (by simp[hx])),
   trodAll_stays hl (fun t ht=>hr t (by simp[ht])) h1 (fun x hx=>hs x (by simp[hx])) (fun x hx=>hp x (by simp[hx])),rfl⟩
theorem law_post {f:Func} {s:ChangeSpec} {tb:TypeId} {W W':World} {args:Array Value} {ds:List (DataW H)} {before:List MemPlace} (hl:laidOutB P=true) (hr:∀t∈f.params.toList,P.readableRec t=true∧t<P.types.size)
 (hB:P.underlying tb=some .bool) (hres:f.resultTypes=#[tb]) (hvars:s.vars=[]) (hs:s.fn H (ds++[])={ results:=[.lit (.bool true)],args:=ds })
 (hW:DataW.Whole enc P f.params.toList s.vars false W args.toList ds [] before) (hb:Below W.heap.size W W'):s.post enc P f false true false false W args (.bool true) W':=by
 have hW':=hW;obtain ⟨p,q,hA,hV,rfl,_,_⟩:=hW;rw[hvars] at hV;obtain ⟨_,rfl⟩:=trodVars_none hV;refine post_of_below (pa:=p) (pv:=[]) hW' ?_ ?_ ?_ rfl hb (ok_one hres rfl (okWide_bool_mk hB _))
 ·intro b sp hd;rw[hs,hres];exact trodAll_cons_mk (shut_bool hB _) trodAll_mk0
 ·intro sp hsp;rw[hs];exact trodAll_stays hl hr hA (fun x hx=>hb.same (hW'.lt x (by simp[hx]))) (fun x hx=>hsp x (by simp[hx]))
 ·intro sp _;rw[hvars,hs];rfl
end
end Go.Proofs.YtigfcihakghddaaGreatDoor.Law
end
section
namespace Go.Proofs.YtigfcihakghddaaGreatDoor.MapV
open Go Go.Maps Go.ChangeMaps Go.RowKit
open Go.WideElems (Fit)
def rawR (v:Value):Option (DataW Value × List MemPlace):=some (.held v,[])
def lookV (D:DataW Value) (kl:Lit):Option Value:=match D.atKey kl .nil with
 | .held v=>some v
 | _=>none
def Held (D:DataW Value):Prop:=∃es,D = .map es∧∀p∈es,∃v,p.2 = .held v
def MapV (w:World) (P:Program) (k:TypeId) (b n:Nat) (D:DataW Value):Prop:=w.ownsMap P k rawR b n D
section
variable {P:Program} {k:TypeId} {w w':World} {b n:Nat} {D:DataW Value}
theorem MapV.held (h:MapV w P k b n D):Held D:=by
 obtain ⟨es,clock,hb,F,hs,rfl⟩:=h;refine ⟨_,rfl,fun p hp=>?_⟩;rw[mem_sorted] at hp;obtain ⟨x,hx,rfl⟩:=List.mem_map.1 hp;obtain ⟨y,hy⟩:=F.reads x hx;obtain ⟨z,hz,hyz⟩:=WideElems.rd_val hy;unfold rawR at hz;obtain rfl:=Option.some.inj hz;exact ⟨x.val,by rw[WideElems.rg_of hy];exact hyz⟩
theorem Held.at {D:DataW Value} (h:Held D) (kl:Lit):(has D kl=true∧∃v,lookV D kl=some v∧∀z,D.atKey kl z = .held v)∨(has D kl=false∧lookV D kl=none∧∀z,D.atKey kl z=z):=by
 obtain ⟨es,rfl,he⟩:=h
 cases hf:es.find? (fun p=>p.1.sameKey kl) with
 | none=>
  refine .inr ⟨?_,?_,fun z=>?_⟩
  ·rw[has_eq,List.any_eq_false];exact fun p hp=>by simpa using List.find?_eq_none.1 hf p hp
  ·simp[lookV,DataW.atKey,hf]
  ·simp[DataW.atKey,hf]
 | some p=>
  obtain ⟨v,hv⟩:=he p (List.mem_of_find?_eq_some hf);refine .inl ⟨?_,v,?_,fun z=>?_⟩
  ·rw[has_eq,List.any_eq_true];exact ⟨p,List.mem_of_find?_eq_some hf,by simpa using List.find?_some hf⟩
  ·simp[lookV,DataW.atKey,hf,hv]
  ·simp[DataW.atKey,hf,hv]
theorem Held.has_iff {D:DataW Value} (h:Held D) (kl:Lit):has D kl=true↔∃v,lookV D kl=some v:=by
 rcases h.at kl with ⟨h1,v,h2,_⟩ | ⟨h1,h2,_⟩
 ·exact ⟨fun _=>⟨v,h2⟩,fun _=>h1⟩
 ·exact ⟨fun e=>(by rw[h1] at e;cases e),fun ⟨v,e⟩=>(by rw[h2] at e;cases e)⟩
theorem lookV_empty (kl:Lit):lookV (.map []) kl=none:=rfl
theorem lookV_put_same {D:DataW Value} (h:Held D) {kl:Lit} (hk:WideAt.IsKeyLit kl) (v:Value):lookV (D.put kl (.held v)) kl=some v:=by
 unfold lookV;rw[atKey_put_same (by obtain ⟨es,rfl,_⟩:=h;exact ⟨es,rfl⟩) hk]
theorem lookV_put_other {D:DataW Value} {kl kl':Lit} (hne:kl'≠kl) (v:Value):lookV (D.put kl (.held v)) kl'=lookV D kl':=by
 unfold lookV;rw[atKey_put_other hne]
theorem MapV.kept (h:MapV w P k b n D) {row:Option Nat} (hg:w.grownBy w' row) (hne:some b≠row):MapV w' P k b n D:=World.ownsMap.kept h hg hne
theorem MapV.lt (h:MapV w P k b n D):b<w.heap.size:=World.ownsMap.lt h
theorem MapV.mono (h:MapV w P k b n D) {n':Nat} (hn:n≤n'):MapV w P k b n' D:=World.ownsMap.mono h hn
theorem MapV.keep (h:MapV w P k b n D) (hb:w'.heap[b]?=w.heap[b]?):MapV w' P k b n D:=by
 obtain ⟨es,clock,h1,h2,h3,h4⟩:=h;exact ⟨es,clock,hb.trans h1,h2,h3,h4⟩
theorem MapV.made (w:World) (P:Program) (k:TypeId):MapV (w.alloc (.map #[] 0)) P k w.heap.size 0 (.map []):=World.ownsMap_made ..
theorem MapV.size_le (h:MapV w P k b n D):Maps.size D≤n:=World.ownsMap.size_le h
theorem MapV.look_up (h:MapV w P k b n D) (K:Keyed P k) {t e:TypeId} (ht:P.underlying t=some (.map k e)) {z:Value} (hz:(zeroValue e).run P w = .ok z w) {key:Value} {kl:Lit} (hkey:keyOf P k key=some kl) :
 (Instr.lookup t (.map (some b)) key false).run P w = .ok ((lookV D kl).getD z) w:=by
 obtain ⟨v,ps,hrun,hv⟩:=World.ownsMap.lookup h K ht hz (zd:=.held z) (zp:=[]) rfl hkey;rw[hrun];unfold rawR at hv;have hv1:DataW.held v=D.atKey kl (.held z):=congrArg Prod.fst (Option.some.inj hv)
 rcases (MapV.held h).at kl with ⟨_,v',h2,h3⟩ | ⟨_,h2,h3⟩
 ·rw[h2];rw[h3] at hv1;injection hv1 with e1;rw[e1];rfl
 ·rw[h2];rw[h3] at hv1;injection hv1 with e1;rw[e1];rfl
theorem MapV.store (h:MapV w P k b n D) (K:Keyed P k) {t e:TypeId} (ht:P.underlying t=some (.map k e)) (hn:n<maxLen) {key val:Value} {kl:Lit} (hkey:keyOf P k key=some kl) :
 ∃w',(Instr.mapUpdate t (.map (some b)) key val).run P w = .ok () w'∧MapV w' P k b (n+1) (D.put kl (.held val))∧w.grownBy w' (some b):=World.ownsMap.update h K ht hn hkey (d:=.held val) (ps:=[]) rfl
end
end Go.Proofs.YtigfcihakghddaaGreatDoor.MapV
end
section
namespace BufP
structure Ad where
 term:List UInt8
 doc:Int
 pos:Int
def uniq {α:Type} [DecidableEq α]:List α→List α
 | []=>[]
 | a::l=>a::(uniq l).filter fun x=>decide (x≠a)
section
variable {α:Type} [DecidableEq α]
theorem mem_uniq {x:α}:∀{l:List α},x∈uniq l↔x∈l
 | []=>by simp[uniq]
 | a::l=>by simp only[uniq,List.mem_cons,List.mem_filter,decide_eq_true_eq,mem_uniq (l:=l)];by_cases h:x=a <;> simp[h]
theorem nodup_uniq:∀l:List α,(uniq l).Nodup
 | []=>by simp[uniq]
 | a::l=>by rw[uniq,List.nodup_cons];exact ⟨by simp,(nodup_uniq l).filter _⟩
theorem perm_uniq {l m:List α} (hn:m.Nodup) (h:∀x,x∈m↔x∈l):m.Perm (uniq l):=
 (List.perm_ext_iff_of_nodup hn (nodup_uniq l)).2 fun x=>(h x).trans mem_uniq.symm
end
def hasT (L:List Ad) (s:List UInt8):Prop:=∃a∈L,a.term=s
def hasD (L:List Ad) (s:List UInt8) (d:Int):Prop:=∃a∈L,a.term=s∧a.doc=d
def posF (L:List Ad) (s:List UInt8) (d:Int):List Int:=(L.filter fun a=>decide (a.term=s∧a.doc=d)).map (·.pos)
def docsF (L:List Ad) (s:List UInt8):List Int:=(uniq ((L.filter fun a=>decide (a.term=s)).map (·.doc))).mergeSort fun x y=>decide (x≤y)
def termsF (L:List Ad):List (List UInt8):=(uniq (L.map (·.term))).mergeSort Go.leB
def postsF (L:List Ad) (s:List UInt8):List (Int × List Int):=(docsF L s).map fun d=>(d,posF L s d)
theorem hasT_append {L M:List Ad} {s:List UInt8}:hasT (L++M) s↔hasT L s∨hasT M s:=by simp[hasT,or_and_right,exists_or]
theorem hasD_append {L M:List Ad} {s:List UInt8} {d:Int}:hasD (L++M) s d↔hasD L s d∨hasD M s d:=by simp[hasD,or_and_right,exists_or]
theorem hasT_one {a:Ad} {s:List UInt8}:hasT [a] s↔a.term=s:=by simp[hasT]
theorem hasD_one {a:Ad} {s:List UInt8} {d:Int}:hasD [a] s d↔a.term=s∧a.doc=d:=by simp[hasD]
theorem hasD.hasT {L:List Ad} {s:List UInt8} {d:Int} (h:hasD L s d):hasT L s:=by obtain ⟨a,h1,h2,_⟩:=h;exact ⟨a,h1,h2⟩
theorem posF_append (L M:List Ad) (s:List UInt8) (d:Int):posF (L++M) s d=posF L s d++posF M s d:=by simp[posF]
theorem posF_one_same (a:Ad):posF [a] a.term a.doc=[a.pos]:=by simp[posF]
theorem posF_one_other {a:Ad} {s:List UInt8} {d:Int} (h:¬(a.term=s∧a.doc=d)):posF [a] s d=[]:=by simp[posF,h]
theorem posF_none {L:List Ad} {s:List UInt8} {d:Int} (h:¬hasD L s d):posF L s d=[]:=by
 unfold posF;rw[List.map_eq_nil_iff,List.filter_eq_nil_iff];intro a ha hc;exact h ⟨a,ha,by simpa using hc⟩
theorem posF_len (L:List Ad) (s:List UInt8) (d:Int):(posF L s d).length≤L.length:=by
 unfold posF;rw[List.length_map];exact List.length_filter_le _ _
theorem mem_termsF {L:List Ad} {s:List UInt8}:s∈termsF L↔hasT L s:=by
 unfold termsF;rw[(List.mergeSort_perm _ _).mem_iff,mem_uniq,List.mem_map];rfl
theorem mem_docsF {L:List Ad} {s:List UInt8} {d:Int}:d∈docsF L s↔hasD L s d:=by
 unfold docsF;rw[(List.mergeSort_perm _ _).mem_iff,mem_uniq,List.mem_map];simp only[List.mem_filter,decide_eq_true_eq,hasD,and_assoc]
theorem termsF_of {L:List Ad} {ss:List (List UInt8)} (hn:ss.Nodup) (h:∀x,x∈ss↔hasT L x):ss.mergeSort Go.leB=termsF L:=
 Go.mergeSort_of_perm (perm_uniq hn fun x=>(h x).trans (by rw[List.mem_map];rfl))
theorem sortZ_perm {l l':List Int} (h:l.Perm l'):l.mergeSort (fun x y=>decide (x≤y))=l'.mergeSort fun x y=>decide (x≤y):=by
 have tr:∀a b c:Int,decide (a≤b)=true→decide (b≤c)=true→decide (a≤c)=true:=fun a b c h1 h2=>by simp only[decide_eq_true_eq] at *;omega
 have to:∀a b:Int,(decide (a≤b) || decide (b≤a))=true:=fun a b=>by simp only[Bool.or_eq_true,decide_eq_true_eq];omega
 refine List.Perm.eq_of_pairwise (le:=fun a b=>decide (a≤b)=true) (fun a b _ _ h1 h2=>?_) (List.pairwise_mergeSort tr to l) (List.pairwise_mergeSort tr to l') (((List.mergeSort_perm l _).trans h).trans (List.mergeSort_perm l' _).symm);simp only[decide_eq_true_eq] at h1 h2;omega
theorem docsF_of {L:List Ad} {s:List UInt8} {zs:List Int} (hn:zs.Nodup) (h:∀x,x∈zs↔hasD L s x):zs.mergeSort (fun x y=>decide (x≤y))=docsF L s:=
 sortZ_perm (perm_uniq hn fun x=>(h x).trans (by rw[List.mem_map];simp only[List.mem_filter,decide_eq_true_eq,hasD,and_assoc]))
end BufP
end
section
namespace Go.Proofs.YtigfcihakghddaaGreatDoor.BufT
open Go Go.RowKit MapV BufP
structure TermsAt (P:Program) (kS kI e:TypeId) (B:Nat) (w:World) (bm:Nat) (S:List UInt8→Prop) (L:List Ad) (n:Nat) (D:DataW Value) (bt:List UInt8→Nat) (Di:List UInt8→DataW Value) (rv:List UInt8→Int→Value):Prop where
 out:MapV w P kS bm n D
 outAt:∀s,S s→lookV D (.string s)=some (.map (some (bt s)))
 outNo:∀s,¬S s→lookV D (.string s)=none
 inn:∀s,S s→MapV w P kI (bt s) n (Di s)
 innAt:∀s d,hasD L s d→lookV (Di s) (.int .i64 d)=some (rv s d)
 innNo:∀s kl,S s→(∀d:Int,kl = .int .i64 d→¬hasD L s d)→lookV (Di s) kl=none
 row:∀s d,hasD L s d→w.ownsRow B e 1 (rv s d) (posF L s d).length ((posF L s d).map (Value.int .i64))
 sub:∀s,hasT L s→S s
 injT:∀s s',S s→S s'→bt s=bt s'→s=s'
 neT:∀s,S s→bt s≠bm
 apart:∀s d s' d' g,hasD L s d→hasD L s' d'→(rv s d).ownBlock=some g→(rv s' d').ownBlock=some g→s=s'∧d=d'
def Foot (bm:Nat) (S:List UInt8→Prop) (L:List Ad) (bt:List UInt8→Nat) (rv:List UInt8→Int→Value) (g:Nat):Prop:=
 g=bm∨(∃s,S s∧g=bt s)∨∃s d,hasD L s d∧(rv s d).ownBlock=some g
section
variable {P:Program} {kS kI e:TypeId} {B:Nat} {w w':World} {bm:Nat} {S:List UInt8→Prop} {L:List Ad} {n:Nat} {D:DataW Value} {bt:List UInt8→Nat} {Di:List UInt8→DataW Value} {rv:List UInt8→Int→Value}
theorem row_cells {v:Value} {g m:Nat} {xs:List Value} (h:w.ownsRow B e 1 v m xs) (hg:v.ownBlock=some g):∃cs,w.heap[g]?=some (.cells cs e (0,0))∧B≤g:=by
 rcases h.2 with ⟨rfl,_⟩ | ⟨g',cap,cur,rfl,hB,hb,_⟩
 ·cases hg
 ·obtain rfl:g'=g:=Option.some.inj hg;exact ⟨cur,hb,hB⟩
theorem map_obj {k:TypeId} {b:Nat} {D:DataW Value} (h:MapV w P k b n D):∃es c,w.heap[b]?=some (.map es c):=by obtain ⟨es,c,h,_⟩:=h;exact ⟨es,c,h⟩
theorem row_ne_map {v:Value} {g m b:Nat} {xs:List Value} {k:TypeId} {D:DataW Value} (h:w.ownsRow B e 1 v m xs) (hg:v.ownBlock=some g) (hm:MapV w P k b n D):g≠b:=by
 rintro rfl;obtain ⟨cs,h1,_⟩:=row_cells h hg;obtain ⟨es,c,h2⟩:=map_obj hm;rw[h1] at h2;cases h2
theorem TermsAt.bound (h:TermsAt P kS kI e B w bm S L n D bt Di rv) {g:Nat} (hg:Foot bm S L bt rv g):g<w.heap.size:=by
 rcases hg with rfl | ⟨s,hs,rfl⟩ | ⟨s,d,hd,hg⟩
 ·exact h.out.lt
 ·exact (h.inn s hs).lt
 ·exact ((h.row s d hd).lt g hg).2
theorem TermsAt.keep (h:TermsAt P kS kI e B w bm S L n D bt Di rv) (hk:∀g,Foot bm S L bt rv g→w'.heap[g]?=w.heap[g]?):TermsAt P kS kI e B w' bm S L n D bt Di rv:=by
 refine ⟨h.out.keep (hk _ (.inl rfl)),h.outAt,h.outNo,fun s hs=>(h.inn s hs).keep (hk _ (.inr (.inl ⟨s,hs,rfl⟩))),h.innAt,h.innNo,fun s d hd=>?_,h.sub,h.injT,h.neT,h.apart⟩;have hr:=h.row s d hd
 rcases hr.2 with hn | ⟨g,cap,cur,hv,h1,hb,h2⟩
 ·exact ⟨hr.1,.inl hn⟩
 ·exact ⟨hr.1,.inr ⟨g,cap,cur,hv,h1,(hk g (.inr (.inr ⟨s,d,hd,by rw[hv];rfl⟩))).trans hb,h2⟩⟩
theorem TermsAt.made (w:World) (P:Program) (kS kI e:TypeId) (B:Nat):TermsAt P kS kI e B (w.alloc (.map #[] 0)) w.heap.size (fun _=>False) [] 0 (.map []) (fun _=>0) (fun _=>.map []) (fun _ _=>.slice none 0 0):=
 ⟨MapV.made w P kS,fun _ h=>h.elim,fun _ _=>lookV_empty _,fun _ h=>h.elim,fun s d h=>(by obtain ⟨a,ha,_⟩:=h;cases ha),fun _ _ h=>h.elim,fun s d h=>(by obtain ⟨a,ha,_⟩:=h;cases ha),fun s h=>(by obtain ⟨a,ha,_⟩:=h;cases ha),
  fun _ _ h=>h.elim,fun _ h=>h.elim,fun s d _ _ _ h=>(by obtain ⟨a,ha,_⟩:=h;cases ha)⟩
open Classical in
theorem TermsAt.newT (h:TermsAt P kS kI e B w bm S L n D bt Di rv) {s:List UInt8} (hs:¬S s) {w1 w2:World} (h1:w1=w.alloc (.map #[] 0)) (hm:MapV w2 P kS bm (n+1) (D.put (.string s) (.held (.map (some w.heap.size))))) (hg:w1.grownBy w2 (some bm)) :
 TermsAt P kS kI e B w2 bm (fun x=>S x∨x=s) L (n+1) (D.put (.string s) (.held (.map (some w.heap.size)))) (fun x=>if x=s then w.heap.size else bt x) (fun x=>if x=s then .map [] else Di x) rv:=by
 subst h1;have hnT:∀d,¬hasD L s d:=fun d hd=>hs (h.sub s hd.hasT);have old:∀g,Foot bm S L bt rv g→g≠bm→w2.heap[g]?=w.heap[g]?:=fun g hf hne=>by have hlt:=h.bound hf;rw[hg.block g (by simp;omega) (fun e=>hne (Option.some.inj e)),Below.heap_alloc _ _ _ hlt]
 have newb:w2.heap[w.heap.size]?=some (.map #[] 0):=(by rw[hg.block w.heap.size (by simp) (fun e=>by have:=h.out.lt;rw[Option.some.inj e] at this;omega)];exact (MapKept.heap_alloc w _).1)
 have ltS:∀x,S x→bt x<w.heap.size:=fun x hx=>(h.inn x hx).lt;refine ⟨hm,fun x hx=>?_,fun x hx=>?_,fun x hx=>?_,fun x d hd=>?_,fun x kl hx hk=>?_,fun x d hd=>?_,fun x hx=>.inl (h.sub x hx),fun x y hx hy he=>?_,fun x hx=>?_,h.apart⟩
 ·by_cases e1:x=s
  ·subst e1;rw[lookV_put_same h.out.held (show WideAt.IsKeyLit (.string _) from trivial),if_pos rfl]
  ·rw[lookV_put_other (by simpa using e1),if_neg e1];exact h.outAt x (hx.resolve_right e1)
 ·rw[lookV_put_other (by simpa using fun e=>hx (.inr e))];exact h.outNo x fun e=>hx (.inl e)
 ·by_cases e1:x=s
  ·subst e1;rw[if_pos rfl,if_pos rfl];exact ((MapV.made w P kI).keep (newb.trans (MapKept.heap_alloc w _).1.symm)).mono (Nat.zero_le _)
  ·rw[if_neg e1,if_neg e1];have hx':=hx.resolve_right e1;exact ((h.inn x hx').keep (old _ (.inr (.inl ⟨x,hx',rfl⟩)) (h.neT x hx'))).mono (Nat.le_succ n)
 ·have e1:x≠s:=fun e=>hnT d (e ▸ hd);rw[if_neg e1];exact h.innAt x d hd
 ·by_cases e1:x=s
  ·rw[if_pos e1];exact lookV_empty kl
  ·rw[if_neg e1];exact h.innNo x kl (hx.resolve_right e1) hk
 ·have hr:=h.row x d hd
  rcases hr.2 with hn | ⟨g,cap,cur,hv,h1,hb,h2⟩
  ·exact ⟨hr.1,.inl hn⟩
  ·have hgo:(rv x d).ownBlock=some g:=by rw[hv];rfl
   exact ⟨hr.1,.inr ⟨g,cap,cur,hv,h1,(old g (.inr (.inr ⟨x,d,hd,hgo⟩)) (row_ne_map hr hgo h.out)).trans hb,h2⟩⟩
 ·by_cases e1:x=s <;> by_cases e2:y=s
  ·rw[e1,e2]
  ·rw[if_pos e1,if_neg e2] at he;have:=ltS y (hy.resolve_right e2);omega
  ·rw[if_neg e1,if_pos e2] at he;have:=ltS x (hx.resolve_right e1);omega
  ·rw[if_neg e1,if_neg e2] at he;exact h.injT x y (hx.resolve_right e1) (hy.resolve_right e2) he
 ·by_cases e1:x=s
  ·rw[if_pos e1];have:=h.out.lt;omega
  ·rw[if_neg e1];exact h.neT x (hx.resolve_right e1)
theorem TermsAt.at (h:TermsAt P kS kI e B w bm S L n D bt Di rv) {s:List UInt8} (hs:S s) (d:Int):∃v,(lookV (Di s) (.int .i64 d)).getD (.slice none 0 0)=v∧w.ownsRow B e 1 v (posF L s d).length ((posF L s d).map (Value.int .i64))∧(v = .slice none 0 0∨(hasD L s d∧rv s d=v)):=by
 by_cases hd:hasD L s d
 ·exact ⟨rv s d,by rw[h.innAt s d hd];rfl,h.row s d hd,.inr ⟨hd,rfl⟩⟩
 ·have h0:lookV (Di s) (.int .i64 d)=none:=h.innNo s _ hs fun d' e=>by
   injection e with _ e2;obtain rfl:d=d':=by omega
   exact hd
  refine ⟨.slice none 0 0,by rw[h0];rfl,?_,.inl rfl⟩;rw[posF_none hd];exact World.ownsRow_nil _ _ _ _
open Classical in
theorem TermsAt.put (h:TermsAt P kS kI e B w bm S L n D bt Di rv) {s:List UInt8} (hs:S s) {d p:Int} {w1 w2:World} {v v':Value} (hv:v = .slice none 0 0∨(hasD L s d∧rv s d=v)) (hg1:w.grownBy w1 v.ownBlock)
 (ho:w1.ownsRow B e 1 v' ((posF L s d).length+1) ((posF L s d).map (Value.int .i64)++[.int .i64 p])) (hl:v'.ownBlock=v.ownBlock∨∃g,v'.ownBlock=some g∧w.heap.size≤g)
 (hm:MapV w2 P kI (bt s) (n+1) ((Di s).put (.int .i64 d) (.held v'))) (hg2:w1.grownBy w2 (some (bt s))) :
 TermsAt P kS kI e B w2 bm S (L++[⟨s,d,p⟩]) (n+1) D bt (fun x=>if x=s then (Di s).put (.int .i64 d) (.held v') else Di x) (fun x y=>if x=s∧y=d then v' else rv x y):=by
 have hbs:=(h.inn s hs).lt
 have hvne:∀g,v.ownBlock=some g→hasD L s d∧(rv s d).ownBlock=some g:=fun g hg=>by
  rcases hv with rfl | ⟨h1,h2⟩
  ·cases hg
  ·exact ⟨h1,by rw[h2];exact hg⟩
 have old:∀g,Foot bm S L bt rv g→v.ownBlock≠some g→g≠bt s→w2.heap[g]?=w.heap[g]?:=fun g hf h1 h2=>by have hlt:=h.bound hf;rw[hg2.block g (Nat.lt_of_lt_of_le hlt hg1.size) (fun e=>h2 (Option.some.inj e)),hg1.block g hlt (fun e=>h1 e.symm)]
 have hnm:∀{b:Nat} {k:TypeId} {D:DataW Value},MapV w P k b n D→v.ownBlock≠some b:=fun hm' e=>by obtain ⟨hd,hr⟩:=hvne _ e;exact row_ne_map (h.row s d hd) hr hm' rfl
 have hD1:∀x y,hasD (L++[⟨s,d,p⟩]) x y↔hasD L x y∨(x=s∧y=d):=fun x y=>by rw[hasD_append,hasD_one];constructor <;> rintro (h | ⟨h1,h2⟩) <;> first | exact .inl h | exact .inr ⟨h1.symm,h2.symm⟩
 have hT1:∀x,hasT (L++[⟨s,d,p⟩]) x→S x:=fun x hx=>by
  rw[hasT_append,hasT_one] at hx;rcases hx with hx | rfl
  ·exact h.sub x hx
  ·exact hs
 have hv2:∀g,v'.ownBlock=some g→g≠bt s:=fun g hg=>by
  rcases hl with hl | ⟨g',hl,hge⟩
  ·rw[hl] at hg;obtain ⟨hd,hr⟩:=hvne g hg;exact row_ne_map (h.row s d hd) hr (h.inn s hs)
  ·rw[hl] at hg;obtain rfl:=Option.some.inj hg;omega
 have apart':∀x y g,hasD L x y→¬(x=s∧y=d)→(rv x y).ownBlock=some g→v'.ownBlock≠some g:=fun x y g hxy hne hr e=>by
  rcases hl with hl | ⟨g',hl,hge⟩
  ·rw[hl] at e;obtain ⟨hd,hr2⟩:=hvne g e;exact hne (h.apart x y s d g hxy hd hr hr2)
  ·rw[hl] at e;obtain rfl:=Option.some.inj e;have:=((h.row x y hxy).lt g' hr).2;omega
 refine ⟨h.out.keep (old bm (.inl rfl) (hnm h.out) (fun e=>h.neT s hs e.symm)) |>.mono (Nat.le_succ n),h.outAt,h.outNo,fun x hx=>?_,fun x y hxy=>?_,fun x kl hx hk=>?_,fun x y hxy=>?_,hT1,h.injT,h.neT,fun x y x' y' g h1 h2 h3 h4=>?_⟩
 ·by_cases e1:x=s
  ·subst e1;rw[if_pos rfl];exact hm
  ·rw[if_neg e1];exact ((h.inn x hx).keep (old _ (.inr (.inl ⟨x,hx,rfl⟩)) (hnm (h.inn x hx)) (fun e=>e1 (h.injT x s hx hs e)))).mono (Nat.le_succ n)
 ·by_cases e1:x=s
  ·subst e1;rw[if_pos rfl];by_cases e2:y=d
   ·subst e2;rw[lookV_put_same (h.inn x hs).held (show WideAt.IsKeyLit (.int .i64 _) from trivial),if_pos ⟨rfl,rfl⟩]
   ·rw[lookV_put_other (by simpa using fun e:(y:Int)=d=>e2 (by exact_mod_cast e)),if_neg (fun e=>e2 e.2)];exact h.innAt x y (((hD1 x y).1 hxy).resolve_right fun e=>e2 e.2)
  ·rw[if_neg e1,if_neg (fun e=>e1 e.1)];exact h.innAt x y (((hD1 x y).1 hxy).resolve_right fun e=>e1 e.1)
 ·by_cases e1:x=s
  ·subst e1;rw[if_pos rfl];have hne:kl≠.int .i64 (d:Int):=fun e=>hk d e ((hD1 x d).2 (.inr ⟨rfl,rfl⟩));rw[lookV_put_other hne];exact h.innNo x kl hx fun y e hy=>hk y e ((hD1 x y).2 (.inl hy))
  ·rw[if_neg e1];exact h.innNo x kl hx fun y e hy=>hk y e ((hD1 x y).2 (.inl hy))
 ·by_cases e1:x=s∧y=d
  ·obtain ⟨rfl,rfl⟩:=e1;rw[if_pos ⟨rfl,rfl⟩,posF_append,posF_one_same]
   have:=ho.kept hg2 (by
    cases e:v'.ownBlock with
    | none=>exact .inl rfl
    | some g=>exact .inr fun e2=>hv2 g e (Option.some.inj e2))
   simpa using this
  ·rw[if_neg e1,posF_append,posF_one_other (fun e=>e1 ⟨e.1.symm,e.2.symm⟩),List.append_nil];have hxy':=((hD1 x y).1 hxy).resolve_right e1;have hr:=h.row x y hxy'
   rcases hr.2 with hn | ⟨g,cap,cur,hv3,h1,hb,h2⟩
   ·exact ⟨hr.1,.inl hn⟩
   ·have hgo:(rv x y).ownBlock=some g:=by rw[hv3];rfl
    refine ⟨hr.1,.inr ⟨g,cap,cur,hv3,h1,(old g (.inr (.inr ⟨x,y,hxy',hgo⟩)) (fun e=>?_) (row_ne_map hr hgo (h.inn s hs))).trans hb,h2⟩⟩;obtain ⟨hd,hr2⟩:=hvne g e;exact e1 (h.apart x y s d g hxy' hd hgo hr2)
 ·by_cases e1:x=s∧y=d <;> by_cases e2:x'=s∧y'=d
  ·exact ⟨e1.1.trans e2.1.symm,e1.2.trans e2.2.symm⟩
  ·rw[if_pos e1] at h3;rw[if_neg e2] at h4;exact absurd h3 (apart' x' y' g (((hD1 x' y').1 h2).resolve_right e2) e2 h4)
  ·rw[if_neg e1] at h3;rw[if_pos e2] at h4;exact absurd h4 (apart' x y g (((hD1 x y).1 h1).resolve_right e1) e1 h3)
  ·rw[if_neg e1] at h3;rw[if_neg e2] at h4;exact h.apart x y x' y' g (((hD1 x y).1 h1).resolve_right e1) (((hD1 x' y').1 h2).resolve_right e2) h3 h4
end
end Go.Proofs.YtigfcihakghddaaGreatDoor.BufT
end
