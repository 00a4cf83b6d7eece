/- Lemmas that the last text leans on. -/
import Derived.Test.YtigfcihakghddaaGreatDoorPack3
import Derived.Test.YtigfcihakghddaaGreatDoorPack7
import Derived.Lib.SlicesCompact
import Derived.Test.YtigfcihakghddaaGreatDoorPack6
import Derived.Test.YtigfcihakghddaaGreatDoorPack4
import Derived.Test.YtigfcihakghddaaGreatDoorProg
import Derived.Sort.EncStr
set_option linter.all false
section
namespace SchP
def byteB (i:Nat) (c:UInt8):Bool:=decide (97≤c.toNat∧c.toNat≤122) || decide (c.toNat=95) || (decide (0<i) && decide (48≤c.toNat∧c.toNat≤57))
def bytesB:Nat→List UInt8→Bool
 | _,[]=>true
 | i,c::l=>byteB i c && bytesB (i+1) l
def nameB (s:ByteArray):Bool:=bytesB 0 s.data.toList && decide (1≤s.size) && decide (s.size≤24)
theorem bytesB_step {l:List UInt8} {k:Nat} (h:k<l.length):bytesB k (l.drop k)=(byteB k l[k] && bytesB (k+1) (l.drop (k+1))):=by
 rw[List.drop_eq_getElem_cons h,bytesB]
end SchP
end
section
namespace SchP
open AnaP
structure FT where
 name:ByteArray
 kind:Int
 chain:List Int
 scale:Int
 dims:Int
 many:Bool
 stored:Bool
structure ET where
 field:ByteArray
 text:ByteArray
 nums:List Int
structure CT where
 field:Int
 text:ByteArray
 nums:List Int
def kindB (f:FT):Bool:=if f.kind=1 then checkB f.chain else if f.kind=2∨f.kind=3 then true else if f.kind=4 then decide (0≤f.scale∧f.scale≤9) else if f.kind=5 then decide (1≤f.dims∧f.dims≤4) else false
def mayB (f:FT):Bool:=nameB f.name && (decide (f.kind=1) || decide (f.chain.length=0)) && (decide (f.kind=4) || decide (f.scale=0)) && (decide (f.kind=5) || decide (f.dims=0)) && kindB f
def findF:List FT→ByteArray→Option Nat
 | [],_=>none
 | f::l,s=>if f.name=s then some 0 else (findF l s).map (· + 1)
def findZ (l:List FT) (s:ByteArray):Int:=match findF l s with
 | some i=>i
 | none=>-1
theorem findF_some:∀{l:List FT} {s:ByteArray} {i:Nat},findF l s=some i→∃h:i<l.length,l[i].name=s∧∀(k:Nat) (hk:k<i),(l[k]'(by omega)).name≠s
 | [],s,i,h=>by cases h
 | f::l,s,i,h=>by
  unfold findF at h;split at h
  ·rename_i hf
   cases h;exact ⟨by simp,hf,fun k hk=>by omega⟩
  ·rename_i hf
   cases hl:findF l s with
   | none=>rw[hl] at h;cases h
   | some j=>
    rw[hl] at h;cases h;obtain ⟨h1,h2,h3⟩:=findF_some hl;refine ⟨by simp;omega,by simpa using h2,fun k hk=>?_⟩
    cases k with
    | zero=>simpa using hf
    | succ k=>
     have:=h3 k (Nat.lt_of_succ_lt_succ hk);simpa using this
theorem findF_none:∀{l:List FT} {s:ByteArray},findF l s=none→∀f∈l,f.name≠s
 | [],s,_,f,hf=>by cases hf
 | g::l,s,h,f,hf=>by
  unfold findF at h;split at h
  ·cases h
  ·rename_i hg
   rw[Option.map_eq_none_iff] at h;rcases List.mem_cons.1 hf with rfl | hf
   ·exact hg
   ·exact findF_none h f hf
theorem findF_of {l:List FT} {s:ByteArray} {i:Nat} (h:i<l.length) (hs:l[i].name=s) (hk:∀(k:Nat) (hki:k<i),(l[k]'(by omega)).name≠s):findF l s=some i:=by
 cases hf:findF l s with
 | none=>exact absurd hs (findF_none hf _ (List.getElem_mem h))
 | some j=>
  obtain ⟨h1,h2,h3⟩:=findF_some hf;rcases Nat.lt_trichotomy i j with h4 | rfl | h4
  ·exact absurd hs (h3 i h4)
  ·rfl
  ·exact absurd h2 (hk j h4)
def firstB (l:List FT) (i:Nat):Bool:=match l[i]? with
 | none=>true
 | some f=>(l.take i).all fun g=>decide (g.name≠f.name)
theorem firstB_iff {l:List FT} {i:Nat} (h:i<l.length):firstB l i=true↔∀(k:Nat) (hk:k<i),(l[k]'(by omega)).name≠l[i].name:=by
 unfold firstB;rw[List.getElem?_eq_getElem h];simp only[List.all_eq_true,decide_eq_true_eq];constructor
 ·intro ha k hk;exact ha _ (List.mem_take_iff_getElem.2 ⟨k,by omega,rfl⟩)
 ·intro ha g hg;obtain ⟨k,hk,rfl⟩:=List.mem_take_iff_getElem.1 hg;exact ha k (by omega)
theorem first_find {l:List FT} {i:Nat} (h:i<l.length):firstB l i=decide (findF l l[i].name=some i):=by
 rw[Bool.eq_iff_iff,firstB_iff h,decide_eq_true_iff];exact ⟨fun hk=>findF_of h rfl hk,fun hf=>by obtain ⟨_,_,h3⟩:=findF_some hf;exact h3⟩
def okAt (l:List FT) (i:Nat):Bool:=match l[i]? with
 | none=>true
 | some f=>firstB l i && mayB f
theorem okAt_eq {l:List FT} {i:Nat} (h:i<l.length):okAt l i=(firstB l i && mayB l[i]):=by unfold okAt;rw[List.getElem?_eq_getElem h]
def okTo (l:List FT) (k:Nat):Bool:=(List.range k).all (okAt l)
theorem okTo_zero (l:List FT):okTo l 0=true:=rfl
theorem okTo_succ (l:List FT) (k:Nat):okTo l (k+1)=(okTo l k && okAt l k):=by simp[okTo,List.range_succ]
theorem okTo_no {l:List FT} {k n:Nat} (h:okAt l k=false) (hk:k<n):okTo l n=false:=by
 rw[okTo,List.all_eq_false];exact ⟨k,List.mem_range.2 hk,by simp[h]⟩
def checkS (l:List FT):Bool:=decide (1≤l.length) && decide (l.length≤16) && okTo l l.length
def errS (b:Bool):Int:=if b then 0 else 80
end SchP
end
section
namespace BufP
open SchP AnaP
structure FD where
 adds:List Ad
 lens:List Int
 texts:List (List (List UInt8))
 nums:List (List Int)
 pts:List (Int × List Int)
def FD.zero:FD:=⟨[],[],[],[],[]⟩
structure IT where
 seq:Nat
 doc:List ET
def textAd (d:Int) (ts:List TokD):List Ad:=ts.map fun t=>⟨t.text.data.toList,d,t.pos⟩
def kwsF (cs:List CT):List (List UInt8):=Go.Lib.compact ((cs.map fun c=>c.text.data.toList).mergeSort Go.leB)
def numF (cs:List CT):List Int:=(cs.map fun c=>c.nums.headD 0).mergeSort fun x y=>decide (x≤y)
def ptsF (d:Int) (cs:List CT):List (Int × List Int):=cs.map fun c=>(d,c.nums)
section
variable (toks:List FT→Int→List CT→List TokD) (cells:List FT→List ET→Except Int (List CT))
def stepD (l:List FT) (k:Nat) (kind:Int) (d:Int) (cs:List CT) (x:FD):FD:=
 if kind=1 then { x with adds:=x.adds++textAd d (toks l k cs),lens:=x.lens++[((toks l k cs).length:Int)] }
 else if kind=2 then { x with adds:=x.adds++(kwsF cs).map fun s=>⟨s,d,0⟩,texts:=x.texts++[kwsF cs] }
 else if kind=5 then { x with pts:=x.pts++ptsF d cs }
 else { x with nums:=x.nums++[numF cs],pts:=x.pts++ptsF d cs }
def ofF (k:Nat) (cs:List CT):List CT:=cs.filter fun c=>decide (c.field=k)
def docD (l:List FT) (d:Int) (cs:List CT) (xs:List FD):List FD:=xs.mapIdx fun k x=>stepD toks l k ((l[k]?.map (·.kind)).getD 0) d (ofF k cs) x
def goD (l:List FT):Nat→List FD→List IT→Except Int (List FD)
 | _,xs,[]=>.ok xs
 | d,xs,it::r=>match cells l it.doc with
  | .error n=>.error n
  | .ok cs=>goD l (d+1) (docD toks l d cs xs) r
def seqB:Nat→List IT→Bool
 | _,[]=>true
 | last,it::r=>decide (last<it.seq) && seqB it.seq r
def rightD (l:List FT) (its:List IT):Int:=if checkS l=false then 80 else if 16384<its.length then 3 else if seqB 0 its then 0 else 1
def buildD (l:List FT) (its:List IT):Except Int (List FD):=if rightD l its≠0 then .error (rightD l its) else goD toks cells l 0 (List.replicate l.length FD.zero) its
end
end BufP
end
section
namespace Go.Proofs.YtigfcihakghddaaGreatDoor.BufT
open Go Go.RowKit Words Tree MapV BufP
def strCells (l:List (List UInt8)):List Value:=l.map Go.Proofs.encStr
def intCells (l:List Int):List Value:=l.map (Value.int .i64)
structure FieldIn (w:World) (B fb k:Nat) (sv:Value) (x:FD) (bm n:Nat) (D:DataW Value) (bt:List UInt8→Nat) (Di:List UInt8→DataW Value) (rv:List UInt8→Int→Value) (vl vt vn vp:Value) (bt1 bn bp:List Nat):Prop where
 self:Blk w fb 95 #[.slice none 0 0,.slice none 0 0,vl,vt,vn,vp,sv,.int .i64 k,.map (some bm)]
 low:B≤fb
 terms:TermsAt Tryz.prog 9 3 3 B w bm (hasT x.adds) x.adds n D bt Di rv
 lens:w.ownsRow B 2 1 vl x.lens.length (intCells x.lens)
 texts:RowR w B 48 1 9 (fun _=>[]) strCells vt x.texts bt1
 nums:RowR w B 50 1 2 (fun _=>[]) intCells vn x.nums bn
 pts:RowR w B 55 2 2 (fun p=>[.int .i64 p.1]) (fun p=>intCells p.2) vp x.pts bp
 nd:(fb::(vl.ownBlock.toList++(bt1++(bn++bp)))).Nodup
 off:∀g∈fb::(vl.ownBlock.toList++(bt1++(bn++bp))),¬Foot bm (hasT x.adds) x.adds bt rv g
 above:∀g,Foot bm (hasT x.adds) x.adds bt rv g→B≤g
def FootF (fb bm:Nat) (x:FD) (bt:List UInt8→Nat) (rv:List UInt8→Int→Value) (vl:Value) (bs:List Nat) (g:Nat):Prop:=g∈fb::(vl.ownBlock.toList++bs)∨Foot bm (hasT x.adds) x.adds bt rv g
def FieldAt (w:World) (B fb k:Nat) (sv:Value) (x:FD) (F:Nat→Prop):Prop:=
 ∃(bm n:Nat) (D:DataW Value) (bt:List UInt8→Nat) (Di:List UInt8→DataW Value) (rv:List UInt8→Int→Value) (vl vt vn vp:Value) (bt1 bn bp:List Nat),
  FieldIn w B fb k sv x bm n D bt Di rv vl vt vn vp bt1 bn bp∧n≤2*x.adds.length∧∀g,F g↔FootF fb bm x bt rv vl (bt1++(bn++bp)) g
section
variable {w w':World} {B fb k:Nat} {sv:Value} {x:FD} {F:Nat→Prop}
theorem FieldIn.keep {bm n:Nat} {D:DataW Value} {bt:List UInt8→Nat} {Di:List UInt8→DataW Value} {rv:List UInt8→Int→Value} {vl vt vn vp:Value} {bt1 bn bp:List Nat}
 (h:FieldIn w B fb k sv x bm n D bt Di rv vl vt vn vp bt1 bn bp) (hk:∀g,FootF fb bm x bt rv vl (bt1++(bn++bp)) g→w'.heap[g]?=w.heap[g]?):FieldIn w' B fb k sv x bm n D bt Di rv vl vt vn vp bt1 bn bp:=
 ⟨(hk fb (.inl (List.mem_cons_self ..))).trans h.self,h.low,h.terms.keep fun g hg=>hk g (.inr hg),
  own_stay h.lens fun g hg=>hk g (.inl (List.mem_cons_of_mem _ (List.mem_append_left _ (mem_own.2 hg)))),
  h.texts.keep fun g hg=>hk g (.inl (List.mem_cons_of_mem _ (List.mem_append_right _ (List.mem_append_left _ hg)))),
  h.nums.keep fun g hg=>hk g (.inl (List.mem_cons_of_mem _ (List.mem_append_right _ (List.mem_append_right _ (List.mem_append_left _ hg))))),
  h.pts.keep fun g hg=>hk g (.inl (List.mem_cons_of_mem _ (List.mem_append_right _ (List.mem_append_right _ (List.mem_append_right _ hg))))),h.nd,h.off,h.above⟩
theorem FieldIn.ltL {bm n:Nat} {D:DataW Value} {bt:List UInt8→Nat} {Di:List UInt8→DataW Value} {rv:List UInt8→Int→Value} {vl vt vn vp:Value} {bt1 bn bp:List Nat}
 (h1:FieldIn w B fb k sv x bm n D bt Di rv vl vt vn vp bt1 bn bp) {g:Nat} (h:g∈fb::(vl.ownBlock.toList++(bt1++(bn++bp)))):B≤g∧g<w.heap.size:=by
 rcases List.mem_cons.1 h with rfl | h
 ·exact ⟨h1.low,h1.self.lt⟩
 ·rcases List.mem_append.1 h with h | h
  ·exact h1.lens.lt g (mem_own.1 h)
  ·rcases List.mem_append.1 h with h | h
   ·exact h1.texts.mem g h
   ·rcases List.mem_append.1 h with h | h
    ·exact h1.nums.mem g h
    ·exact h1.pts.mem g h
theorem FieldIn.added {a:Ad} {bm n n':Nat} {D D':DataW Value} {bt bt':List UInt8→Nat} {Di Di':List UInt8→DataW Value} {rv rv':List UInt8→Int→Value} {vl vt vn vp:Value} {bt1 bn bp:List Nat}
 (h:FieldIn w B fb k sv x bm n D bt Di rv vl vt vn vp bt1 bn bp) (hb:But (Foot bm (hasT x.adds) x.adds bt rv) w w') (hB:B≤w.heap.size)
 (ht:TermsAt Tryz.prog 9 3 3 B w' bm (hasT (x.adds++[a])) (x.adds++[a]) n' D' bt' Di' rv') (hf:∀g,Foot bm (hasT (x.adds++[a])) (x.adds++[a]) bt' rv' g→Foot bm (hasT x.adds) x.adds bt rv g∨w.heap.size≤g) :
 FieldIn w' B fb k sv { x with adds:=x.adds++[a] } bm n' D' bt' Di' rv' vl vt vn vp bt1 bn bp:=by
 have hk:∀g∈fb::(vl.ownBlock.toList++(bt1++(bn++bp))),w'.heap[g]?=w.heap[g]?:=fun g hg=>hb.block g (h.ltL hg).2 (h.off g hg)
 exact ⟨(hk fb (List.mem_cons_self ..)).trans h.self,h.low,ht,
  own_stay h.lens fun g hg=>hk g (List.mem_cons_of_mem _ (List.mem_append_left _ (mem_own.2 hg))),
  h.texts.keep fun g hg=>hk g (List.mem_cons_of_mem _ (List.mem_append_right _ (List.mem_append_left _ hg))),
  h.nums.keep fun g hg=>hk g (List.mem_cons_of_mem _ (List.mem_append_right _ (List.mem_append_right _ (List.mem_append_left _ hg)))),
  h.pts.keep fun g hg=>hk g (List.mem_cons_of_mem _ (List.mem_append_right _ (List.mem_append_right _ (List.mem_append_right _ hg)))),h.nd,
  fun g hg hF=>(hf g hF).elim (h.off g hg) (fun hge=>by have:=(h.ltL hg).2;omega),fun g hF=>(hf g hF).elim (h.above g) (fun hge=>by omega)⟩
def FieldRet (w:World) (B fb k:Nat) (sv:Value) (x':FD) (F:Nat→Prop) (e:Ending) (w':World):Prop:=
 e = .returned (.tuple #[])∧But F w w'∧∃F',FieldAt w' B fb k sv x' F'∧∀g,F' g→F g∨w.heap.size≤g
theorem FieldAt.keep (h:FieldAt w B fb k sv x F) (hk:∀g,F g→w'.heap[g]?=w.heap[g]?):FieldAt w' B fb k sv x F:=by
 obtain ⟨bm,n,D,bt,Di,rv,vl,vt,vn,vp,bt1,bn,bp,h1,h2,h3⟩:=h;exact ⟨bm,n,D,bt,Di,rv,vl,vt,vn,vp,bt1,bn,bp,h1.keep fun g hg=>hk g ((h3 g).2 hg),h2,h3⟩
theorem FieldAt.lt (h:FieldAt w B fb k sv x F) {g:Nat} (hg:F g):B≤g∧g<w.heap.size:=by
 obtain ⟨bm,n,D,bt,Di,rv,vl,vt,vn,vp,bt1,bn,bp,h1,h2,h3⟩:=h;rcases (h3 g).1 hg with h | h
 ·rcases List.mem_cons.1 h with rfl | h
  ·exact ⟨h1.low,h1.self.lt⟩
  ·rcases List.mem_append.1 h with h | h
   ·exact h1.lens.lt g (mem_own.1 h)
   ·rcases List.mem_append.1 h with h | h
    ·exact h1.texts.mem g h
    ·rcases List.mem_append.1 h with h | h
     ·exact h1.nums.mem g h
     ·exact h1.pts.mem g h
 ·exact ⟨h1.above g h,h1.terms.bound h⟩
end
end Go.Proofs.YtigfcihakghddaaGreatDoor.BufT
end
