/- Lemmas that the last text leans on. -/
import Derived.Test.YtplkbdncgkgppaaGreatDoorPack4
import Derived.Test.YtplkbdncgkgppaaGreatDoorPack2
import Derived.Lib.FrozenHead2
import Derived.Lib.OthersKept
import Derived.Lib.Builder
import Derived.Laws.Externs
import Derived.Laws.IdiomCopy
import Derived.Lib.Hide
import Derived.OpenShut
set_option linter.all false
set_option maxRecDepth 100000
set_option maxHeartbeats 4000000
section
namespace Go.Proofs.YtplkbdncgkgppaaGreatDoor.SBuilder
open Go.RowKit Go.Lib
theorem ydg:(Tryz.prog.info? 110).map (·.size)=some 2:=by kernel_rfl
theorem infoByte:(Tryz.prog.info? 5).map (fun i=>(i.zero,i.size,i.bytes))=some (some (.int .u8 0),1,1):=by kernel_rfl
theorem zk8 (b:Nat) (w:World) (h0:w.cell? ⟨b,0,none⟩=some (.pointer (some ⟨b,0,none⟩))) :
 Calls Tryz.prog 129 #[.pointer (some ⟨b,0,none⟩)] w fun e w'=>e = .returned (.tuple #[])∧w'=w:=by
 obtain ⟨j,hj,_⟩:=Option.map_eq_some_iff.1 ydg;go_enter Tryz.func129,Tryz.ntmps129;go_wp2;rw[Lib.run_neq_ptr_same w _ Tryz.underlying108 hj];go_wp2;go_end0;exact ⟨rfl,rfl⟩
theorem zjy (b:Nat) (w:World) (h0:w.cell? ⟨b,0,none⟩=some (.pointer none)) (hsh:w.shape? b=some (110,2)) (hfz:w.frozen? ⟨b,0,none⟩=false) :
 Calls Tryz.prog 129 #[.pointer (some ⟨b,0,none⟩)] w fun e w'=>e = .returned (.tuple #[])∧w'=w.setCell ⟨b,0,none⟩ (.pointer (some ⟨b,0,none⟩)):=by
 obtain ⟨j,hj,hjs⟩:=Option.map_eq_some_iff.1 ydg;go_enter Tryz.func129,Tryz.ntmps129;go_wp2;rw[Lib.run_to_unsafe w ⟨b,0,none⟩ Tryz.underlying108 Tryz.underlying184 hj (by rw[hjs];decide) hsh (Nat.zero_lt_succ 1)];simp only[Result.andThen];rw[Oper.upon_value];go_wp2;rw[run_callFunc_extern Tryz.func159 (by kernel_rfl) (by kernel_rfl) (by kernel_rfl) (e:=Extern.AbiNoEscape.same) (by kernel_rfl)];rw[Lib.run_noEscape];simp only[Result.andThen];rw[Oper.upon_value];go_wp2;rw[Lib.run_from_unsafe w ⟨b,0,none⟩ Tryz.underlying184 Tryz.underlying108 hj hsh (by kernel_rfl)];simp only[Result.andThen];rw[Oper.upon_value];go_wp2;go_end0;exact ⟨rfl,rfl⟩
theorem zep (B b:Nat) (bs:List Value) (w:World) (h:Lib.IsBuilderF 110 5 B b bs w) :
 Calls Tryz.prog 129 #[.pointer (some ⟨b,0,none⟩)] w fun e w'=>e = .returned (.tuple #[])∧(Lib.BuilderAtF 110 5 B b (.pointer (some ⟨b,0,none⟩)) bs w'∧Below B w w'∧Lib.OthersKept 5 (some b) w w'):=by
 rcases h with h | h
 ·refine (zjy b w h.cell0 h.shape h.frozen0).mono ?_;rintro e w' ⟨rfl,rfl⟩;exact ⟨rfl,h.used _,(Below.refl B w).setCell (p:=⟨b,0,none⟩) h.1 _,(Lib.OthersKept.refl _ _ w).setCell ⟨b,0,none⟩ rfl _⟩
 ·refine (zk8 b w h.cell0).mono ?_;rintro e w' ⟨rfl,rfl⟩;exact ⟨rfl,h,Below.refl B _,Lib.OthersKept.refl _ _ _⟩
theorem zdp (B b:Nat) (bs:List Value) (s:ByteArray) (w:World) (h:Lib.IsBuilderF 110 5 B b bs w) (hlen:bs.length+s.size≤140737488355328) (hBw:B≤w.heap.size) :
 Calls Tryz.prog 86 #[.pointer (some ⟨b,0,none⟩),.string s] w fun e w'=>e = .returned (.tuple #[.int .i64 s.size,.nilIface])∧(Lib.BuilderAtF 110 5 B b (.pointer (some ⟨b,0,none⟩)) (bs++Lib.strCells s) w'∧Below B w w'∧Lib.OthersKept 5 (some b) w w'):=by
 obtain ⟨i0,hi,hz0,hz1,hz2⟩:=info_parts infoByte;go_enter Tryz.func86,Tryz.ntmps86;go_wp2_with (go_at_call 129;refine (zep B b bs _ h).mono ?_);rintro e w1 ⟨rfl,h1,hb1,hk1⟩;obtain ⟨hB,v,hbk,hown,hne⟩:=h1;have c0:w1.cell? ⟨b,0,none⟩=some (.pointer (some ⟨b,0,none⟩)):=by rw[Lib.cell_of_heap hbk];rfl
 have c1:w1.cell? ⟨b,1,none⟩=some v:=by rw[Lib.cell_of_heap hbk];rfl
 go_wp2_with (at_builtin;refine Lib.wpList_append_own_stringF _ rfl _ _ 93 9 rfl B 5 i0 Tryz.underlying93 Tryz.underlying9 hi hz0 hz1 hz2 _ _ _ rfl hown s rfl ?c3 ?c4 ?c5 ?_);case c3=>unfold maxLen;omega
 case c4=>omega
 case c5=>have:=hb1.size;omega
 intro v' w2 hown' hgrow _
 have hlt:b<w1.heap.size:=by
  rcases Nat.lt_or_ge b w1.heap.size with h' | h'
  ·exact h'
  ·simp[Array.getElem?_eq_none h'] at hbk
 have hb2:w2.heap[b]?=some (.cells #[.pointer (some ⟨b,0,none⟩),v] 110 (0,0)):=(by rw[hgrow.block b hlt (fun e=>hne e.symm)];exact hbk)
 have d0:w2.cell? ⟨b,0,none⟩=some (.pointer (some ⟨b,0,none⟩)):=by rw[Lib.cell_of_heap hb2];rfl
 have d1:w2.cell? ⟨b,1,none⟩=some v:=by rw[Lib.cell_of_heap hb2];rfl
 have f1:w2.frozen? ⟨b,1,none⟩=false:=Lib.frozen_of_heap hb2 1
 obtain ⟨ao,n',cap,rfl⟩:∃ao n' cap,v' = .slice ao n' cap:=by
  rcases hown'.2 with ⟨hv,_⟩ | ⟨g,cap,cur,fz,hv,_⟩
  ·exact ⟨_,_,_,hv⟩
  ·exact ⟨_,_,_,hv⟩
 go_wp2;go_ret2;refine ⟨rfl,?_,?_,(hk1.grown hgrow (Lib.ownsRowF_kind hown)).setCell ⟨b,1,none⟩ rfl _⟩
 ·exact Lib.BuilderAtF.put (T:=110) (e:=5) hB hb2 (bs':=bs++Lib.strCells s) (by simpa [Lib.strCells_length] using hown') (by decide)
 ·exact (hb1.grown hgrow (by have:=hb1.size;omega) (fun k hk=>(hown.lt k hk).1)).setCell (p:=⟨b,1,none⟩) hB _
theorem zmf (B b:Nat) (bs:List Value) (r:Int) (hr0 : -2147483648≤r) (hr1:r≤2147483647) (w:World) (h:Lib.IsBuilderF 110 5 B b bs w) (hlen:bs.length+4≤140737488355328) (hBw:B≤w.heap.size) :
 Calls Tryz.prog 180 #[.pointer (some ⟨b,0,none⟩),.int .i32 r] w fun e w'=>e = .returned (.tuple #[.int .i64 (Lib.runeCells r).length,.nilIface])∧(Lib.BuilderAtF 110 5 B b (.pointer (some ⟨b,0,none⟩)) (bs++Lib.runeCells r) w'∧Below B w w'∧Lib.OthersKept 5 (some b) w w'):=by
 have hk4:=Lib.runeCells_le r;go_enter Tryz.func180,Tryz.ntmps180;go_wp2_with (go_at_call 129;refine (zep B b bs _ h).mono ?_);rintro e w1 ⟨rfl,h1,hb1,hk1⟩;obtain ⟨hB,v,hbk,hown,hne⟩:=h1
 obtain ⟨ao,cap,rfl⟩:∃ao cap,v = .slice ao bs.length cap:=by
  rcases hown.2 with ⟨hv,h0⟩ | ⟨g,cap,cur,fz,hv,_⟩
  ·exact ⟨none,0,by rw[hv,h0]⟩
  ·exact ⟨_,_,hv⟩
 have c0:w1.cell? ⟨b,0,none⟩=some (.pointer (some ⟨b,0,none⟩)):=by rw[Lib.cell_of_heap hbk];rfl
 have c1:w1.cell? ⟨b,1,none⟩=some (.slice ao bs.length cap):=by rw[Lib.cell_of_heap hbk];rfl
 go_wp2_with (go_at_call 193;refine (Tryz.utf8_AppendRune_row B _ bs.length bs r hr0 hr1 _ hown hlen (by have:=hb1.size;omega)).mono ?_);rintro e w2 ⟨v',rfl,hown',o,hgrow⟩
 have hlt:b<w1.heap.size:=by
  rcases Nat.lt_or_ge b w1.heap.size with h' | h'
  ·exact h'
  ·simp[Array.getElem?_eq_none h'] at hbk
 have hb2:w2.heap[b]?=some (.cells #[.pointer (some ⟨b,0,none⟩),.slice ao bs.length cap] 110 (0,0)):=(by rw[hgrow.block b (by simp;omega) (fun e=>hne e.symm),Lib.alloc_old w1 _ b hlt];exact hbk)
 have d0:w2.cell? ⟨b,0,none⟩=some (.pointer (some ⟨b,0,none⟩)):=by rw[Lib.cell_of_heap hb2];rfl
 have d1:w2.cell? ⟨b,1,none⟩=some (.slice ao bs.length cap):=by rw[Lib.cell_of_heap hb2];rfl
 have f1:w2.frozen? ⟨b,1,none⟩=false:=Lib.frozen_of_heap hb2 1
 obtain ⟨g,cap',rfl⟩:∃g cap',v' = .slice (some ⟨g,0,none⟩) (bs.length+(Lib.runeCells r).length) cap':=by
  rcases hown'.2 with ⟨_,h0⟩ | ⟨g,cap',cur,fz,hv,_⟩
  ·omega
  ·exact ⟨g,cap',hv⟩
 go_wp2;go_ret2;refine ⟨?_,?_,?_,((hk1.alloc _).grown hgrow (Lib.ownsRowF_kind (hown.alloc _))).setCell ⟨b,1,none⟩ rfl _⟩
 ·have e:((bs.length:Int)+((Lib.runeCells r).length:Int) - (bs.length:Int))=((Lib.runeCells r).length:Int):=by omega
  simp[e]
 ·exact Lib.BuilderAtF.put (T:=110) (e:=5) hB hb2 (bs':=bs++Lib.runeCells r) (by simpa using hown') (by decide)
 ·exact ((hb1.alloc (by have:=hb1.size;omega) _).grown hgrow (by have:=hb1.size;simp;omega) (fun k hk=>(hown.lt k hk).1)).setCell (p:=⟨b,1,none⟩) hB _
end Go.Proofs.YtplkbdncgkgppaaGreatDoor.SBuilder
end
section
namespace Go.Proofs.YtplkbdncgkgppaaGreatDoor.SBuilder
open Go.RowKit Go.Lib
theorem zmg (B b:Nat) (bs:List Value) (c:Int) (w:World) (h:Lib.IsBuilderF 110 5 B b bs w) (hlen:bs.length+1≤140737488355328) (hBw:B≤w.heap.size) :
 Calls Tryz.prog 89 #[.pointer (some ⟨b,0,none⟩),.int .u8 c] w fun e w'=>e = .returned .nilIface∧(Lib.BuilderAtF 110 5 B b (.pointer (some ⟨b,0,none⟩)) (bs++[.int .u8 c]) w'∧Below B w w'∧Lib.OthersKept 5 (some b) w w'):=by
 obtain ⟨i0,hi,hz0,hz1,hz2⟩:=info_parts infoByte;go_enter Tryz.func89,Tryz.ntmps89;go_wp2_with (go_at_call 129;refine (zep B b bs _ h).mono ?_);rintro e w1 ⟨rfl,h1,hb1,hk1⟩;obtain ⟨hB,v,hbk,hown,hne⟩:=h1;have c0:w1.cell? ⟨b,0,none⟩=some (.pointer (some ⟨b,0,none⟩)):=by rw[Lib.cell_of_heap hbk];rfl
 have c1:w1.cell? ⟨b,1,none⟩=some v:=by rw[Lib.cell_of_heap hbk];rfl
 go_wp2_with (at_builtin;refine wpList_append_ownF _ rfl _ _ 93 rfl B 5 i0 (.int .u8 0) 1 1 Tryz.underlying93 hi hz0 hz1 hz2 rfl (by decide) _ _ _ rfl (hown.alloc _) ⟨w1.heap.size,0,none⟩ 1 1 [.int .u8 c] rfl rfl ?c1 ?c2 ?c3 ?c4 ?c5 ?_)
 case c1=>
  intro j u hj
  match j,hj with
  | 0,hj=>simp at hj;subst hj;simp[Addr.add]
 case c2=>intro u hu;simp at hu;subst hu;rfl
 case c3=>unfold maxLen;omega
 case c4=>omega
 case c5=>have:=hb1.size;simp;omega
 intro v' w2 hown' hgrow _
 have hlt:b<w1.heap.size:=by
  rcases Nat.lt_or_ge b w1.heap.size with h' | h'
  ·exact h'
  ·simp[Array.getElem?_eq_none h'] at hbk
 have hb2:w2.heap[b]?=some (.cells #[.pointer (some ⟨b,0,none⟩),v] 110 (0,0)):=(by rw[hgrow.block b (by simp;omega) (fun e=>hne e.symm),Lib.alloc_old w1 _ b hlt];exact hbk)
 have d0:w2.cell? ⟨b,0,none⟩=some (.pointer (some ⟨b,0,none⟩)):=by rw[Lib.cell_of_heap hb2];rfl
 have d1:w2.cell? ⟨b,1,none⟩=some v:=by rw[Lib.cell_of_heap hb2];rfl
 have f1:w2.frozen? ⟨b,1,none⟩=false:=Lib.frozen_of_heap hb2 1
 obtain ⟨g,cap,rfl⟩:∃g cap,v' = .slice (some ⟨g,0,none⟩) (bs.length+1) cap:=by
  rcases hown'.2 with ⟨_,h0⟩ | ⟨g,cap,cur,fz,hv,_⟩
  ·omega
  ·exact ⟨g,cap,hv⟩
 go_wp2;go_ret;refine ⟨rfl,?_,?_,((hk1.alloc _).grown hgrow (Lib.ownsRowF_kind (hown.alloc _))).setCell ⟨b,1,none⟩ rfl _⟩
 ·exact Lib.BuilderAtF.put (T:=110) (e:=5) hB hb2 (bs':=bs++[.int .u8 c]) (by simpa using hown') (by decide)
 ·exact ((hb1.alloc (by have:=hb1.size;omega) _).grown hgrow (by have:=hb1.size;simp;omega) (fun k hk=>(hown.lt k hk).1)).setCell (p:=⟨b,1,none⟩) hB _
end Go.Proofs.YtplkbdncgkgppaaGreatDoor.SBuilder
end
section
namespace Go.Proofs.YtplkbdncgkgppaaGreatDoor.Tree
open Go.RowKit Go.WideShapes Go.ChangeShapes Words
inductive T where
 | lit (v:Value)
 | arr (s n:Nat) (xs:List T)
def zbv (w:World) (ad:Addr) (l:List Value):Prop:=∀j u,l[j]?=some u→w.cell? (ad.add j)=some u
mutual
def T.At (sent:Nat→List (List Value)) (w:World) (S:Nat→Prop):T→Value→Prop
 | .lit u,v=>v=u
 | .arr s n xs,v=>∃A cap vs,v = .slice A n cap∧n+(sent s).length≤cap∧cap≤maxLen∧xs.length=n*s∧
  (0<n+(sent s).length→∃ad,A=some ad∧S ad.block∧zbv w ad (vs++(sent s).flatten))∧T.AtL sent w S xs vs
def T.AtL (sent:Nat→List (List Value)) (w:World) (S:Nat→Prop):List T→List Value→Prop
 | [],[]=>True
 | t::ts,v::vs=>T.At sent w S t v∧T.AtL sent w S ts vs
 | [],_::_=>False
 | _::_,[]=>False
end
def bare:Nat→List (List Value):=fun _=>[]
section
variable {sent:Nat→List (List Value)} {w w':World} {S S':Nat→Prop}
mutual
theorem At.keep (hk:∀p:Addr,S p.block→w'.cell? p=w.cell? p) (hS:∀g,S g→S' g):∀{t:T} {v:Value},T.At sent w S t v→T.At sent w' S' t v
 | .lit u,v,h=>by simpa only[T.At] using h
 | .arr s n xs,v,h=>by simp only[T.At] at h ⊢;obtain ⟨A,cap,vs,hv,hc,hm,hl,ha,hx⟩:=h;refine ⟨A,cap,vs,hv,hc,hm,hl,fun hn=>?_,AtL.keep hk hS hx⟩;obtain ⟨ad,e,hs,hcs⟩:=ha hn;exact ⟨ad,e,hS _ hs,fun j u hu=>(hk _ (by rw[zab];exact hs)).trans (hcs j u hu)⟩
theorem AtL.keep (hk:∀p:Addr,S p.block→w'.cell? p=w.cell? p) (hS:∀g,S g→S' g):∀{ts:List T} {vs:List Value},T.AtL sent w S ts vs→T.AtL sent w' S' ts vs
 | [],[],_=>by simp only[T.AtL]
 | t::ts,v::vs,h=>by simp only[T.AtL] at h ⊢;exact ⟨At.keep hk hS h.1,AtL.keep hk hS h.2⟩
 | [],_::_,h=>by simp only[T.AtL] at h
 | _::_,[],h=>by simp only[T.AtL] at h
end
theorem AtL.below {B:Nat} {ts:List T} {vs:List Value} (h:T.AtL sent w (fun g=>g<B) ts vs) (hb:Below B w w') (hS:∀g,g<B→S' g):T.AtL sent w' S' ts vs:=AtL.keep (fun _ hp=>hb.cell hp) hS h
theorem At.below {B:Nat} {t:T} {v:Value} (h:T.At sent w (fun g=>g<B) t v) (hb:Below B w w') (hS:∀g,g<B→S' g):T.At sent w' S' t v:=At.keep (fun _ hp=>hb.cell hp) hS h
theorem AtL.length:∀{ts:List T} {vs:List Value},T.AtL sent w S ts vs→vs.length=ts.length
 | [],[],_=>rfl
 | t::ts,v::vs,h=>by simp only[T.AtL] at h;rw[List.length_cons,List.length_cons,AtL.length h.2]
 | [],_::_,h=>by simp only[T.AtL] at h
 | _::_,[],h=>by simp only[T.AtL] at h
theorem AtL.append:∀{ts us:List T} {vs ws:List Value},T.AtL sent w S ts vs→T.AtL sent w S us ws→T.AtL sent w S (ts++us) (vs++ws)
 | [],us,[],ws,_,h=>h
 | t::ts,us,v::vs,ws,h,h'=>by simp only[T.AtL,List.cons_append] at h ⊢;exact ⟨h.1,AtL.append h.2 h'⟩
 | [],_,_::_,_,h,_=>by simp only[T.AtL] at h
 | _::_,_,[],_,h,_=>by simp only[T.AtL] at h
theorem AtL.split:∀{ts us:List T} {vs:List Value},T.AtL sent w S (ts++us) vs→T.AtL sent w S ts (vs.take ts.length)∧T.AtL sent w S us (vs.drop ts.length)
 | [],us,vs,h=>by simpa [T.AtL] using h
 | t::ts,us,v::vs,h=>by simp only[T.AtL,List.cons_append] at h;obtain ⟨h1,h2⟩:=AtL.split h.2;simp only[List.length_cons,List.take_succ_cons,List.drop_succ_cons,T.AtL];exact ⟨⟨h.1,h1⟩,h2⟩
 | t::ts,us,[],h=>by simp only[T.AtL,List.cons_append] at h
theorem AtL.nil_ {vs:List Value} (h:T.AtL sent w S [] vs):vs=[]:=by cases vs <;> simp_all [T.AtL]
theorem AtL.cons_ {t:T} {ts:List T} {vs:List Value} (h:T.AtL sent w S (t::ts) vs):∃v us,vs=v::us∧T.At sent w S t v∧T.AtL sent w S ts us:=by
 cases vs with
 | nil=>simp only[T.AtL] at h
 | cons v us=>simp only[T.AtL] at h;exact ⟨v,us,rfl,h⟩
theorem AtL.lits {α:Type} {f:α→Value}:∀{l:List α} {vs:List Value},T.AtL sent w S (l.map fun z=>.lit (f z)) vs→vs=l.map f
 | [],vs,h=>AtL.nil_ h
 | z::l,vs,h=>by obtain ⟨v,us,rfl,hv,hus⟩:=AtL.cons_ h;simp only[T.At] at hv;rw[hv,AtL.lits hus];rfl
theorem AtL.of_lits {α:Type} {f:α→Value}:∀{l:List α},T.AtL sent w S (l.map fun z=>.lit (f z)) (l.map f)
 | []=>by simp only[List.map_nil,T.AtL]
 | z::l=>by simp only[List.map_cons,T.AtL,T.At,true_and];exact AtL.of_lits
mutual
theorem At.bare:∀{t:T} {v:Value},T.At sent w S t v→T.At bare w S t v
 | .lit u,v,h=>by simpa only[T.At] using h
 | .arr s n xs,v,h=>by simp only[T.At] at h ⊢;obtain ⟨A,cap,vs,hv,hc,hm,hl,ha,hx⟩:=h;refine ⟨A,cap,vs,hv,by simp only[Tree.bare,List.length_nil];omega,hm,hl,fun hn=>?_,AtL.bare hx⟩;obtain ⟨ad,e,hs,hcs⟩:=ha (by simp only[Tree.bare,List.length_nil] at hn;omega);refine ⟨ad,e,hs,fun j u hu=>hcs j u ?_⟩;simp only[Tree.bare,List.flatten_nil,List.append_nil] at hu;rw[List.getElem?_append_left (List.getElem?_eq_some_iff.1 hu).1];exact hu
theorem AtL.bare:∀{ts:List T} {vs:List Value},T.AtL sent w S ts vs→T.AtL bare w S ts vs
 | [],[],_=>by simp only[T.AtL]
 | t::ts,v::vs,h=>by simp only[T.AtL] at h ⊢;exact ⟨At.bare h.1,AtL.bare h.2⟩
 | [],_::_,h=>by simp only[T.AtL] at h
 | _::_,[],h=>by simp only[T.AtL] at h
end
theorem zjz {X:Type} (f:X→List T) {k:Nat} (hf:∀x,(f x).length=k):∀xs:List X,(xs.flatMap f).length=xs.length*k
 | []=>by simp
 | x::xs=>by rw[List.flatMap_cons,List.length_append,hf,zjz f hf xs,List.length_cons,Nat.succ_mul];omega
theorem AtL.elem {X:Type} {f:X→List T} {k:Nat} (hf:∀x,(f x).length=k):∀{xs:List X} {vs:List Value},T.AtL sent w S (xs.flatMap f) vs→∀(i:Nat) (h:i<xs.length),
 ∃us,us.length=k∧T.AtL sent w S (f xs[i]) us∧∀j,j<k→vs[i*k+j]?=us[j]?
 | [],vs,_,i,h=>absurd h (by simp)
 | x::xs,vs,ht,0,h=>by rw[List.flatMap_cons] at ht;obtain ⟨h1,h2⟩:=AtL.split ht;refine ⟨_,by rw[AtL.length h1,hf],h1,fun j hj=>?_⟩;rw[Nat.zero_mul,Nat.zero_add,List.getElem?_take_of_lt (by rw[hf];exact hj)]
 | x::xs,vs,ht,i+1,h=>by
  rw[List.flatMap_cons] at ht;obtain ⟨h1,h2⟩:=AtL.split ht;obtain ⟨us,hl,hu,hj⟩:=AtL.elem hf h2 i (by simpa using h);refine ⟨us,hl,hu,fun j hjk=>?_⟩;rw[←hj j hjk,List.getElem?_drop,hf];congr 1
  rw[Nat.succ_mul];omega
theorem zbv.left {ad:Addr} {l m:List Value} (h:zbv w ad (l++m)):zbv w ad l:=fun j u hu=>h j u (by rw[List.getElem?_append_left (List.getElem?_eq_some_iff.1 hu).1];exact hu)
theorem zbv.right {ad:Addr} {l m:List Value} (h:zbv w ad (l++m)):zbv w (ad.add l.length) m:=fun j u hu=>by
 rw[zdj];refine h _ u ?_;rw[List.getElem?_append_right (by omega),Nat.add_sub_cancel_left];exact hu
theorem zbv.elem {ad:Addr} {vs us:List Value} {i k:Nat} (h:zbv w ad vs) (hj:∀j,j<k→vs[i*k+j]?=us[j]?) (hl:us.length=k):zbv w (ad.add (i*k)) us:=fun j u hu=>by
 rw[zdj];exact h _ u ((hj j (by have:=(List.getElem?_eq_some_iff.1 hu).1;omega)).trans hu)
theorem zbv.keep {ad:Addr} {l:List Value} (h:zbv w ad l) (hk:∀p:Addr,p.block=ad.block→w'.cell? p=w.cell? p):zbv w' ad l:=fun j u hu=>(hk _ (by rw[zab])).trans (h j u hu)
theorem zbv.zero {ad:Addr} {u:Value} {l:List Value} (h:zbv w ad (u::l)):w.cell? ad=some u:=by have:=h 0 u rfl;simpa [Addr.add] using this
theorem zbv.at_ {ad:Addr} {l:List Value} (h:zbv w ad l) (j:Nat) (u:Value) (hj:l[j]?=some u) (h0:0<j):w.cell? ⟨ad.block,ad.off+j,none⟩=some u:=by
 have:=h j u hj;unfold Addr.add at this;rwa [if_neg (by omega)] at this
theorem At.reads {B s n:Nat} {xs:List T} {v:Value} (h:T.At sent w (fun g=>g<B) (.arr s n xs) v) :
 ∃A cap vs,v = .slice A n cap∧n≤cap∧cap≤maxLen∧Reads w B s A n vs∧T.AtL sent w (fun g=>g<B) xs vs:=by
 simp only[T.At] at h;obtain ⟨A,cap,vs,hv,hc,hm,hl,ha,hx⟩:=h;refine ⟨A,cap,vs,hv,by omega,hm,⟨by rw[AtL.length hx,hl],fun hn=>?_⟩,hx⟩;obtain ⟨ad,e,hs,hcs⟩:=ha (by omega);exact ⟨ad,e,hs,hcs.left⟩
end
section
variable {X α:Type} {f:X→List α} {k:Nat}
theorem zrq (hf:∀x,(f x).length=k):∀(xs:List X) (i:Nat) (h:i<xs.length) (j:Nat),j<k→(xs.flatMap f)[i*k+j]?=(f xs[i])[j]?
 | [],_,h,_,_=>absurd h (by simp)
 | x::xs,0,h,j,hj=>by rw[List.flatMap_cons,Nat.zero_mul,Nat.zero_add,List.getElem?_append_left (by rw[hf];exact hj)];rfl
 | x::xs,i+1,h,j,hj=>by rw[List.flatMap_cons,List.getElem?_append_right (by rw[hf,Nat.succ_mul];omega),hf,show (i+1)*k+j - k=i*k+j by rw[Nat.succ_mul];omega];exact zrq hf xs i (by simpa using h) j hj
theorem zsr {f:X→List Value} (hf:∀x,(f x).length=k) {w:World} {B n:Nat} {A:Option Addr} {xs:List X} (h:Reads w B k A n (xs.flatMap f)) (hn:n=xs.length) {i:Nat} (hi:i<xs.length) :
 ∃ad,A=some ad∧ad.block<B∧zbv w (ad.add (i*k)) (f xs[i]):=by
 obtain ⟨ad,ha,hb,hc⟩:=h.2 (by omega);refine ⟨ad,ha,hb,fun j u hu=>?_⟩;have hj:j<k:=by have:=(List.getElem?_eq_some_iff.1 hu).1;rw[hf] at this;exact this
 rw[zdj];exact hc _ u ((zrq hf xs i hi j hj).trans hu)
end
end Go.Proofs.YtplkbdncgkgppaaGreatDoor.Tree
end
