/- Lemmas that the last text leans on. -/
import Derived.Test.YtigfcihakghddaaGreatDoorTake
import Derived.Test.YtigfcihakghddaaGreatDoorPack14
import Derived.Test.YtigfcihakghddaaGreatDoorChecked
import Derived.Test.YtigfcihakghddaaGreatDoorPack3
import Derived.Test.YtigfcihakghddaaGreatDoorWords
import Derived.Test.YtigfcihakghddaaGreatDoorPack4
import Derived.WalkKit
import Derived.LoopTactic
import Derived.OwnWalk
import Derived.Deep.DeepCutAuto
import Derived.Test.YtigfcihakghddaaGreatDoorPack12
import Derived.Test.YtigfcihakghddaaGreatDoorPack7
import Derived.Test.YtigfcihakghddaaGreatDoorProg
import Derived.Test.YtigfcihakghddaaGreatDoorPack6
import Derived.Deep.QuietTactic
import Derived.BigQuiet
import Derived.Laws.StructEq
set_option linter.all false
set_option maxRecDepth 100000
set_option maxHeartbeats 1000000
section
namespace OrdP
open Go.Lib Go
def wide (u scale:Nat):Nat:=max (scale+1) (nDigits u)
end OrdP
end
section
namespace Go.Proofs.YtigfcihakghddaaGreatDoor.OrdRef
open Go.RowKit Go.Lib OrdP Kit Words Owned
def decN (l:List UInt8) (scale:Int):Int:=if scale<0∨9<scale then 0 else (decF l scale.toNat).getD 0
def decE (l:List UInt8) (scale:Int):Int:=if scale<0∨9<scale then 1 else if (decF l scale.toNat).isSome then 0 else 70
def DecRet (l:List UInt8) (scale:Int) (w:World) (e:Ending) (w':World):Prop:=e = .returned (.tuple #[.int .i64 (decN l scale),.int .i64 (decE l scale)])∧Below w.heap.size w w'
theorem dec_out {l:List UInt8} {scale:Int} {w w':World} (h:scale<0∨9<scale) (hb:Below w.heap.size w w'):DecRet l scale w (.returned (.tuple #[.int .i64 0,.int .i64 1])) w':=
 ⟨by unfold decN decE;rw[if_pos h,if_pos h],hb⟩
theorem dec_none {l:List UInt8} {sc:Nat} {w w':World} (h:sc≤9) (hd:decF l sc=none) (hb:Below w.heap.size w w'):DecRet l sc w (.returned (.tuple #[.int .i64 0,.int .i64 70])) w':=
 ⟨by unfold decN decE;rw[if_neg (by omega),if_neg (by omega),Int.toNat_natCast,hd];rfl,hb⟩
theorem dec_some {l:List UInt8} {sc:Nat} {n:Int} {w w':World} (h:sc≤9) (hd:decF l sc=some n) (hb:Below w.heap.size w w'):DecRet l sc w (.returned (.tuple #[.int .i64 n,.int .i64 0])) w':=
 ⟨by unfold decN decE;rw[if_neg (by omega),if_neg (by omega),Int.toNat_natCast,hd];rfl,hb⟩
end Go.Proofs.YtigfcihakghddaaGreatDoor.OrdRef
end
section
namespace Go.Proofs.YtigfcihakghddaaGreatDoor.Sch
open Go.RowKit Words Tree SchP Kit Owned AnaP
def runO (f:FT) (s:ByteArray):Option Nat:=if (runF f.chain s).2=0 then some (runF f.chain s).1.length else none
def decO (f:FT) (s:ByteArray):Option Int:=if f.scale<0∨9<f.scale then none else OrdP.decF s.data.toList f.scale.toNat
theorem decO_ways (f:FT) (s:ByteArray):(∃n,decO f s=some n∧OrdRef.decN s.data.toList f.scale=n∧OrdRef.decE s.data.toList f.scale=0)∨(decO f s=none∧(OrdRef.decE s.data.toList f.scale == 0)=false):=by
 unfold decO OrdRef.decN OrdRef.decE;by_cases h:f.scale<0∨9<f.scale
 ·simp only[if_pos h];exact .inr ⟨trivial,rfl⟩
 ·simp only[if_neg h]
  cases hd:OrdP.decF s.data.toList f.scale.toNat with
  | none=>exact .inr ⟨rfl,rfl⟩
  | some n=>exact .inl ⟨n,rfl,rfl,rfl⟩
structure ValRet (r:Option (CT × Nat)) (kd:Int) (t gc gt i:Nat) (cs:Array Value) (w:World) (e:Ending) (w':World) (b:Bool):Prop where
 ret:e = .returned (.bool b)
 but:But (fun g=>g=gc∨g=gt) w w'
 yes:b=true→∃c n,r=some (c,n)∧(kd=1→t+n≤4096)∧Blk w' gt 3 (cs.setIfInBounds i (.int .i64 ((t+n:Nat):Int)))∧
  ∃v,Blk w' gc 103 #[.int .i64 c.field,.string c.text,v]∧NumsIn 2 .i64 w.heap.size w'.heap.size w' c.nums v
 no:b=false→∀c n,r=some (c,n)→kd=1∧4096<t+n
def ValPost (r:Option (CT × Nat)) (kd:Int) (t gc gt i:Nat) (cs:Array Value) (w:World) (e:Ending) (w':World):Prop:=∃b,ValRet r kd t gc gt i cs w e w' b
theorem set_same {cs:Array Value} {i:Nat} {u:Value} (h:cs[i]?=some u):cs.setIfInBounds i u=cs:=by
 apply Array.ext_getElem?;intro j;rw[Array.getElem?_setIfInBounds];split
 ·rename_i e;subst e
  obtain ⟨hi,_⟩:=Array.getElem?_eq_some_iff.1 h;rw[if_pos hi,h]
 ·rfl
theorem nums_none {sent:Nat→List (List Value)} {w:World} {S:Nat→Prop} (h:sent 1=[]):T.At sent w S (numsT .i64 []) (.slice none 0 0):=by
 simp only[numsT,T.At];exact ⟨none,0,[],rfl,by simp[h],by unfold maxLen;omega,rfl,fun hn=>by simp[h] at hn,by simp[T.AtL]⟩
end Go.Proofs.YtigfcihakghddaaGreatDoor.Sch
end
section
namespace Go.Proofs.YtigfcihakghddaaGreatDoor.Sch
open Go.RowKit Words Tree SchP Kit Owned AnaP
theorem ask1_any (g:Nat) (b:Bool) (w:World) (hg:w.cell? ⟨g,0,none⟩=some (.bool b)):Calls Tryz.prog 63 #[.pointer (some ⟨g,0,none⟩)] w (IntB (if b then 0 else 81) w):=by
 have HC:=hX (unless_any b 81 w);generalize (if b then (0:Int) else 81)=n at *;go_enter Tryz.func63,Tryz.ntmps63;go_wp2_with fail;refine HC.out.mono ?_;rintro e w1 ⟨rfl,b1⟩;have HB:=hX b1;clear b1;go_wp2_with fail;go_ret;exact ⟨rfl,HB.out⟩
theorem ask2_any (gf ge:Nat) (f:FT) (e:ET) (X Y:Option Addr) (z1 z2:Nat) (w:World) (hf:Blk w gf 86 #[.string f.name,.int .i64 f.kind,.slice X f.chain.length z1,.int .i64 f.scale,.int .i64 f.dims,.bool f.many,.bool f.stored])
 (he:Blk w ge 82 #[.string e.field,.string e.text,.slice Y e.nums.length z2]) :
 Calls Tryz.prog 65 #[.pointer (some ⟨gf,0,none⟩),.pointer (some ⟨ge,0,none⟩)] w (IntB (if kindP f e.text e.nums.length then 0 else 82) w):=by
 have HK:=hX (fun V=>kind_any f (.slice X f.chain.length z1) e.text Y e.nums.length z2 V)
 obtain ⟨b,hb⟩:∃b,kindP f e.text e.nums.length=b:=⟨_,rfl⟩
 rw[hb] at HK ⊢;have HC:=hX (fun (V:World)=>unless_any b 82 V);generalize (if b then (0:Int) else 82)=n at *;obtain ⟨p0,p1,p2,p3,p4,p5,p6⟩:=blk7 hf;have q0:=he.cell 0;have q1:w.cell? ⟨ge,1,none⟩=some (.string e.text):=he.cell 1;have q2:w.cell? ⟨ge,2,none⟩=some (.slice Y e.nums.length z2):=he.cell 2;clear hb hf he;go_enter Tryz.func65,Tryz.ntmps65;go_wp2_with fail;refine (HK.out _).mono ?_;rintro e' w1 ⟨rfl,b1⟩;have HB:=hX b1;clear b1;go_wp2_with fail;refine (HC.out _).mono ?_;rintro e' w2 ⟨rfl,b2⟩;have HB2:=hX (HB.out.trans (b2.mono HB.out.size));clear b2;go_wp2_with fail;go_ret;exact ⟨rfl,HB2.out⟩
theorem ask3_any (gf gs gi g1 c i s:Nat) (f:FT) (X:Value) (n:Nat) (w:World) (hf:Blk w gf 86 #[.string f.name,.int .i64 f.kind,X,.int .i64 f.scale,.int .i64 f.dims,.bool f.many,.bool f.stored])
 (hs:w.cell? ⟨gs,0,none⟩=some (.slice (some ⟨g1,0,none⟩) n c)) (hi:w.cell? ⟨gi,0,none⟩=some (.int .i64 i)) (hin:i<n) (hn:n≤1048576) (h1:w.cell? ⟨g1,i,none⟩=some (.int .i64 s)) :
 Calls Tryz.prog 67 #[.pointer (some ⟨gf,0,none⟩),.pointer (some ⟨gs,0,none⟩),.pointer (some ⟨gi,0,none⟩)] w (IntB (if f.many || decide (s=0) then 0 else 84) w):=by
 have HC:=hX (fun (b:Bool) (V:World)=>unless_any b 84 V);have p5:w.cell? ⟨gf,5,none⟩=some (.bool f.many):=hf.cell 5;clear hf;obtain ⟨f0,fk,f2,f3,f4,mn,f6⟩:=f;dsimp only at *
 cases mn with
 | true=>
  have hq:(if (true || decide (s=0))=true then (0:Int) else 84)=0:=rfl;rw[hq];go_enter Tryz.func67,Tryz.ntmps67;go_wp2_with fail;refine (HC.out true _).mono ?_;rintro e' w1 ⟨rfl,b1⟩;have HB:=hX b1;clear b1;go_wp2_with fail;go_ret;exact ⟨rfl,HB.out⟩
 | false=>
  by_cases hs0:s=0
  ·have hq:(if (false || decide (s=0))=true then (0:Int) else 84)=0:=by rw[decide_eq_true hs0];rfl
   rw[hq];subst hs0;have hin2:(i:Int)<(n:Int):=by omega
   go_enter Tryz.func67,Tryz.ntmps67;go_wp2_with fail;refine (HC.out true _).mono ?_;rintro e' w1 ⟨rfl,b1⟩;have HB:=hX b1;clear b1;go_wp2_with fail;go_ret;exact ⟨rfl,HB.out⟩
  ·have hq:(if (false || decide (s=0))=true then (0:Int) else 84)=84:=by rw[decide_eq_false hs0];rfl
   rw[hq];have hin2:(i:Int)<(n:Int):=by omega
   have hb:((s:Int) == 0)=false:=by rw[beq_eq_false_iff_ne];omega
   go_enter Tryz.func67,Tryz.ntmps67;go_wp2_with fail;refine (HC.out false _).mono ?_;rintro e' w1 ⟨rfl,b1⟩;have HB:=hX b1;clear b1;go_wp2_with fail;go_ret;exact ⟨rfl,HB.out⟩
end Go.Proofs.YtigfcihakghddaaGreatDoor.Sch
end
section
namespace Go.Proofs.YtigfcihakghddaaGreatDoor.Sch
open Go.RowKit Words Tree SchP Kit Owned AnaP
def seenA (n:Nat) (outs:List (CT × Nat)):Array Value:=((List.range n).map fun i=>Value.int .i64 ((ofK i outs).length:Int)).toArray
def tokA (n:Nat) (outs:List (CT × Nat)):Array Value:=((List.range n).map fun i=>Value.int .i64 ((sumK i outs:Nat):Int)).toArray
theorem seenA_nil (n:Nat):seenA n []=madeCells #[Value.int .i64 0] n:=by
 apply Array.toList_inj.1;rw[toList_madeCells_one];simp[seenA,ofK,List.eq_replicate_iff]
theorem tokA_nil (n:Nat):tokA n []=madeCells #[Value.int .i64 0] n:=by
 apply Array.toList_inj.1;rw[toList_madeCells_one];simp[tokA,sumK,ofK,List.eq_replicate_iff]
theorem seenA_get {n i:Nat} (h:i<n) (outs:List (CT × Nat)):(seenA n outs)[i]?=some (.int .i64 ((ofK i outs).length:Int)):=by simp[seenA,h]
theorem tokA_get {n i:Nat} (h:i<n) (outs:List (CT × Nat)):(tokA n outs)[i]?=some (.int .i64 ((sumK i outs:Nat):Int)):=by simp[tokA,h]
theorem ofK_snoc (j:Nat) (outs:List (CT × Nat)) (c:CT) (n:Nat):ofK j (outs++[(c,n)])=ofK j outs++(if c.field=j then [(c,n)] else []):=by
 rw[ofK_append];congr 1
 simp only[ofK,List.filter_cons,List.filter_nil];split <;> rename_i h
 ·simp at h;rw[if_pos h]
 ·simp at h;rw[if_neg h]
theorem sumK_snoc (j:Nat) (outs:List (CT × Nat)) (c:CT) (n:Nat):sumK j (outs++[(c,n)])=sumK j outs+(if c.field=j then n else 0):=by
 unfold sumK;rw[ofK_snoc,List.map_append,List.sum_append];split <;> simp
theorem seenA_snoc {m i:Nat} (h:i<m) (outs:List (CT × Nat)) (c:CT) (n:Nat) (hc:c.field=i):seenA m (outs++[(c,n)])=(seenA m outs).setIfInBounds i (.int .i64 (((ofK i outs).length+1:Nat):Int)):=by
 apply Array.ext_getElem?;intro j;rw[Array.getElem?_setIfInBounds];rcases Nat.lt_or_ge j m with hj | hj
 ·rw[seenA_get hj,seenA_get hj,ofK_snoc,hc];by_cases e:i=j
  ·subst e;simp[seenA,h]
  ·rw[if_neg e,if_neg (by omega)];simp
 ·rw[if_neg (by omega)];simp[seenA,Nat.not_lt.2 hj]
theorem tokA_snoc {m i:Nat} (h:i<m) (outs:List (CT × Nat)) (c:CT) (n:Nat) (hc:c.field=i):tokA m (outs++[(c,n)])=(tokA m outs).setIfInBounds i (.int .i64 ((sumK i outs+n:Nat):Int)):=by
 apply Array.ext_getElem?;intro j;rw[Array.getElem?_setIfInBounds];rcases Nat.lt_or_ge j m with hj | hj
 ·rw[tokA_get hj,tokA_get hj,sumK_snoc,hc];by_cases e:i=j
  ·subst e;simp[tokA,h]
  ·rw[if_neg e,if_neg (by omega)];simp
 ·rw[if_neg (by omega)];simp[tokA,Nat.not_lt.2 hj]
theorem kindP_ok {f:FT} (h:mayB f=true) (text:ByteArray) (nums:List Int):kindP f text nums.length=SchP.kindOk f text nums:=by
 have hk:=kind_of h;rw[Bool.eq_iff_iff];unfold kindP SchP.kindOk wantN;by_cases h3:f.kind=3
 ·simp only[h3,if_true,Bool.and_eq_true,Bool.or_eq_true,decide_eq_true_eq];omega
 ·by_cases h5:f.kind=5
  ·have:1≤f.dims:=by omega
   simp only[if_neg h3,if_pos h5,Bool.and_eq_true,Bool.or_eq_true,decide_eq_true_eq];omega
  ·simp only[if_neg h3,if_neg h5,Bool.and_eq_true,Bool.or_eq_true,decide_eq_true_eq];omega
section
variable {dec:FT→ByteArray→Option Int} {run:FT→ByteArray→Option Nat} {l:List FT} {outs:List (CT × Nat)} {e:ET} {i:Nat} {f:FT}
theorem stepF_none (h:findF l e.field=none):stepF dec run l outs e = .error 81:=by unfold stepF;rw[h]
variable (hi:findF l e.field=some i) (hf:l[i]?=some f)
include hi hf
theorem stepF_82 (hk:SchP.kindOk f e.text e.nums=false):stepF dec run l outs e = .error 82:=by
 unfold stepF;simp only[hi,hf];rw[if_pos hk]
theorem stepF_84 (hk:SchP.kindOk f e.text e.nums=true) (hm:(f.many || decide ((ofK i outs).length=0))=false):stepF dec run l outs e = .error 84:=by
 unfold stepF;simp only[hi,hf];rw[if_neg (by rw[hk];decide),if_pos];simp at hm;exact ⟨hm.1,List.length_pos_iff.2 hm.2⟩
theorem stepF_83 (hk:SchP.kindOk f e.text e.nums=true) (hm:(f.many || decide ((ofK i outs).length=0))=true) (hno:∀c n,valueF dec run f i e=some (c,n)→f.kind=1∧4096<sumK i outs+n):stepF dec run l outs e = .error 83:=by
 unfold stepF;simp only[hi,hf]
 rw[if_neg (by rw[hk];decide),if_neg (by
  simp at hm;rintro ⟨h1,h2⟩;rcases hm with h | h
  ·rw[h] at h1;cases h1
  ·rw[h] at h2;simp at h2)]
 cases hv:valueF dec run f i e with
 | none=>rfl
 | some c=>exact if_pos (hno c.1 c.2 hv)
theorem stepF_ok {c:CT} {n:Nat} (hk:SchP.kindOk f e.text e.nums=true) (hm:(f.many || decide ((ofK i outs).length=0))=true) (hv:valueF dec run f i e=some (c,n)) (hle:f.kind=1→sumK i outs+n≤4096):stepF dec run l outs e = .ok (c,n):=by
 unfold stepF;simp only[hi,hf]
 rw[if_neg (by rw[hk];decide),if_neg (by
  simp at hm;rintro ⟨h1,h2⟩;rcases hm with h | h
  ·rw[h] at h1;cases h1
  ·rw[h] at h2;simp at h2)]
 rw[hv];exact if_neg (by rintro ⟨h1,h2⟩;have:=hle h1;simp at h2;omega)
end
theorem valueF_field {dec:FT→ByteArray→Option Int} {run:FT→ByteArray→Option Nat} {f:FT} {i:Nat} {e:ET} {c:CT} {n:Nat} (h:valueF dec run f i e=some (c,n)):c.field=i∧(f.kind≠1→n=0):=by
 refine ⟨?_,fun hf=>valueF_zero h hf⟩;unfold valueF at h;split at h
 ·cases hr:run f e.text with
  | none=>rw[hr] at h;cases h
  | some n=>rw[hr] at h;cases h;rfl
 ·split at h
  ·split at h
   ·cases h;rfl
   ·cases h
  ·split at h
   ·cases hr:dec f e.text with
    | none=>rw[hr] at h;cases h
    | some n=>rw[hr] at h;cases h;rfl
   ·cases h;rfl
def CellsRet (r:Except Int (List CT)) (w:World) (e:Ending) (w':World):Prop:=
 Below w.heap.size w w'∧match r with
 | .error n=>e = .returned (.tuple #[.slice none 0 0,.int .i64 n])
 | .ok cs=>∃v,e = .returned (.tuple #[v,.int .i64 0])∧T.At bare w' (fun g=>w.heap.size≤g∧CellsAt w' g) (cellsT cs) v
end Go.Proofs.YtigfcihakghddaaGreatDoor.Sch
end
section
namespace Go.Proofs.YtigfcihakghddaaGreatDoor.Tree
open Go.RowKit Go.WideShapes Go.ChangeShapes Words Owned
section
variable {sent:Nat→List (List Value)} {X:Type} {f:X→List T} {s:Nat} {et:TypeId} {box:Option Nat} {N:Nat}
theorem own_but {M:Nat→Prop} {w w':World} {B n m:Nat} {e:TypeId} {v:Value} {xs:List Value} (h:w.ownsRow B e m v n xs) (hb:But M w w') (hM:∀g,v.ownBlock=some g→¬M g):w'.ownsRow B e m v n xs:=
 ⟨h.1,h.2.elim .inl fun ⟨g,cap,cur,hv,h1,h2,h3⟩=>.inr ⟨g,cap,cur,hv,h1,(hb.block g (Array.getElem?_eq_some_iff.1 h2).1 (hM g (by rw[hv];rfl))).trans h2,h3⟩⟩
end
end Go.Proofs.YtigfcihakghddaaGreatDoor.Tree
end
section
namespace Go.Proofs.YtigfcihakghddaaGreatDoor.Ana
open Go.RowKit Go.Lib AnaP Words Tree Kit Owned
def BoolB (b:Bool) (w:World) (e:Ending) (w':World):Prop:=e = .returned (.bool b)∧Below w.heap.size w w'
theorem reads_tok {w:World} {B n:Nat} {ao:Option Addr} {ts:List TokD} (h:Reads w B 4 ao n (tokCells ts)) (hn:n=ts.length) {k:Nat} (hk:k<ts.length) :
 ∃ad,ao=some ad∧ad.block<B∧w.cell? (ad.add (k*4))=some (.string ts[k].text)∧w.cell? ⟨(ad.add (k*4)).block,(ad.add (k*4)).off+1,none⟩=some (.int .i64 ts[k].pos)∧w.cell? ⟨(ad.add (k*4)).block,(ad.add (k*4)).off+2,none⟩=some (.int .i64 ts[k].frm)∧w.cell? ⟨(ad.add (k*4)).block,(ad.add (k*4)).off+3,none⟩=some (.int .i64 ts[k].til):=by
 obtain ⟨ad,ha,hb,hc⟩:=reads_elem cells_len h hn hk;exact ⟨ad,ha,hb,hc.zero,hc.at_ 1 _ rfl (by omega),hc.at_ 2 _ rfl (by omega),hc.at_ 3 _ rfl (by omega)⟩
theorem infoTok:(Tryz.prog.info? 179).map (fun i=>(i.zero,i.size,i.bytes))=some (some (.agg #[.string ⟨#[]⟩,.int .i64 0,.int .i64 0,.int .i64 0]),4,40):=by kernel_rfl
theorem tok_one {u:Value} {ts:List TokD} (h:u∈tokCells ts):u.oneCell'=true:=by
 unfold tokCells at h;rw[List.mem_flatMap] at h;obtain ⟨t,_,h⟩:=h;simp only[TokD.cells,List.mem_cons,List.not_mem_nil,or_false] at h;rcases h with rfl | rfl | rfl | rfl <;> rfl
theorem tokCells_append (a b:List TokD):tokCells (a++b)=tokCells a++tokCells b:=by simp[tokCells]
theorem cells_new (w:World) (l:List Value) (t:TypeId) (j:Nat) (u:Value) (h:l[j]?=some u):(w.alloc (.cells l.toArray t)).cell? ((⟨w.heap.size,0,none⟩:Addr).add j)=some u:=by
 have e:(⟨w.heap.size,0,none⟩:Addr).add j=⟨w.heap.size,j,none⟩:=by unfold Addr.add;split <;> simp_all
 rw[e,World.cell?_alloc_new];simpa using h
end Go.Proofs.YtigfcihakghddaaGreatDoor.Ana
end
