/- Lemmas that the last text leans on. -/
import Derived.Test.YtigfcihakghddaaGreatDoorTake
import Derived.Test.YtigfcihakghddaaGreatDoorPack35
import Derived.Laws.IdiomCopy
import Derived.Test.YtigfcihakghddaaGreatDoorPack11
import Derived.Laws.OwnMore
set_option linter.all false
set_option maxRecDepth 100000
set_option maxHeartbeats 8000000
section
namespace Go.Proofs.YtigfcihakghddaaGreatDoor.BufT
open Go Go.RowKit Words Tree Owned BufP Sch SchP Kit
theorem blk_setCellsC {g:Nat} {t:TypeId}:∀(vs:List Value) (o:Nat) (w:World) (cur:Array Value),Blk w g t cur→∃cur',Blk (w.setCells g o vs) g t cur'∧cur'.size=cur.size∧cur'.toList.take o=cur.toList.take o∧w.grownBy (w.setCells g o vs) (some g)
 | [],o,w,cur,h=>⟨cur,h,rfl,rfl,World.grownBy.refl w _⟩
 | v::r,o,w,cur,h=>by
  obtain ⟨cur',h1,h2,h3,h4⟩:=blk_setCellsC r (o+1) (w.setCell ⟨g,o,none⟩ v) _ (h.set_ o v);refine ⟨cur',h1,by rw[h2];simp,?_,(only_setCell (World.grownBy.refl w (some g)) (p:=⟨g,o,none⟩) (.inl rfl) v).trans h4⟩;have e:∀l:List Value,l.take o=(l.take (o+1)).take o:=fun l=>by rw[List.take_take];congr 1;omega
  rw[e,h3,←e,Array.toList_setIfInBounds,List.take_set_of_le (Nat.le_refl _)]
theorem add_zeroC (g m:Nat):(⟨g,0,none⟩:Addr).add m=⟨g,m,none⟩:=by unfold Addr.add;split <;> simp_all
theorem zeroC_run (w:World):(zeroValue 103).run Tryz.prog w = .ok (.agg #[.int .i64 0,.string ⟨#[]⟩,.slice none 0 0]) w:=by rfl
theorem zero_onesC (z:Array Value) (n:Nat) (h:∀u∈z,u.oneCell'=true):∀u∈(Builtin.zeroCells z n).toList,u.oneCell'=true:=by
 intro u hu;unfold Builtin.zeroCells at hu;simp only[Array.toList_map,Array.toList_range,List.mem_map,List.mem_range] at hu;obtain ⟨j,hj,rfl⟩:=hu
 have hz:0<z.size:=by
  rcases Nat.eq_zero_or_pos z.size with h0 | h0
  ·rw[h0,Nat.mul_zero] at hj;omega
  ·exact h0
 have hlt:=Nat.mod_lt j hz;rw[getElem!_pos z (j % z.size) hlt];exact h _ (Array.getElem_mem hlt)
theorem clear_rowC {w:World} {B g n cap i:Nat} {y z:List Value} (h:w.ownsRow B 103 3 (.slice (some ⟨g,0,none⟩) n cap) n (y++z)) (hy:y.length=i*3) (m:Nat) (hm:0<m) (him:i+m≤n) :
 ∃W,(∀ty c,(Builtin.clear_ #[96] ty #[.slice (some ⟨g,i*3,none⟩) m c]).run Tryz.prog w = .ok (.tuple #[]) W)∧W.ownsRow B 103 3 (.slice (some ⟨g,0,none⟩) i cap) i y∧w.grownBy W (some g):=by
 obtain ⟨hl,h | ⟨g',cap',cur,hv,hB,hg,hn,hcm,hcs,ht⟩⟩:=h
 ·simp at h
 injection hv with h1 h2 h3;injection h1 with h1;injection h1 with h1 _ _;subst h1 h3
 obtain ⟨L,hL⟩:∃L,(Builtin.zeroCells #[.int .i64 0,.string ⟨#[]⟩,.slice none 0 0] m).toList=L:=⟨_,rfl⟩
 have hLl:L.length=m*3:=by rw[←hL,Array.length_toList,size_zeroCells];rfl
 have hL1:∀u∈L,u.oneCell'=true:=(by rw[←hL];refine zero_onesC _ _ (fun u hu=>?_);simp only[List.mem_toArray,List.mem_cons,List.not_mem_nil,or_false] at hu;rcases hu with rfl | rfl | rfl <;> rfl)
 have hb:Blk w g 103 cur:=hg
 have hst:=run_storeCells_cells (P:=Tryz.prog) g (i*3) L 0 w (fun j hj=>by
  rw[Nat.add_zero,hb.cell,Array.getElem?_eq_getElem (by rw[hcs];omega)];rfl) (fun j hj=>hb.frozen _) hL1
 simp only[Nat.add_zero] at hst;obtain ⟨cur',b1,b2,b3,b4⟩:=blk_setCellsC L (i*3) w cur hb;refine ⟨w.setCells g (i*3) L,fun ty c=>?_,⟨hy,.inr ⟨g,cap,cur',rfl,hB,b1,by omega,hcm,by rw[b2,hcs],?_⟩⟩,b4⟩
 ·obtain ⟨k,rfl⟩:∃k,m=k+1:=⟨m - 1,by omega⟩
  have hz:∀w,(zeroValue 103).run Tryz.prog w = .ok (.agg #[.int .i64 0,.string ⟨#[]⟩,.slice none 0 0]) w:=zeroC_run;have hc:(Value.agg #[.int .i64 0,.string ⟨#[]⟩,.slice none 0 0]).cells=#[.int .i64 0,.string ⟨#[]⟩,.slice none 0 0]:=rfl;simp[Builtin.clear_,run_underlying Tryz.underlying96,hz,hc,hL,hst]
 ·rw[b3];have:cur.toList.take (i*3)=(cur.toList.take (n*3)).take (i*3):=by rw[List.take_take];congr 1;omega
  rw[this,ht,←hy,List.take_left]
theorem own_put3 {w:World} {B g cap n i:Nat} {e:TypeId} {y uq z:List Value} (h:w.ownsRow B e 3 (.slice (some ⟨g,0,none⟩) n cap) n (y++(uq++z))) (hy:y.length=i*3) (hu:uq.length=3) (v0 v1 v2:Value) :
 (((w.setCell ⟨g,i*3,none⟩ v0).setCell ⟨g,i*3+1,none⟩ v1).setCell ⟨g,i*3+2,none⟩ v2).ownsRow B e 3 (.slice (some ⟨g,0,none⟩) n cap) n (y++([v0,v1,v2]++z))∧w.grownBy (((w.setCell ⟨g,i*3,none⟩ v0).setCell ⟨g,i*3+1,none⟩ v1).setCell ⟨g,i*3+2,none⟩ v2) (some g):=by
 obtain ⟨a0,h0⟩:=h.stored (i*3) v0;obtain ⟨a1,h1⟩:=a0.stored (i*3+1) v1;obtain ⟨a2,h2⟩:=a1.stored (i*3+2) v2;refine ⟨?_,((World.grownBy.refl w _).trans h0).trans h1 |>.trans h2⟩;have he:∀(j:Nat) (v:Value) (r:List Value),(y++r).set (i*3+j) v=y++r.set j v:=fun j v r=>by rw[List.set_append_right _ _ (by omega),hy,Nat.add_sub_cancel_left]
 obtain ⟨u0,u1,u2,rfl⟩:∃u0 u1 u2,uq=[u0,u1,u2]:=by
  match uq,hu with
  | [a,b,c],_=>exact ⟨a,b,c,rfl⟩
 have e0:=he 0 v0 ([u0,u1,u2]++z);rw[Nat.add_zero] at e0;rw[e0] at a2;rw[he 1,he 2] at a2;exact a2
structure DelC (w:World) (B g cap:Nat) (p:C3→Bool) (ks:List C3) (i j:Nat) (wr:World):Prop where
 ex:∃gs,wr.ownsRow B 103 3 (.slice (some ⟨g,0,none⟩) ks.length cap) ks.length (((ks.take j).filter fun k=>!p k).flatMap c3V++(gs++(ks.drop j).flatMap c3V))∧((ks.take j).filter fun k=>!p k).length=i∧gs.length=(j - i)*3
 gr:w.grownBy wr (some g)
 le:i<j∧j≤ks.length
section
variable {w wr w2:World} {B g cap i j:Nat} {p:C3→Bool} {ks:List C3}
theorem DelC.below (h:DelC w B g cap p ks i j wr) (hb:Below wr.heap.size wr w2):DelC w B g cap p ks i j w2:=by
 obtain ⟨gs,h1,h2,h3⟩:=h.ex;exact ⟨⟨gs,own_below h1 hb,h2,h3⟩,h.gr.trans (only_of_below hb _),h.le⟩
theorem DelC.start {v:Value} (ho:w.ownsRow B 103 3 v ks.length (ks.flatMap c3V)) (hi:i<ks.length) (hp:p ks[i]=true) (hl:∀k∈ks.take i,p k=false):∃g cap,v = .slice (some ⟨g,0,none⟩) ks.length cap∧DelC w B g cap p ks i (i+1) w:=by
 obtain ⟨g,cap,rfl,hgB,hgl⟩:=ho.form (by omega)
 have hf:(ks.take (i+1)).filter (fun k=>!p k)=ks.take i:=(by rw[take_snocC hi,List.filter_append,List.filter_eq_self.2 (fun k hk=>by rw[hl k hk];rfl),List.filter_cons_of_neg (by rw[hp];decide)];simp)
 refine ⟨g,cap,rfl,⟨c3V ks[i],?_,by rw[hf,List.length_take];omega,by rw[c3V_len];omega⟩,World.grownBy.refl w _,⟨by omega,by omega⟩⟩;rw[hf,←List.append_assoc]
 have:(ks.take i).flatMap c3V++c3V ks[i]++(ks.drop (i+1)).flatMap c3V=ks.flatMap c3V:=(by rw[←List.flatMap_singleton c3V ks[i],←List.flatMap_append,←List.flatMap_append,←take_snocC hi,List.take_append_drop])
 rw[this];exact ho
theorem DelC.next (h:DelC w B g cap p ks i j wr) (hj:j<ks.length):(∀t u,(c3V ks[j])[t]?=some u→wr.cell? ⟨g,j*3+t,none⟩=some u)∧(∀t,wr.frozen? ⟨g,t,none⟩=false)∧(∀t,t<3→∃u,wr.cell? ⟨g,i*3+t,none⟩=some u)∧g<wr.heap.size∧
 (p ks[j]=true→DelC w B g cap p ks i (j+1) wr)∧
 ∀(w2:World) (v0 v1 v2:Value),c3V ks[j]=[v0,v1,v2]→p ks[j]=false→Below wr.heap.size wr w2→DelC w B g cap p ks (i+1) (j+1) (((w2.setCell ⟨g,i*3,none⟩ v0).setCell ⟨g,i*3+1,none⟩ v1).setCell ⟨g,i*3+2,none⟩ v2):=by
 obtain ⟨gs,h1,h2,h3⟩:=h.ex;have hle:=h.le;have hyl:(((ks.take j).filter fun k=>!p k).flatMap c3V).length=i*3:=by rw[flat_len c3V_len,h2]
 have htk:ks.take (j+1)=ks.take j++[ks[j]]:=take_snocC hj;have hz:(ks.drop j).flatMap c3V=c3V ks[j]++(ks.drop (j+1)).flatMap c3V:=by rw[List.drop_eq_getElem_cons hj,List.flatMap_cons]
 rw[hz] at h1;have hg:=(World.ownsRow.lt h1 g rfl).2;have hl:=h1.1;refine ⟨fun t u hu=>?_,fun t=>h1.frozenAt t,fun t ht=>?_,hg,fun hp=>?_,?_⟩
 ·have ht:=(List.getElem?_eq_some_iff.1 hu).1
  have:=h1.cells (g:=g) rfl (j*3+t) u (by
   rw[List.getElem?_append_right (by omega),hyl,List.getElem?_append_right (by omega),h3,show j*3+t - i*3 - (j - i)*3=t by omega,List.getElem?_append_left ht];exact hu)
  rwa [add_zeroC] at this
 ·rw[h1.cellAt (i*3+t) (by omega)];exact ⟨_,List.getElem?_eq_getElem (by omega)⟩
 ·have hf:(ks.take (j+1)).filter (fun k=>!p k)=(ks.take j).filter fun k=>!p k:=by
   rw[htk,List.filter_append,List.filter_cons_of_neg (by rw[hp];decide)];simp
  exact ⟨⟨gs++c3V ks[j],by rw[hf,List.append_assoc];exact h1,by rw[hf];exact h2,by rw[List.length_append,h3,c3V_len];omega⟩,h.gr,⟨by omega,by omega⟩⟩
 ·intro w2 v0 v1 v2 hus hp hb
  have hf:(ks.take (j+1)).filter (fun k=>!p k)=((ks.take j).filter fun k=>!p k)++[ks[j]]:=(by rw[htk,List.filter_append,List.filter_cons_of_pos (by rw[hp];rfl)];rfl)
  have hgs:gs=gs.take 3++gs.drop 3:=(List.take_append_drop 3 gs).symm;have hgl:(gs.take 3).length=3:=by rw[List.length_take];omega
  have hgd:(gs.drop 3).length=(j - i)*3 - 3:=by rw[List.length_drop];omega
  generalize gs.take 3=g1 at *;generalize gs.drop 3=g2 at *;subst hgs;have h1':=own_below h1 hb;rw[List.append_assoc] at h1';obtain ⟨hP,hgr⟩:=own_put3 h1' hyl hgl v0 v1 v2;rw[←hus] at hP;refine ⟨⟨g2++c3V ks[j],?_,by rw[hf,List.length_append,h2];rfl,by rw[List.length_append,hgd,c3V_len];omega⟩,(h.gr.trans (only_of_below hb _)).trans hgr,⟨by omega,by omega⟩⟩;rw[hf,List.flatMap_append,List.flatMap_singleton];simpa using hP
theorem DelC.end_ (h:DelC w B g cap p ks i ks.length wr):∃W,(∀ty c,(Builtin.clear_ #[96] ty #[.slice (some ⟨g,i*3,none⟩) (ks.length - i) c]).run Tryz.prog wr = .ok (.tuple #[]) W)∧i=(ks.filter fun k=>!p k).length∧i<ks.length∧
 W.ownsRow B 103 3 (.slice (some ⟨g,0,none⟩) i cap) i ((ks.filter fun k=>!p k).flatMap c3V)∧w.grownBy W (some g):=by
 obtain ⟨gs,h1,h2,h3⟩:=h.ex;have hle:=h.le;rw[List.take_length] at h1 h2;obtain ⟨W,hc,ho,hg⟩:=clear_rowC h1 (by rw[flat_len c3V_len,h2]) (ks.length - i) (by omega) (by omega);exact ⟨W,hc,h2.symm,by omega,ho,h.gr.trans hg⟩
end
def RowOutC (B:Nat) (v:Value) (ys:List C3) (w:World) (e:Ending) (w':World):Prop:=∃A c,e = .returned (.slice A ys.length c)∧w'.ownsRow B 103 3 (.slice A ys.length c) ys.length (ys.flatMap c3V)∧w.grownBy w' v.ownBlock∧(Value.slice A ys.length c).ownBlock=v.ownBlock
theorem deleteC_any (p:C3→Bool) (F:FuncId) (caps:Array Value) (B:Nat) (ks:List C3) (v:Value) (w:World) (hr:w.ownsRow B 103 3 v ks.length (ks.flatMap c3V)) (hE:∀args w,(callFunc F args).run Tryz.prog w = .ok (.enter F args) w)
 (HK:∀y W,w.grownBy W v.ownBlock→Calls Tryz.prog F (#[.agg #[.int .i64 y.f,.string y.t,.slice y.a y.n y.c]]++caps) W (AnsC (p y) W)) :
 Calls Tryz.prog 40 #[v,.func (.func F) #[] caps] w (RowOutC B v (ks.filter fun k=>!p k) w):=by
 obtain ⟨A,c,rfl⟩:=own_slice3 hr
 have hcc:ks.length≤c∧c≤maxLen:=by
  rcases hr.2 with ⟨h2,h0⟩ | ⟨g,cap,cur,h2,_,_,h3,h4,_⟩
  ·injection h2 with _ _ h5;subst h5;exact ⟨by omega,by unfold maxLen;omega⟩
  ·injection h2 with _ _ h5;subst h5;exact ⟨h3,h4⟩
 obtain ⟨hcl,hcm⟩:=hcc;have HI:=hX (indexC_any p F caps ks A c w ⟨hcl,hcm,Reads.of_own hr⟩ hE (fun y W hW=>HK y W (only_of_below hW _)));have HR:=hX hr;have HKK:=hX HK;have hkm:ks.length≤9223372036854775807:=by unfold maxLen at hcm;omega
 clear hr HK
 cases hf:ks.findIdx? p with
 | none=>
  rw[List.findIdx?_eq_none_iff] at hf;have hz:idxC p ks = -1:=idxC_none hf;have hfl:ks.filter (fun k=>!p k)=ks:=List.filter_eq_self.2 (fun k hk=>by rw[hf k hk];rfl);rw[hz] at HI;rw[hfl];clear hf hz hfl;go_enter Tryz.func40,Tryz.ntmps40;go_wp2_with fail;refine HI.out.mono ?_;rintro e w1 ⟨rfl,hb⟩;have HB:=hX hb;clear hb;go_wp2_with fail;go_ret;exact ⟨_,_,rfl,own_below HR.out HB.out,only_of_below HB.out _,rfl⟩
 | some i0=>
  rw[List.findIdx?_eq_some_iff_getElem] at hf;obtain ⟨hi0,hp0,hl0⟩:=hf;have hpre:∀k∈ks.take i0,p k=false:=fun k hk=>by obtain ⟨j,hj,rfl⟩:=List.mem_take_iff_getElem.1 hk;have:=hl0 j (by omega);simpa using this
  have hz:idxC p ks=(i0:Int):=idxC_some hi0 hp0 hpre;obtain ⟨g,cap,hv,hD⟩:=DelC.start HR.out hi0 hp0 hpre;injection hv with e1 _ e3;subst e1 e3;have HD:=hX hD;rw[hz] at HI;clear hz hpre hl0 hp0 hD;go_enter Tryz.func40,Tryz.ntmps40;go_wp2_with fail;refine HI.out.mono ?_;rintro e w1 ⟨rfl,hb⟩;have HD1:=hX (HD.out.below hb);clear hb HD HI;have hne:((i0:Int) == -1)=false:=by rw[beq_eq_false_iff_ne];omega
  go_upto_region 5 with fail;go_loopg [5,6] (ks.length - (i0+1)) (fun m vi vj wr=>∃i j:Nat,vi = .int .i64 i∧vj = .int .i64 j∧m=ks.length - j∧i<j∧j≤ks.length∧Hid (DelC w B g c p ks i j wr))
  case atStart=>exact ⟨i0,i0+1,rfl,by go_num,rfl,Nat.lt_succ_self _,by omega,HD1⟩
  case round=>
   clear HD1 hne;obtain ⟨i,j,rfl,rfl,rfl,hij,hjn,HD⟩:=hrel;by_cases hlt:j<ks.length
   ·obtain ⟨hc,hfz,hex,hgl,hyes,hno⟩:=HD.out.next hlt;have HY:=hX hyes;have HNO:=hX hno;have HC:=hX (fun (V:World) (hV:Below wr.heap.size wr V)=>HKK.out ks[j] V (HD.out.gr.trans (only_of_below hV _)));clear hyes hno
    obtain ⟨b,hb⟩:∃b,p ks[j]=b:=⟨_,rfl⟩
    rw[hb] at HC HY HNO;clear hb;generalize ks[j]=q at *;obtain ⟨qf,qt,qa,qn,qc⟩:=q;have HFZ:=hX hfz;have HEX:=hX hex;have h1:(0:Int)≤(j:Int):=by omega
    have h2:(j:Int)<(ks.length:Int):=by omega
    have h3:(0:Int)≤(i:Int):=by omega
    have h4:(i:Int)<(ks.length:Int):=by omega
    have a0:wr.cell? ⟨g,j*3,none⟩=some (.int .i64 qf):=hc 0 _ rfl;have a1:wr.cell? ⟨g,j*3+1,none⟩=some (.string qt):=hc 1 _ rfl;have a2:wr.cell? ⟨g,j*3+2,none⟩=some (.slice qa qn qc):=hc 2 _ rfl;clear hc hfz hex;have hA:Below wr.heap.size wr (wr.alloc (.cells #[.int .i64 qf,.string qt,.slice qa qn qc] 103)):=(Below.refl _ _).alloc (Nat.le_refl _) _;have HA:=hX hA;have HKB:=hX (Blk.new wr 103 #[.int .i64 qf,.string qt,.slice qa qn qc]);have HC1:=hX (HC.out _ hA);dsimp only at HC1;clear HC;go_upto_region 8 with fail;clear a0 a1 a2 hA;generalize (wr.alloc (.cells #[.int .i64 qf,.string qt,.slice qa qn qc] 103))=W1 at *;have f0:=HKB.out.cell 0;have f1:=HKB.out.cell 1;have f2:=HKB.out.cell 2;go_wp2_with fail;refine HC1.out.mono ?_;rintro e w2 ⟨rfl,hb⟩;have HB2:=hX (HA.out.trans (hb.mono HA.out.size));have HKB2:=hX (HKB.out.below hb HKB.out.lt);have HD2:=hX (HD.out.below HB2.out);clear hb f0 f1 f2 HC1
    cases b with
    | true=>
     have HD3:=hX ((HY.out rfl).below HB2.out);go_wp2_with fail;go_roundg (ks.length - (j+1))
     case measure=>omega
     case rel=>exact ⟨i,j+1,rfl,by go_num,rfl,by omega,by omega,HD3⟩
    | false=>
     have HD3:=hX (HNO.out w2 _ _ _ rfl rfl HB2.out);have f0:=HKB2.out.cell 0;have f1:=HKB2.out.cell 1;have f2:=HKB2.out.cell 2;obtain ⟨x0,e0⟩:=HEX.out 0 (by omega);have d0:w2.cell? ⟨g,i*3,none⟩=some x0:=(HB2.out.cell (p:=⟨g,i*3,none⟩) hgl).trans e0;have z0:w2.frozen? ⟨g,i*3,none⟩=false:=(HB2.out.frozen (p:=⟨g,i*3,none⟩) hgl).trans (HFZ.out _);obtain ⟨x1,e1⟩:=HEX.out 1 (by omega);have d1:w2.cell? ⟨g,i*3+1,none⟩=some x1:=(HB2.out.cell (p:=⟨g,i*3+1,none⟩) hgl).trans e1;have z1:w2.frozen? ⟨g,i*3+1,none⟩=false:=(HB2.out.frozen (p:=⟨g,i*3+1,none⟩) hgl).trans (HFZ.out _);obtain ⟨x2,e2⟩:=HEX.out 2 (by omega);have d2:w2.cell? ⟨g,i*3+2,none⟩=some x2:=(HB2.out.cell (p:=⟨g,i*3+2,none⟩) hgl).trans e2;have z2:w2.frozen? ⟨g,i*3+2,none⟩=false:=(HB2.out.frozen (p:=⟨g,i*3+2,none⟩) hgl).trans (HFZ.out _);clear e0 e1 e2;go_upto_region 10 with fail;generalize ((w2.setCell ⟨g,i*3,none⟩ (.int .i64 qf)).setCell ⟨g,i*3+1,none⟩ (.string qt)).setCell ⟨g,i*3+2,none⟩ (.slice qa qn qc)=W3 at *;clear f0 f1 f2 d0 z0 d1 z1 d2 z2;go_wp2_with fail;go_roundg (ks.length - (j+1))
     case measure=>omega
     case rel=>exact ⟨i+1,j+1,by go_num,by go_num,rfl,by omega,by omega,HD3⟩
   ·obtain rfl:j=ks.length:=by omega
    obtain ⟨W,hcl,hi,hil,hro,hout⟩:=HD.out.end_;have HRO:=hX hro;have HOU:=hX hout;have HI:=hX hi;have hcl2:∀ty,(Builtin.clear_ #[96] ty #[.slice (some ⟨g,i*3,none⟩) (ks.length - i) (c - i)]).run Tryz.prog wr = .ok (.tuple #[]) W:=fun ty=>hcl ty _;have hne:¬c=i:=by omega
    have hic:i≤c:=by omega
    have hin:i≤ks.length:=by omega
    clear hcl hro hout hi;go_wp2_with fail;go_ret;exact ⟨_,_,by rw[←HI.out];rfl,by rw[←HI.out];exact HRO.out,HOU.out,rfl⟩
end Go.Proofs.YtigfcihakghddaaGreatDoor.BufT
end
section
namespace Go.Proofs.YtigfcihakghddaaGreatDoor.BufT
open Go Go.RowKit Words Tree Owned BufP Sch SchP Kit
def preE (e:ET):List Value:=[.string e.field,.string e.text]
def CopiedRet (d:List ET) (w:World) (e:Ending) (w':World):Prop:=
 ∃a c vs bs,e = .returned (.agg #[.slice a d.length c])∧w'.ownsRow w.heap.size 82 3 (.slice a d.length c) d.length (flat preE d vs)∧SubL w' w.heap.size 2 (fun e=>intCells e.nums) d vs bs∧bs.Nodup∧Below w.heap.size w w'
theorem infoE:(Tryz.prog.info? 82).map (fun i=>(i.zero,i.size,i.bytes))=some (some (.agg #[.string ⟨#[]⟩,.string ⟨#[]⟩,.slice none 0 0]),3,56):=by kernel_rfl
theorem entry_atD {w wr:World} {A:Option Addr} {n cap:Nat} {d:List ET} (hx:T.At bare w (fun g=>g<w.heap.size) (entriesT d) (.slice A n cap)) (hb:Below w.heap.size w wr) {i:Nat} (hi:i<d.length) :
 ∃ad A3 c3,A=some ad∧wr.cell? (ad.add (i*3))=some (.string d[i].field)∧wr.cell? ⟨(ad.add (i*3)).block,(ad.add (i*3)).off+1,none⟩=some (.string d[i].text)∧wr.cell? ⟨(ad.add (i*3)).block,(ad.add (i*3)).off+2,none⟩=some (.slice A3 d[i].nums.length c3)∧
  T.At bare wr (fun g=>g<w.heap.size) (numsT .i64 d[i].nums) (.slice A3 d[i].nums.length c3):=by
 obtain ⟨A',cap',e,_,_,hr⟩:=at_row ecells_len hx;injection e with e1 e2 e3;subst e1 e2 e3;obtain ⟨ad,us,rfl,hs,hu,hl,hc⟩:=hr i hi;simp only[ecells] at hu
 match us,hu with
 | [u0,u1,u2],hu=>
  simp only[T.AtL,T.At,and_true] at hu;obtain ⟨rfl,rfl,hn⟩:=hu;have hn2:T.At bare w (fun g=>g<w.heap.size) (numsT .i64 d[i].nums) u2:=hn;obtain ⟨A3,c3,rfl,_,_,_⟩:=at_nums hn2;have hk:∀p:Addr,p.block=ad.block→wr.cell? p=w.cell? p:=fun p hp=>hb.cell (by rw[hp];exact hs)
  exact ⟨ad,A3,c3,rfl,(hk _ (by rw[block_of_add])).trans hc.zero,(hk _ (by show (ad.add (i*3)).block=_;rw[block_of_add])).trans (hc.at_ 1 _ rfl (by omega)),(hk _ (by show (ad.add (i*3)).block=_;rw[block_of_add])).trans (hc.at_ 2 _ rfl (by omega)),
   At.keep (fun p hp=>hb.cell hp) (fun g hg=>hg) hn2⟩
structure CopK (w:World) (g n:Nat) (d:List ET) (i:Nat) (wr:World):Prop where
 ex:∃vs zs bs,wr.ownsRow w.heap.size 82 3 (.slice (some ⟨g,0,none⟩) d.length d.length) d.length (flat preE (d.take i) vs++zs)∧zs.length=(d.length - i)*3∧SubL wr w.heap.size 2 (fun e=>intCells e.nums) (d.take i) vs bs∧bs.Nodup
 bel:Below w.heap.size w wr
theorem flatE_len {l:List ET} {vs:List Value} (h:vs.length=l.length):(flat preE l vs).length=l.length*3:=by
 induction l generalizing vs with
 | nil=>cases vs <;> simp[flat]
 | cons e l ih=>cases vs with
  | nil=>simp at h
  | cons v vs=>simp[flat,preE,ih (by simpa using h)];omega
theorem CopK.at {w wr:World} {g n:Nat} {d:List ET} {i:Nat} (h:CopK w g n d i wr) (hi:i<d.length):g<wr.heap.size∧w.heap.size≤g∧(∀t,wr.frozen? ⟨g,t,none⟩=false)∧∀t,t<3→∃u,wr.cell? ⟨g,i*3+t,none⟩=some u:=by
 obtain ⟨vs,zs,bs,h1,h2,h3,h4⟩:=h.ex;have hlt:=h1.lt g rfl;refine ⟨hlt.2,hlt.1,fun t=>h1.frozenAt t,fun t ht=>?_⟩;have hl:=h1.1;rw[h1.cellAt (i*3+t) (by omega)];exact ⟨_,List.getElem?_eq_getElem (by omega)⟩
theorem CopK.step {w wr w2:World} {g n:Nat} {d:List ET} {i:Nat} {a:Option Addr} {c:Nat} (h:CopK w g n d i wr) (hi:i<d.length) (hn:ClipRow w2 wr.heap.size 2 (.slice a d[i].nums.length c) (intCells d[i].nums)) (hb:Below wr.heap.size wr w2) :
 CopK w g n d (i+1) (((w2.setCell ⟨g,i*3,none⟩ (.string d[i].field)).setCell ⟨g,i*3+1,none⟩ (.string d[i].text)).setCell ⟨g,i*3+2,none⟩ (.slice a d[i].nums.length c)):=by
 obtain ⟨vs,zs,bs,h1,h2,h3,h4⟩:=h.ex;have hyl:(flat preE (d.take i) vs).length=i*3:=by rw[flatE_len h3.len,List.length_take,Nat.min_eq_left (by omega)]
 have hgs:zs=zs.take 3++zs.drop 3:=(List.take_append_drop 3 zs).symm;have hgl:(zs.take 3).length=3:=by rw[List.length_take];omega
 have hgd:(zs.drop 3).length=(d.length - (i+1))*3:=by rw[List.length_drop];omega
 have hgg:=h1.lt g rfl;generalize zs.take 3=g1 at *;generalize zs.drop 3=g2 at *;subst hgs;have h1':=own_below h1 hb;obtain ⟨hP,hgr⟩:=own_put3 h1' hyl hgl (.string d[i].field) (.string d[i].text) (.slice a d[i].nums.length c)
 have hob:∀t cs,Blk w2 g t cs→t=82:=fun t cs hh=>by
  rcases h1'.2 with ⟨e,_⟩ | ⟨g',cap,cur,e,_,hbb,_⟩
  ·cases e
  ·injection e with e _ _;injection e with e;injection e with e;subst e;unfold Blk at hh;rw[hbb] at hh;injection hh with hh;injection hh with _ hh;exact hh.symm
 have hkeep:KeepT (fun t=>t=2) w2 (((w2.setCell ⟨g,i*3,none⟩ (.string d[i].field)).setCell ⟨g,i*3+1,none⟩ (.string d[i].text)).setCell ⟨g,i*3+2,none⟩ (.slice a d[i].nums.length c)):=KeepT.of_grown hgr fun x e cur t ht hok=>by obtain rfl:=Option.some.inj e;have:=hob t cur ht;subst hok;cases this
 have hs2:=(h3.bel hb)
 refine ⟨⟨vs++[.slice a d[i].nums.length c],g2,bs++(Value.slice a d[i].nums.length c).ownBlock.toList,?_,hgd,?_,?_⟩,(h.bel.trans (hb.mono h.bel.size)).grown hgr (by have:=h.bel.size;have:=hb.size;omega) (fun r e=>by obtain rfl:=Option.some.inj e;exact hgg.1)⟩
 ·rw[take_snocC hi,flat_append h3.len];simpa [flat,preE] using hP
 ·rw[take_snocC hi];refine (hs2.keepT hkeep rfl).append ?_;have:=SubL.cons (sub:=fun e:ET=>intCells e.nums) (x:=d[i]) ((show ClipRow _ w.heap.size 2 _ _ from hn.imp id fun ⟨x,cap,cur,hv,hB,hr⟩=>⟨x,cap,cur,hv,Nat.le_trans h.bel.size hB,hr⟩).keepT hkeep rfl) .nil;rwa [List.append_nil] at this
 ·rw[List.nodup_append];refine ⟨h4,by rw[List.nodup_iff_count];intro x;cases (Value.slice a d[i].nums.length c).ownBlock <;> simp[List.count_cons];split <;> omega,fun x hx y hy e=>?_⟩;subst e;have e1:=(h3.mem x hx).2;have e2:=(hn.lt (mem_own.1 hy)).1;omega
def FreshC (l:List Int) (w:World) (e:Ending) (w':World):Prop:=∃a c,e = .returned (.slice a l.length c)∧l.length≤c∧ClipRow w' w.heap.size 2 (.slice a l.length l.length) (intCells l)∧Below w.heap.size w w'
theorem cloneN_any (v:Value) (l:List Int) (w:World) (hv:T.At bare w (fun g=>g<w.heap.size) (numsT .i64 l) v) (hl:l.length*8≤140737488351232):Calls Tryz.prog 71 #[v] w (FreshC l w):=
 (clone_own v l w hv hl).mono fun e w' ⟨v6,e1,h1,h2⟩=>by obtain ⟨a6,c6,rfl⟩:=own_slice h1.own;have hcr:=ClipRow.of_own (show w'.ownsRow w.heap.size 2 1 (.slice a6 l.length c6) (l.map (Value.int .i64)).length (l.map (Value.int .i64)) by rw[List.length_map];exact h1.own);obtain ⟨_,hle6,hcr2⟩:=hcr.clip;exact ⟨a6,c6,e1,hle6,hcr2,h2⟩
theorem copied_any (w:World) (v:Value) (d:List ET) (hx:T.At bare w (fun g=>g<w.heap.size) (entriesT d) v) (hd:d.length*56≤140737488351232) (he:∀e∈d,EOk e) :
 Calls Tryz.prog 38 #[.agg #[v]] w (CopiedRet d w):=by
 obtain ⟨A,cap,rfl,hcap,hm,_⟩:=at_row ecells_len hx;have HX:=hX hx;have HE:=hX he;obtain ⟨i0,hi,hz0,hz1,hz2⟩:=info_parts infoE;have hmk:∀V:World,(Instr.makeSlice 65 (.int .i64 (d.length:Int)) (.int .i64 (d.length:Int))).run Tryz.prog V = .ok (.slice (some ⟨V.heap.size,0,none⟩) d.length d.length) (V.alloc (.cells (madeCells #[.string ⟨#[]⟩,.string ⟨#[]⟩,.slice none 0 0] (d.length*3)) 82)):=fun V=>by have:=run_make (P:=Tryz.prog) V 65 82 i0 _ Tryz.underlying65 hi hz0 .i64 .i64 (d.length:Int) (d.length:Int) (by omega) (Int.le_refl _) (by rw[hz2];omega) (by omega);rw[hz1,show (Value.agg #[.string ⟨#[]⟩,.string ⟨#[]⟩,.slice none 0 0]).cells=#[.string ⟨#[]⟩,.string ⟨#[]⟩,.slice none 0 0] from rfl] at this;simpa using this
 clear hx he hcap hi hz0 hz1 hz2
 obtain ⟨bs0,hbs0⟩:∃z,z=madeCells #[.string ⟨#[]⟩,.string ⟨#[]⟩,.slice none 0 0] (d.length*3):=⟨_,rfl⟩
 have HSZ:Hid (bs0.size=d.length*3):=hX (by rw[hbs0];exact size_madeCells _ _);rw[←hbs0] at hmk;clear hbs0;have h1:(0:Int)≤(d.length:Int):=by omega
 go_enter Tryz.func38,Tryz.ntmps38;go_upto_region 3 with fail;have HB0:Hid (Below w.heap.size w ((w.alloc (.cells #[.slice A d.length cap] 67)).alloc (.cells #[.slice none 0 0] 67))):=hX (((Below.refl _ _).alloc (Nat.le_refl _) _).alloc (by simp) _);have HR0:=hX (Blk.new (w.alloc (.cells #[.slice A d.length cap] 67)) 67 #[.slice none 0 0]);have hz0:((w.alloc (.cells #[.slice A d.length cap] 67)).alloc (.cells #[.slice none 0 0] 67)).heap.size=w.heap.size+1+1:=by simp
 have hz1:(w.alloc (.cells #[.slice A d.length cap] 67)).heap.size=w.heap.size+1:=by simp
 rw[hz1] at HR0;generalize (w.alloc (.cells #[.slice A d.length cap] 67)).alloc (.cells #[.slice none 0 0] 67)=W0 at *;have HR1:Hid (Blk (W0.alloc (.cells bs0 82)) (w.heap.size+1) 67 #[.slice none 0 0]):=hX (HR0.out.alloc _)
 have HK:Hid (CopK w (w.heap.size+1+1) 0 d 0 (W0.alloc (.cells bs0 82))):=hX (by
  refine ⟨⟨[],bs0.toList,[],?_,by simpa using HSZ.out,.nil,List.nodup_nil⟩,HB0.out.alloc HB0.out.size _⟩;rw[←hz0]
  simpa [flat] using World.ownsRow_lit W0 bs0 d.length HB0.out.size (by unfold maxLen;omega) HSZ.out)
 clear hz0 hz1 HR0 HB0 hmk HSZ;generalize W0.alloc (.cells bs0 82)=W1 at *;generalize hgl:w.heap.size+1+1=gl at *;generalize hgr:w.heap.size+1=gr at *;have hgne:gr≠gl:=by omega
 have hgw:w.heap.size≤gr:=by omega
 have HNE:=hX hgne;have HGW:=hX hgw;clear hgl hgr hgne hgw;go_loopg [4,5,13] d.length (fun m _ _ v wr=>∃i:Nat,v = .int .i64 i∧i≤d.length∧m=d.length - i∧Hid (CopK w gl 0 d i wr)∧Hid (Blk wr gr 67 #[.slice none 0 0]))
 case atStart=>exact ⟨0,rfl,Nat.zero_le _,rfl,HK,HR1⟩
 case round=>
  clear HK HR1;obtain ⟨i,rfl,hi,rfl,HK,HR⟩:=hrel;by_cases hlt:i<d.length
  ·obtain ⟨ad,A3,c3,rfl,c0,c1,c2,hnt⟩:=entry_atD HX.out HK.out.bel hlt;have hel:=HE.out _ (List.getElem_mem hlt);have HNL:=hX hel.nums.1;have HST:=hX (fun (w2:World) (a:Option Addr) (c:Nat) (hn:ClipRow w2 wr.heap.size 2 (.slice a d[i].nums.length c) (intCells d[i].nums)) (hb:Below wr.heap.size wr w2)=>HK.out.step hlt hn hb);have HAT:=hX (HK.out.at hlt);have HLT:Hid (i<d.length):=hX hlt;have h4:(0:Int)≤(i:Int):=by omega
   have h5:(i:Int)<(d.length:Int):=by omega
   have HNT:Hid (T.At bare wr (fun g=>g<w.heap.size) (numsT .i64 d[i].nums) (.slice A3 d[i].nums.length c3)):=hX hnt;clear hnt hel;generalize d[i]=ee at *;obtain ⟨ef,et,en⟩:=ee;dsimp only at *;go_upto_region 5 with fail;have BT:=hX (Blk.new wr 82 #[.string ef,.string et,.slice A3 en.length c3]);have HBQ:=hX ((Below.refl _ wr).alloc (Nat.le_refl _) (.cells #[.string ef,.string et,.slice A3 en.length c3] 82));clear c0 c1 c2;generalize hgb:wr.heap.size=gb at *;generalize wr.alloc (.cells #[.string ef,.string et,.slice A3 en.length c3] 82)=W5 at *;have HGB:=hX hgb;clear hgb;have t2:=BT.out.cell 2;have hgw:=HK.out.bel.size;have HCL:=hX (cloneN_any (.slice A3 en.length c3) en W5 (At.keep (fun p hp=>HBQ.out.cell (by have:=HGB.out;have:=HK.out.bel.size;omega)) (fun g hg=>by have:=HGB.out;have:=HK.out.bel.size;have:=HBQ.out.size;omega) HNT.out) HNL.out);go_wp2_with fail;refine HCL.out.mono ?_;clear HCL;rintro e W6 ⟨a6,c6,rfl,hle6,hcr2,hb6⟩;have HC6:=hX hcr2;have HB6:=hX hb6;have HC:=hX (clip_i64 a6 en.length c6 W6 hle6);clear hb6 hcr2 t2;go_wp2_with fail;refine HC.out.mono ?_;clear HC;rintro e W7 ⟨rfl,rfl⟩;rename World=>V1
   have BT6:=hX (BT.out.below HB6.out BT.out.lt);have HBW:Hid (Below gb wr V1):=hX (HBQ.out.trans (HB6.out.mono (by have:=HBQ.out.size;have:=HGB.out;omega)));obtain ⟨hl1,hl2,hl3,hl4⟩:=HAT.out;have hgl5:gl<gb:=by have:=HGB.out;omega
   have e0:=BT6.out.cell 0;have e1:=BT6.out.cell 1;have e2:=BT6.out.cell 2;have f2:=BT6.out.frozen 2;have hgne:gl≠gb:=by omega
   obtain ⟨x0,y0⟩:=hl4 0 (by omega);obtain ⟨x1,y1⟩:=hl4 1 (by omega);obtain ⟨x2,y2⟩:=hl4 2 (by omega);have d0:V1.cell? ⟨gl,i*3,none⟩=some x0:=(HBW.out.cell (p:=⟨gl,i*3,none⟩) hgl5).trans y0;have d1:V1.cell? ⟨gl,i*3+1,none⟩=some x1:=(HBW.out.cell (p:=⟨gl,i*3+1,none⟩) hgl5).trans y1;have d2:V1.cell? ⟨gl,i*3+2,none⟩=some x2:=(HBW.out.cell (p:=⟨gl,i*3+2,none⟩) hgl5).trans y2;have z0:V1.frozen? ⟨gl,i*3,none⟩=false:=(HBW.out.frozen (p:=⟨gl,i*3,none⟩) hgl5).trans (hl3 _);have z1:V1.frozen? ⟨gl,i*3+1,none⟩=false:=(HBW.out.frozen (p:=⟨gl,i*3+1,none⟩) hgl5).trans (hl3 _);have z2:V1.frozen? ⟨gl,i*3+2,none⟩=false:=(HBW.out.frozen (p:=⟨gl,i*3+2,none⟩) hgl5).trans (hl3 _);clear hl1 hl2 hl3 hl4 y0 y1 y2;go_upto_region 6 with fail;have HBV:Hid (Below gb wr (V1.setCell ⟨gb,2,none⟩ (.slice a6 en.length en.length))):=hX (HBW.out.setCell (Nat.le_refl gb) _)
   have HCV:Hid (ClipRow (V1.setCell ⟨gb,2,none⟩ (.slice a6 en.length en.length)) gb 2 (.slice a6 en.length en.length) (intCells en)):=hX (by
    have h:=HC6.out.stay (w':=V1.setCell ⟨gb,2,none⟩ (.slice a6 en.length en.length)) (fun g e=>Below.heap_setCell V1 ⟨gb,2,none⟩ _ g (fun e2=>by have h3:=(HC6.out.lt e).1;have h4:=BT.out.lt;rw[show g=gb from e2] at h3;omega))
    exact h.imp id fun ⟨x,cap,cur,hv,hB,hr⟩=>⟨x,cap,cur,hv,by have:=HBQ.out.size;have:=HGB.out;omega,hr⟩)
   have HK2:=hX (HST.out _ _ _ HCV.out HBV.out);have HR2:Hid (Blk (V1.setCell ⟨gb,2,none⟩ (.slice a6 en.length en.length)) gr 67 #[.slice none 0 0]):=hX (HR.out.below HBV.out (by have:=HR.out.lt;have:=HGB.out;omega));have BT7:=hX (BT6.out.set_ 2 (.slice a6 en.length en.length));have q0:=BT7.out.cell 0;have q1:=BT7.out.cell 1;have q2:=BT7.out.cell 2;have HNRL:Hid (gr≠gl):=HNE;go_wp2_with fail;go_roundg (d.length - (i+1))
   case measure=>have:=HLT.out;omega
   case rel=>exact ⟨i+1,by go_num,by have:=HLT.out;omega,rfl,HK2,hX (((HR2.out.far (p:=⟨gl,i*3,none⟩) HNRL.out _).far (p:=⟨gl,i*3+1,none⟩) HNRL.out _).far (p:=⟨gl,i*3+2,none⟩) HNRL.out _)⟩
  ·obtain rfl:i=d.length:=by omega
   clear hlt;have r0:=HR.out.cell 0;have z0:=HR.out.frozen 0;have hrl:=HR.out.lt;go_wp2_with fail;obtain ⟨vs,zs,bs,k1,k2,k3,k4⟩:=HK.out.ex;have hgn:=HNE.out;have hkk:KeepT (fun t=>t=82∨t=2) wr (wr.setCell ⟨gr,0,none⟩ (.slice (some ⟨gl,0,none⟩) d.length d.length)):=KeepT.of_set HR.out (by simp) 0 _;have hz:zs=[]:=List.eq_nil_of_length_eq_zero (by rw[k2];omega);subst hz;rw[List.take_length,List.append_nil] at k1;rw[List.take_length] at k3;have hcz:(wr.setCell ⟨gr,0,none⟩ (.slice (some ⟨gl,0,none⟩) d.length d.length)).cell? ⟨gr,0,none⟩=some (.slice (some ⟨gl,0,none⟩) d.length d.length):=(HR.out.set_ 0 _).cell 0;exact bodyPost_ret (v:=.agg #[.slice (some ⟨gl,0,none⟩) d.length d.length]) (by simp[results,Tryz.results38,go_sem,hcz];try rfl) rfl ⟨_,_,vs,bs,rfl,own_setCell_ne k1 (fun e=>hgn (Option.some.inj e).symm) _,k3.keepT hkk (.inr rfl),k4,HK.out.bel.setCell HGW.out _⟩
end Go.Proofs.YtigfcihakghddaaGreatDoor.BufT
end
