/- Lemmas that the last text leans on. -/
import Derived.Test.YtplkbdncgkgppaaGreatDoorTake
import Derived.Test.YtplkbdncgkgppaaGreatDoorRwCopied
import Derived.Test.YtplkbdncgkgppaaGreatDoorPack22
import Derived.Laws.IdiomCopy
import Derived.Laws.OwnMore
import Derived.Lib.AppendZeros
import Derived.Deep.LoopGhost
import Derived.Deep.RegionHeld3
set_option linter.all false
set_option maxRecDepth 100000
set_option maxHeartbeats 8000000
section
namespace Go.Proofs.YtplkbdncgkgppaaGreatDoor.Qry
open Go.RowKit Words Tree QryP Kit Owned Sch
def zse (p:QT→Bool) (ks:List QT):Int:=match ks.findIdx? p with
 | some i=>i
 | none=>-1
def ygu (z:Int) (w:World) (e:Ending) (w':World):Prop:=e = .returned (.int .i64 z)∧Below w.heap.size w w'
theorem zks {p:QT→Bool} {ks:List QT} (h:∀k∈ks,p k=false):zse p ks = -1:=by
 unfold zse;rw[List.findIdx?_eq_none_iff.2 h]
theorem zkt {p:QT→Bool} {ks:List QT} {i:Nat} (hi:i<ks.length) (hp:p ks[i]=true) (h:∀k∈ks.take i,p k=false):zse p ks=i:=by
 unfold zse
 have:ks.findIdx? p=some i:=(by rw[List.findIdx?_eq_some_iff_getElem];refine ⟨hi,hp,fun j hj=>?_⟩;have:=h (ks[j]'(by omega)) (List.mem_take_iff_getElem.2 ⟨j,by omega,rfl⟩);simp[this])
 rw[this]
theorem zsf (p:QT→Bool) (ks:List QT):decide (0≤zse p ks)=ks.any p:=by
 unfold zse
 cases h:ks.findIdx? p with
 | none=>
  rw[List.findIdx?_eq_none_iff] at h;have:ks.any p=false:=by rw[List.any_eq_false];intro x hx;rw[h x hx];decide
  rw[this];rfl
 | some i=>
  rw[List.findIdx?_eq_some_iff_getElem] at h;obtain ⟨hi,hp,_⟩:=h;have:ks.any p=true:=List.any_eq_true.2 ⟨_,List.getElem_mem hi,hp⟩;rw[this];exact decide_eq_true (by simp)
theorem zio (p:QT→Bool) (F:FuncId) (caps:Array Value) (ks:List QT) (A:Option Addr) (cA:Nat) (w:World) (hk:T.At bare w (fun g=>g<w.heap.size) (.arr 10 ks.length (zaw ks)) (.slice A ks.length cA)) (hE:∀args w,(callFunc F args).run Tryz.prog w = .ok (.enter F args) w)
 (HK:∀k∈ks,∀us W,Below w.heap.size w W→T.AtL bare W (fun g=>g<W.heap.size) (cells k) us→Calls Tryz.prog F (#[.agg us.toArray]++caps) W (ze2 (p k) W)) :
 Calls Tryz.prog 128 #[.slice A ks.length cA,.func (.func F) #[] caps] w (ygu (zse p ks) w):=by
 obtain ⟨_,_,he,hcA,hmA,hel⟩:=zc9 hk;injection he with e1 _ e3;subst e1 e3;have EL:=hX hel;have HK:=hX HK;have hkm:ks.length≤9223372036854775807:=by unfold maxLen at hmA;omega
 obtain ⟨r,hr⟩:∃r,zse p ks=r:=⟨_,rfl⟩
 rw[hr];have H0:Hid (∀k∈ks.take 0,p k=false):=hX (by simp);have HR:=hX hr;clear hr hk hel;go_enter Tryz.func128,Tryz.ntmps128;go_wp2_with fail;go_loopw [5,8] (fun _ i wr=>∃k:Nat,k≤ks.length∧i = .int .i64 k∧Hid (∀q∈ks.take k,p q=false)∧Hid (Below w.heap.size w wr)) (fun _ i _=>ks.length - (intOf i).toNat);case atStart=>exact ⟨0,by omega,rfl,H0,hX (Below.refl _ _)⟩
 case round=>
  clear H0;obtain ⟨k,hk,rfl,HE,HB⟩:=hrel;by_cases hlt:k<ks.length
  ·have hlt2:(k:Int)<(ks.length:Int):=by omega
   obtain ⟨ad,us,rfl,hba,au,lu,cu⟩:=EL.out k hlt;replace cu:=cu.keep (w':=wr) (fun p hp=>HB.out.cell (by rw[hp,zab];exact hba));have HAU:=hX (HK.out ks[k] (List.getElem_mem _) us wr HB.out (zch au HB.out))
   obtain ⟨b,hb⟩:∃b,p ks[k]=b:=⟨_,rfl⟩
   rw[hb] at HAU;have HP:=hX hb
   have HD:Hid (p ks[k]=false→∀q∈ks.take (k+1),p q=false):=hX (fun h q hq=>by
    rw[zbc hlt] at hq;rcases List.mem_append.1 hq with hq | hq
    ·exact HE.out q hq
    ·rw[List.mem_singleton.1 hq];exact h)
   have HI:Hid (p ks[k]=true→r=(k:Int)):=hX (fun h=>by rw[←HR.out];exact zkt hlt h HE.out);generalize hq:ks[k]=q at *;obtain ⟨kd',oc',f',t',u',lo',hi',b',op',ks'⟩:=q;obtain ⟨vl,vh,vk,rfl,hl,hh,hkk⟩:=zal au;obtain ⟨B1,d1,rfl,_⟩:=zau hl;obtain ⟨B2,d2,rfl,_⟩:=zau hh;obtain ⟨B3,d3,rfl⟩:=zms hkk;obtain ⟨a0,a1,a2,a3,a4,a5,a6,a7,a8,a9⟩:=ten cu;clear hq au hl hh hkk cu lu hb;go_wp2_with fail;refine HAU.out.mono ?_;rintro e w2 ⟨rfl,hb⟩;have HB2:=hX (HB.out.trans (hb.mono HB.out.size));clear hb a0 a1 a2 a3 a4 a5 a6 a7 a8 a9 HAU
   cases b with
   | true=>
    have hz:=HI.out HP.out;clear HI HP HR;subst hz;go_wp2_with fail;go_ret;exact ⟨rfl,HB2.out⟩
   | false=>
    have HE2:=hX (HD.out HP.out);go_wp2_with fail;go_roundw;case rel=>exact ⟨k+1,by omega,by go_num,HE2,HB2⟩
    case measure=>simp[intOf];omega
  ·obtain rfl:k=ks.length:=by omega
   have hz:r = -1:=by rw[←HR.out];exact zks (by have:=HE.out;rwa [List.take_length] at this)
   clear HR;subst hz;go_wp2_with fail;go_ret;exact ⟨rfl,HB.out⟩
theorem zex (p:QT→Bool) (F:FuncId) (caps:Array Value) (ks:List QT) (A:Option Addr) (cA:Nat) (w:World) (hk:T.At bare w (fun g=>g<w.heap.size) (.arr 10 ks.length (zaw ks)) (.slice A ks.length cA)) (hE:∀args w,(callFunc F args).run Tryz.prog w = .ok (.enter F args) w)
 (HK:∀k∈ks,∀us W,Below w.heap.size w W→T.AtL bare W (fun g=>g<W.heap.size) (cells k) us→Calls Tryz.prog F (#[.agg us.toArray]++caps) W (ze2 (p k) W)) :
 Calls Tryz.prog 84 #[.slice A ks.length cA,.func (.func F) #[] caps] w (ze2 (ks.any p) w):=by
 have HI:=hX (zio p F caps ks A cA w hk hE HK);have HA:=hX (zsf p ks);clear hk HK hE;generalize zse p ks=z at *;go_enter Tryz.func84,Tryz.ntmps84;go_wp2_with fail;refine HI.out.mono ?_;rintro e w2 ⟨rfl,hb⟩;have HB:=hX hb;clear hb;go_wp2_with fail;go_ret;exact ⟨by show Ending.returned (.bool (decide (0≤z)))=_;rw[HA.out],HB.out⟩
end Go.Proofs.YtplkbdncgkgppaaGreatDoor.Qry
end
section
namespace Go.Proofs.YtplkbdncgkgppaaGreatDoor.Qry
open Go.RowKit Words Tree QryP Kit Owned Sch
theorem zi8 {g:Nat} {t:TypeId}:∀(vs:List Value) (o:Nat) (w:World) (cur:Array Value),Blk w g t cur→∃cur',Blk (w.setCells g o vs) g t cur'∧cur'.size=cur.size∧cur'.toList.take o=cur.toList.take o∧w.grownBy (w.setCells g o vs) (some g)
 | [],o,w,cur,h=>⟨cur,h,rfl,rfl,World.grownBy.refl w _⟩
 | v::r,o,w,cur,h=>by
  obtain ⟨cur',h1,h2,h3,h4⟩:=zi8 r (o+1) (w.setCell ⟨g,o,none⟩ v) _ (h.set_ o v);refine ⟨cur',h1,by rw[h2];simp,?_,(zac (World.grownBy.refl w (some g)) (p:=⟨g,o,none⟩) (.inl rfl) v).trans h4⟩;have e:∀l:List Value,l.take o=(l.take (o+1)).take o:=fun l=>by rw[List.take_take];congr 1;omega
  rw[e,h3,←e,Array.toList_setIfInBounds,List.take_set_of_le (Nat.le_refl _)]
theorem zc5 (g m:Nat):(⟨g,0,none⟩:Addr).add m=⟨g,m,none⟩:=by unfold Addr.add;split <;> simp_all
theorem zwq (w:World):(zeroValue 28).run Tryz.prog w = .ok (.agg #[.int .i64 0,.int .i64 0,.string ⟨#[]⟩,.string ⟨#[]⟩,.string ⟨#[]⟩,.slice none 0 0,.slice none 0 0,.int .i64 0,.int .i64 0,.slice none 0 0]) w:=by rfl
theorem zwr (z:Array Value) (n:Nat) (h:∀u∈z,u.oneCell'=true):∀u∈(Builtin.zeroCells z n).toList,u.oneCell'=true:=by
 intro u hu;unfold Builtin.zeroCells at hu;simp only[Array.toList_map,Array.toList_range,List.mem_map,List.mem_range] at hu;obtain ⟨j,hj,rfl⟩:=hu
 have hz:0<z.size:=by
  rcases Nat.eq_zero_or_pos z.size with h0 | h0
  ·rw[h0,Nat.mul_zero] at hj;omega
  ·exact h0
 have hlt:=Nat.mod_lt j hz;rw[getElem!_pos z (j % z.size) hlt];exact h _ (Array.getElem_mem hlt)
theorem zox {w:World} {B g n cap i:Nat} {y z:List Value} (h:w.ownsRow B 28 10 (.slice (some ⟨g,0,none⟩) n cap) n (y++z)) (hy:y.length=i*10) (m:Nat) (hm:0<m) (him:i+m≤n) :
 ∃W,(∀ty c,(Builtin.clear_ #[26] ty #[.slice (some ⟨g,i*10,none⟩) m c]).run Tryz.prog w = .ok (.tuple #[]) W)∧W.ownsRow B 28 10 (.slice (some ⟨g,0,none⟩) i cap) i y∧w.grownBy W (some g):=by
 obtain ⟨hl,h | ⟨g',cap',cur,hv,hB,hg,hn,hcm,hcs,ht⟩⟩:=h
 ·simp at h
 injection hv with h1 h2 h3;injection h1 with h1;injection h1 with h1 _ _;subst h1 h3
 obtain ⟨L,hL⟩:∃L,(Builtin.zeroCells #[.int .i64 0,.int .i64 0,.string ⟨#[]⟩,.string ⟨#[]⟩,.string ⟨#[]⟩,.slice none 0 0,.slice none 0 0,.int .i64 0,.int .i64 0,.slice none 0 0] m).toList=L:=⟨_,rfl⟩
 have hLl:L.length=m*10:=by rw[←hL,Array.length_toList,size_zeroCells];rfl
 have hL1:∀u∈L,u.oneCell'=true:=(by rw[←hL];refine zwr _ _ (fun u hu=>?_);simp only[List.mem_toArray,List.mem_cons,List.not_mem_nil,or_false] at hu;rcases hu with rfl | rfl | rfl | rfl | rfl | rfl | rfl | rfl | rfl | rfl <;> rfl)
 have hb:Blk w g 28 cur:=hg
 have hst:=run_storeCells_cells (P:=Tryz.prog) g (i*10) L 0 w (fun j hj=>by
  rw[Nat.add_zero,hb.cell,Array.getElem?_eq_getElem (by rw[hcs];omega)];rfl) (fun j hj=>hb.frozen _) hL1
 simp only[Nat.add_zero] at hst;obtain ⟨cur',b1,b2,b3,b4⟩:=zi8 L (i*10) w cur hb;refine ⟨w.setCells g (i*10) L,fun ty c=>?_,⟨hy,.inr ⟨g,cap,cur',rfl,hB,b1,by omega,hcm,by rw[b2,hcs],?_⟩⟩,b4⟩
 ·obtain ⟨k,rfl⟩:∃k,m=k+1:=⟨m - 1,by omega⟩
  have hz:∀w,(zeroValue 28).run Tryz.prog w = .ok (.agg #[.int .i64 0,.int .i64 0,.string ⟨#[]⟩,.string ⟨#[]⟩,.string ⟨#[]⟩,.slice none 0 0,.slice none 0 0,.int .i64 0,.int .i64 0,.slice none 0 0]) w:=zwq;have hc:(Value.agg #[.int .i64 0,.int .i64 0,.string ⟨#[]⟩,.string ⟨#[]⟩,.string ⟨#[]⟩,.slice none 0 0,.slice none 0 0,.int .i64 0,.int .i64 0,.slice none 0 0]).cells=#[.int .i64 0,.int .i64 0,.string ⟨#[]⟩,.string ⟨#[]⟩,.string ⟨#[]⟩,.slice none 0 0,.slice none 0 0,.int .i64 0,.int .i64 0,.slice none 0 0]:=rfl;simp[Builtin.clear_,run_underlying Tryz.underlying26,hz,hc,hL,hst]
 ·rw[b3];have:cur.toList.take (i*10)=(cur.toList.take (n*10)).take (i*10):=by rw[List.take_take];congr 1;omega
  rw[this,ht,←hy,List.take_left]
structure DelK (w:World) (B g cap:Nat) (bs:List Nat) (p:QT→Bool) (ks:List QT) (i j:Nat) (wr:World):Prop where
 ex:∃ys gs zs b1 b2,wr.ownsRow B 28 10 (.slice (some ⟨g,0,none⟩) ks.length cap) ks.length (ys++(gs++zs))∧ys.length=i*10∧gs.length=(j - i)*10∧OQL wr B ((ks.take j).filter fun k=>!p k) ys b1∧OQL wr B (ks.drop j) zs b2∧(g::(b1++b2)).Nodup∧∀x∈b1++b2,x∈bs
 gr:w.grownBy wr (some g)
 le:i<j∧j≤ks.length
 mem:g∈bs
section
variable {w wr w2:World} {B g cap i j:Nat} {bs:List Nat} {p:QT→Bool} {ks:List QT}
theorem zku {a b c:World} {r:Option Nat} (h:a.grownBy b r) (k:Below b.heap.size b c):a.grownBy c r:=h.trans (only_of_below k r)
theorem DelK.below (h:DelK w B g cap bs p ks i j wr) (hb:Below wr.heap.size wr w2):DelK w B g cap bs p ks i j w2:=by
 obtain ⟨ys,gs,zs,b1,b2,h1,h2,h3,h4,h5,h6,h7⟩:=h.ex;exact ⟨⟨ys,gs,zs,b1,b2,zbb h1 hb,h2,h3,h4.below hb (Nat.le_refl _),h5.below hb (Nat.le_refl _),h6,h7⟩,zku h.gr hb,h.le,h.mem⟩
theorem DelK.start {l1 l2:List QT} {q:QT} {v:Value} (hr:zeb w B v (l1++q::l2) bs) (hnd:bs.Nodup) (hp:p q=true) (hl:∀k∈l1,p k=false):∃g cap,v = .slice (some ⟨g,0,none⟩) (l1++q::l2).length cap∧DelK w B g cap bs p (l1++q::l2) l1.length (l1.length+1) w:=by
 obtain ⟨xs,bk,ho,hx,rfl⟩:=hr;obtain ⟨g,cap,rfl,hgB,hgl⟩:=ho.form (by simp;omega);obtain ⟨ys,r,b1,c,rfl,rfl,hy,hr⟩:=OQL.cut hx;rw[OQL] at hr;obtain ⟨us,zs,bq,b2,rfl,rfl,hq,hz⟩:=hr
 have ht:(l1++q::l2).take (l1.length+1)=l1++[q]:=(by rw[List.take_append,List.take_of_length_le (by omega)];simp)
 have hd:(l1++q::l2).drop (l1.length+1)=l2:=(by rw[List.drop_append,List.drop_of_length_le (by omega)];simp)
 have hf:(l1++[q]).filter (fun k=>!p k)=l1:=(by rw[List.filter_append,List.filter_eq_self.2 (fun k hk=>by rw[hl k hk];rfl),List.filter_cons_of_neg (by rw[hp];decide)];simp)
 replace hnd:(g::(b1++(bq++b2))).Nodup:=hnd;refine ⟨g,cap,rfl,⟨ys,us,zs,b1,b2,ho,hy.len,by rw[hq.len];omega,by rw[ht,hf];exact hy,by rw[hd];exact hz,?_,fun x hx=>?_⟩,World.grownBy.refl w _,⟨by omega,by simp⟩,by simp[Value.ownBlock]⟩
 ·exact hnd.sublist (List.Sublist.cons_cons _ ((List.Sublist.refl _).append (List.sublist_append_right _ _)))
 ·simp only[List.mem_append] at hx;simp only[Value.ownBlock,Option.toList_some,List.mem_append];rcases hx with hx | hx
  ·exact .inr (.inl hx)
  ·exact .inr (.inr (.inr hx))
theorem DelK.next (h:DelK w B g cap bs p ks i j wr) (hj:j<ks.length):∃us,T.AtL bare wr (fun x=>x<wr.heap.size) (cells ks[j]) us∧us.length=10∧(∀t u,us[t]?=some u→wr.cell? ⟨g,j*10+t,none⟩=some u)∧(∀t,wr.frozen? ⟨g,t,none⟩=false)∧(∀t,t<10→∃u,wr.cell? ⟨g,i*10+t,none⟩=some u)∧g<wr.heap.size∧
 (p ks[j]=true→DelK w B g cap bs p ks i (j+1) wr)∧
 ∀(w2:World) (v0 v1 v2 v3 v4 v5 v6 v7 v8 v9:Value),us=[v0,v1,v2,v3,v4,v5,v6,v7,v8,v9]→p ks[j]=false→Below wr.heap.size wr w2→DelK w B g cap bs p ks (i+1) (j+1) (zje w2 g (i*10) v0 v1 v2 v3 v4 v5 v6 v7 v8 v9):=by
 obtain ⟨ys,gs,zs,b1,b2,h1,h2,h3,h4,h5,h6,h7⟩:=h.ex;have hle:=h.le;rw[List.drop_eq_getElem_cons hj,OQL] at h5;obtain ⟨us,z2,bq,b2,rfl,rfl,hq,hz⟩:=h5;have hg:=(World.ownsRow.lt h1 g rfl).2;have htk:ks.take (j+1)=ks.take j++[ks[j]]:=zbc hj;refine ⟨us,AtL.keep (fun _ _=>rfl) (fun x hx=>(hq.mem x hx).2) hq.at_,hq.len,fun t u hu=>?_,fun t=>h1.frozenAt t,fun t ht=>?_,hg,fun hp=>?_,?_⟩
 ·have ht:=(List.getElem?_eq_some_iff.1 hu).1
  have:=h1.cells (g:=g) rfl (j*10+t) u (by
   have e:j*10=i*10+(j - i)*10:=by omega
   rw[List.getElem?_append_right (by omega),h2,List.getElem?_append_right (by omega),h3,show j*10+t - i*10 - (j - i)*10=t by omega,List.getElem?_append_left ht];exact hu)
  rwa [zc5] at this
 ·rw[h1.cellAt (i*10+t) (by omega)];have hl:=h1.1;exact ⟨_,List.getElem?_eq_getElem (by omega)⟩
 ·refine ⟨⟨ys,gs++us,z2,b1,b2,by rw[List.append_assoc];exact h1,h2,by rw[List.length_append,h3,hq.len];omega,?_,hz,?_,fun x hx=>h7 x ?_⟩,h.gr,⟨by omega,by omega⟩,h.mem⟩
  ·rw[htk,List.filter_append,List.filter_cons_of_neg (by rw[hp];decide)];simpa using h4
  ·exact h6.sublist (List.Sublist.cons_cons _ ((List.Sublist.refl _).append (List.sublist_append_right _ _)))
  ·simp only[List.mem_append] at hx ⊢;exact hx.imp id .inr
 ·intro w2 v0 v1 v2 v3 v4 v5 v6 v7 v8 v9 hus hp hb;have hgs:gs=gs.take 10++gs.drop 10:=(List.take_append_drop 10 gs).symm;have hgl:(gs.take 10).length=10:=by rw[List.length_take];omega
  have hgd:(gs.drop 10).length=(j - i)*10 - 10:=by rw[List.length_drop];omega
  generalize gs.take 10=g1 at *;generalize gs.drop 10=g2 at *;subst hgs;have h1':=zbb h1 hb;rw[List.append_assoc] at h1';obtain ⟨hP,hgr⟩:=zko h1' h2 hgl v0 v1 v2 v3 v4 v5 v6 v7 v8 v9;rw[←hus] at hP;generalize zje w2 g (i*10) v0 v1 v2 v3 v4 v5 v6 v7 v8 v9=W at *;have hng:∀x∈b1++(bq++b2),x≠g:=fun x hx e=>(List.nodup_cons.1 h6).1 (e ▸ hx);have kq:OQ W B ks[j] us bq:=(hq.below hb (Nat.le_refl _)).grown hgr (fun x hx e=>hng x (by simp[hx]) (by injection e with e;exact e.symm));refine ⟨⟨ys++us,g2++us,z2,b1++bq,b2,?_,by rw[List.length_append,h2,hq.len];omega,by rw[List.length_append,hgd,hq.len];omega,?_,?_,?_,fun x hx=>h7 x ?_⟩,(zku h.gr hb).trans hgr,⟨by omega,by omega⟩,h.mem⟩
  ·simpa using hP
  ·rw[htk,List.filter_append,List.filter_cons_of_pos (by rw[hp];rfl)];exact OQL.snoc ((h4.below hb (Nat.le_refl _)).grown hgr (fun x hx e=>hng x (by simp[hx]) (by injection e with e;exact e.symm))) kq
  ·exact (hz.below hb (Nat.le_refl _)).grown hgr (fun x hx e=>hng x (by simp[hx]) (by injection e with e;exact e.symm))
  ·rw[List.append_assoc];exact h6
  ·rw[List.append_assoc] at hx;exact hx
theorem DelK.end_ (h:DelK w B g cap bs p ks i ks.length wr):∃W,(∀ty c,(Builtin.clear_ #[26] ty #[.slice (some ⟨g,i*10,none⟩) (ks.length - i) c]).run Tryz.prog wr = .ok (.tuple #[]) W)∧i=(ks.filter fun k=>!p k).length∧i<ks.length∧
 ∃bs',zeb W B (.slice (some ⟨g,0,none⟩) i cap) (ks.filter fun k=>!p k) bs'∧OutR w bs W bs':=by
 obtain ⟨ys,gs,zs,b1,b2,h1,h2,h3,h4,h5,h6,h7⟩:=h.ex;have hle:=h.le;rw[List.drop_length,OQL] at h5;obtain ⟨rfl,rfl⟩:=h5;rw[List.take_length] at h4;have hi:i=(ks.filter fun k=>!p k).length:=by have:=h4.len;omega
 obtain ⟨W,hc,ho,hg⟩:=zox h1 h2 (ks.length - i) (by omega) (by omega);refine ⟨W,hc,hi,by omega,g::b1,⟨ys,b1,by rw[←hi];exact ho,h4.grown hg (fun x hx e=>?_),rfl⟩,⟨?_,fun x hx=>?_,?_⟩⟩
 ·injection e with e;exact (List.nodup_cons.1 h6).1 (by rw[e];simp[hx])
 ·exact h6.sublist (List.Sublist.cons_cons _ (List.sublist_append_left _ _))
 ·rcases List.mem_cons.1 hx with rfl | hx
  ·exact .inl h.mem
  ·exact .inl (h7 x (by simp[hx]))
 ·exact But.grown (h.gr.trans hg) (fun r e=>by injection e with e;rw[←e];exact h.mem)
end
end Go.Proofs.YtplkbdncgkgppaaGreatDoor.Qry
end
section
namespace Go.Proofs.YtplkbdncgkgppaaGreatDoor.Qry
open Go.RowKit Words Tree QryP Kit Owned Sch
theorem zeb.atw {w:World} {B:Nat} {v:Value} {l:List QT} {bs:List Nat} (h:zeb w B v l bs):T.At bare w (fun g=>g<w.heap.size) (.arr 10 l.length (zaw l)) v:=At.keep (fun _ _=>rfl) (fun g hg=>(h.mem g hg).2) h.at_
theorem zeb.form {w:World} {B:Nat} {v:Value} {l:List QT} {bs:List Nat} (h:zeb w B v l bs):∃A c,v = .slice A l.length c:=by
 obtain ⟨xs,bk,h1,_⟩:=h;exact zew h1
theorem zeb.cap {w:World} {B n c:Nat} {A:Option Addr} {l:List QT} {bs:List Nat} (h:zeb w B (.slice A n c) l bs):l.length≤c∧c≤maxLen:=by
 obtain ⟨xs,bk,h1,_⟩:=h
 rcases h1.2 with ⟨h2,h0⟩ | ⟨g,cap,cur,h2,_,_,h3,h4,_⟩
 ·injection h2 with _ _ h5;subst h5;exact ⟨by omega,by unfold maxLen;omega⟩
 ·injection h2 with _ _ h5;subst h5;exact ⟨h3,h4⟩
def ya5 (B:Nat) (ks:List QT) (bs:List Nat) (w:World) (e:Ending) (w':World):Prop:=∃A c bs',e = .returned (.slice A ks.length c)∧zeb w' B (.slice A ks.length c) ks bs'∧OutR w bs w' bs'
theorem zld (p:QT→Bool) (F:FuncId) (caps:Array Value) (B:Nat) (ks:List QT) (v:Value) (bs:List Nat) (w:World) (hr:zeb w B v ks bs) (hnd:bs.Nodup) (hE:∀args w,(callFunc F args).run Tryz.prog w = .ok (.enter F args) w)
 (HK:∀k∈ks,∀us W,T.AtL bare W (fun g=>g<W.heap.size) (cells k) us→Calls Tryz.prog F (#[.agg us.toArray]++caps) W (ze2 (p k) W)) :
 Calls Tryz.prog 137 #[v,.func (.func F) #[] caps] w (ya5 B (ks.filter fun k=>!p k) bs w):=by
 obtain ⟨A,c,rfl⟩:=hr.form;have HI:=hX (zio p F caps ks A c w hr.atw hE (fun k hk us W _ hu=>HK k hk us W hu));have HR:=hX hr;have HN:=hX hnd;have HKK:=hX HK;obtain ⟨hcl,hcm⟩:=hr.cap;have hkm:ks.length≤9223372036854775807:=by unfold maxLen at hcm;omega
 clear hr hnd HK
 cases hf:ks.findIdx? p with
 | none=>
  rw[List.findIdx?_eq_none_iff] at hf;have hz:zse p ks = -1:=zks hf;have hfl:ks.filter (fun k=>!p k)=ks:=List.filter_eq_self.2 (fun k hk=>by rw[hf k hk];rfl);rw[hz] at HI;rw[hfl];clear hf hz hfl;go_enter Tryz.func137,Tryz.ntmps137;go_wp2_with fail;refine HI.out.mono ?_;rintro e w1 ⟨rfl,hb⟩;have HB:=hX hb;clear hb;go_wp2_with fail;go_ret;exact ⟨_,_,bs,rfl,HR.out.below HB.out (Nat.le_refl _),(OutR.refl HN.out w).below HB.out⟩
 | some i0=>
  rw[List.findIdx?_eq_some_iff_getElem] at hf;obtain ⟨hi0,hp0,hl0⟩:=hf;have hpre:∀k∈ks.take i0,p k=false:=fun k hk=>by obtain ⟨j,hj,rfl⟩:=List.mem_take_iff_getElem.1 hk;have:=hl0 j (by omega);simpa using this
  have hz:zse p ks=(i0:Int):=zkt hi0 hp0 hpre;have hsp:ks=ks.take i0++ks[i0]::ks.drop (i0+1):=by rw[←List.drop_eq_getElem_cons hi0,List.take_append_drop]
  have hst:∃g cap,A=some ⟨g,0,none⟩∧c=cap∧DelK w B g cap bs p ks i0 (i0+1) w:=(by have h:=HR.out;rw[hsp] at h;obtain ⟨g,cap,hv,hD⟩:=DelK.start h HN.out hp0 hpre;rw[←hsp,List.length_take,Nat.min_eq_left (by omega)] at hD;injection hv with h1 _ h3;exact ⟨g,cap,h1,h3,hD⟩)
  obtain ⟨g,cap,rfl,rfl,hD⟩:=hst;have HD:=hX hD;rw[hz] at HI;clear hz hsp hpre hl0 hp0 hD;go_enter Tryz.func137,Tryz.ntmps137;go_wp2_with fail;refine HI.out.mono ?_;rintro e w1 ⟨rfl,hb⟩;have HD1:=hX (HD.out.below hb);clear hb HD HI;have hne:((i0:Int) == -1)=false:=by rw[beq_eq_false_iff_ne];omega
  go_upto_region 5 with fail;go_loopg [5,6] (ks.length - (i0+1)) (fun m vi vj wr=>∃i j:Nat,vi = .int .i64 i∧vj = .int .i64 j∧m=ks.length - j∧i<j∧j≤ks.length∧Hid (DelK w B g c bs p ks i j wr))
  case atStart=>exact ⟨i0,i0+1,rfl,by go_num,rfl,Nat.lt_succ_self _,by omega,HD1⟩
  case round=>
   clear HD1 hne;obtain ⟨i,j,rfl,rfl,rfl,hij,hjn,HD⟩:=hrel;by_cases hlt:j<ks.length
   ·obtain ⟨us,hau,hul,hc,hfz,hex,hgl,hyes,hno⟩:=HD.out.next hlt;have HY:=hX hyes;have HNO:=hX hno;have hkm:ks[j]∈ks:=List.getElem_mem hlt;have HC:=hX (fun (V:World) (hV:Below wr.heap.size wr V)=>HKK.out ks[j] hkm us V (AtL.below hau hV (fun x hx=>Nat.lt_of_lt_of_le hx hV.size)));clear hyes hno hkm
    obtain ⟨b,hb⟩:∃b,p ks[j]=b:=⟨_,rfl⟩
    rw[hb] at HC HY HNO;clear hb;generalize ks[j]=q at *;obtain ⟨k0,k1,k2,k3,k4,k5,k6,k7,k8,k9⟩:=q;obtain ⟨y5',y6',y9',rfl,g5,g6,g9⟩:=zal hau;obtain ⟨Y5,y5,rfl⟩:=zar g5;obtain ⟨Y6,y6,rfl⟩:=zar g6;obtain ⟨Y9,y9,rfl⟩:=zar g9;have HFZ:=hX hfz;have HEX:=hX hex;have h1:(0:Int)≤(j:Int):=by omega
    have h2:(j:Int)<(ks.length:Int):=by omega
    have h3:(0:Int)≤(i:Int):=by omega
    have h4:(i:Int)<(ks.length:Int):=by omega
    have a0:wr.cell? ⟨g,j*10,none⟩=some (.int .i64 k0):=hc 0 _ rfl;have a1:wr.cell? ⟨g,j*10+1,none⟩=some (.int .i64 k1):=hc 1 _ rfl;have a2:wr.cell? ⟨g,j*10+2,none⟩=some (.string k2):=hc 2 _ rfl;have a3:wr.cell? ⟨g,j*10+3,none⟩=some (.string k3):=hc 3 _ rfl;have a4:wr.cell? ⟨g,j*10+4,none⟩=some (.string k4):=hc 4 _ rfl;have a5:wr.cell? ⟨g,j*10+5,none⟩=some (.slice Y5 k5.length y5):=hc 5 _ rfl;have a6:wr.cell? ⟨g,j*10+6,none⟩=some (.slice Y6 k6.length y6):=hc 6 _ rfl;have a7:wr.cell? ⟨g,j*10+7,none⟩=some (.int .i64 k7):=hc 7 _ rfl;have a8:wr.cell? ⟨g,j*10+8,none⟩=some (.int .i64 k8):=hc 8 _ rfl;have a9:wr.cell? ⟨g,j*10+9,none⟩=some (.slice Y9 k9.length y9):=hc 9 _ rfl;clear hc hfz hex hau hul g5 g6 g9;have hA:Below wr.heap.size wr (wr.alloc (.cells #[.int .i64 k0,.int .i64 k1,.string k2,.string k3,.string k4,.slice Y5 k5.length y5,.slice Y6 k6.length y6,.int .i64 k7,.int .i64 k8,.slice Y9 k9.length y9] 28)):=(Below.refl _ _).alloc (Nat.le_refl _) _;have HA:=hX hA;have HKB:=hX (Blk.new wr 28 #[.int .i64 k0,.int .i64 k1,.string k2,.string k3,.string k4,.slice Y5 k5.length y5,.slice Y6 k6.length y6,.int .i64 k7,.int .i64 k8,.slice Y9 k9.length y9]);have HC1:=hX (HC.out _ hA);clear HC;go_upto_region 8 with fail;clear a0 a1 a2 a3 a4 a5 a6 a7 a8 a9 hA
    generalize (wr.alloc (.cells #[.int .i64 k0,.int .i64 k1,.string k2,.string k3,.string k4,.slice Y5 k5.length y5,.slice Y6 k6.length y6,.int .i64 k7,.int .i64 k8,.slice Y9 k9.length y9] 28))=W1 at *;obtain ⟨f0,f1,f2,f3,f4,f5,f6,f7,f8,f9⟩:=zas HKB.out;go_wp2_with fail;refine HC1.out.mono ?_;rintro e w2 ⟨rfl,hb⟩;have HB2:=hX (HA.out.trans (hb.mono HA.out.size));have HKB2:=hX (HKB.out.below hb HKB.out.lt);have HD2:=hX (HD.out.below HB2.out);clear hb f0 f1 f2 f3 f4 f5 f6 f7 f8 f9 HC1
    cases b with
    | true=>
     have HD3:=hX ((HY.out rfl).below HB2.out);go_wp2_with fail;go_roundg (ks.length - (j+1))
     case measure=>omega
     case rel=>exact ⟨i,j+1,rfl,by go_num,rfl,by omega,by omega,HD3⟩
    | false=>
     have HD3:=hX (HNO.out w2 _ _ _ _ _ _ _ _ _ _ rfl rfl HB2.out);unfold zje at HD3;obtain ⟨f0,f1,f2,f3,f4,f5,f6,f7,f8,f9⟩:=zas HKB2.out;obtain ⟨x0,e0⟩:=HEX.out 0 (by omega);have d0:w2.cell? ⟨g,i*10,none⟩=some x0:=(HB2.out.cell (p:=⟨g,i*10,none⟩) hgl).trans e0;have z0:w2.frozen? ⟨g,i*10,none⟩=false:=(HB2.out.frozen (p:=⟨g,i*10,none⟩) hgl).trans (HFZ.out _);obtain ⟨x1,e1⟩:=HEX.out 1 (by omega);have d1:w2.cell? ⟨g,i*10+1,none⟩=some x1:=(HB2.out.cell (p:=⟨g,i*10+1,none⟩) hgl).trans e1;have z1:w2.frozen? ⟨g,i*10+1,none⟩=false:=(HB2.out.frozen (p:=⟨g,i*10+1,none⟩) hgl).trans (HFZ.out _);obtain ⟨x2,e2⟩:=HEX.out 2 (by omega);have d2:w2.cell? ⟨g,i*10+2,none⟩=some x2:=(HB2.out.cell (p:=⟨g,i*10+2,none⟩) hgl).trans e2;have z2:w2.frozen? ⟨g,i*10+2,none⟩=false:=(HB2.out.frozen (p:=⟨g,i*10+2,none⟩) hgl).trans (HFZ.out _);obtain ⟨x3,e3⟩:=HEX.out 3 (by omega);have d3:w2.cell? ⟨g,i*10+3,none⟩=some x3:=(HB2.out.cell (p:=⟨g,i*10+3,none⟩) hgl).trans e3;have z3:w2.frozen? ⟨g,i*10+3,none⟩=false:=(HB2.out.frozen (p:=⟨g,i*10+3,none⟩) hgl).trans (HFZ.out _);obtain ⟨x4,e4⟩:=HEX.out 4 (by omega);have d4:w2.cell? ⟨g,i*10+4,none⟩=some x4:=(HB2.out.cell (p:=⟨g,i*10+4,none⟩) hgl).trans e4;have z4:w2.frozen? ⟨g,i*10+4,none⟩=false:=(HB2.out.frozen (p:=⟨g,i*10+4,none⟩) hgl).trans (HFZ.out _);obtain ⟨x5,e5⟩:=HEX.out 5 (by omega)
     have d5:w2.cell? ⟨g,i*10+5,none⟩=some x5:=(HB2.out.cell (p:=⟨g,i*10+5,none⟩) hgl).trans e5;have z5:w2.frozen? ⟨g,i*10+5,none⟩=false:=(HB2.out.frozen (p:=⟨g,i*10+5,none⟩) hgl).trans (HFZ.out _);obtain ⟨x6,e6⟩:=HEX.out 6 (by omega);have d6:w2.cell? ⟨g,i*10+6,none⟩=some x6:=(HB2.out.cell (p:=⟨g,i*10+6,none⟩) hgl).trans e6;have z6:w2.frozen? ⟨g,i*10+6,none⟩=false:=(HB2.out.frozen (p:=⟨g,i*10+6,none⟩) hgl).trans (HFZ.out _);obtain ⟨x7,e7⟩:=HEX.out 7 (by omega);have d7:w2.cell? ⟨g,i*10+7,none⟩=some x7:=(HB2.out.cell (p:=⟨g,i*10+7,none⟩) hgl).trans e7;have z7:w2.frozen? ⟨g,i*10+7,none⟩=false:=(HB2.out.frozen (p:=⟨g,i*10+7,none⟩) hgl).trans (HFZ.out _);obtain ⟨x8,e8⟩:=HEX.out 8 (by omega);have d8:w2.cell? ⟨g,i*10+8,none⟩=some x8:=(HB2.out.cell (p:=⟨g,i*10+8,none⟩) hgl).trans e8;have z8:w2.frozen? ⟨g,i*10+8,none⟩=false:=(HB2.out.frozen (p:=⟨g,i*10+8,none⟩) hgl).trans (HFZ.out _);obtain ⟨x9,e9⟩:=HEX.out 9 (by omega);have d9:w2.cell? ⟨g,i*10+9,none⟩=some x9:=(HB2.out.cell (p:=⟨g,i*10+9,none⟩) hgl).trans e9;have z9:w2.frozen? ⟨g,i*10+9,none⟩=false:=(HB2.out.frozen (p:=⟨g,i*10+9,none⟩) hgl).trans (HFZ.out _);clear e0 e1 e2 e3 e4 e5 e6 e7 e8 e9;go_upto_region 10 with fail
     generalize ((((((((((w2.setCell ⟨g,i*10,none⟩ (.int .i64 k0)).setCell ⟨g,i*10+1,none⟩ (.int .i64 k1)).setCell ⟨g,i*10+2,none⟩ (.string k2)).setCell ⟨g,i*10+3,none⟩ (.string k3)).setCell ⟨g,i*10+4,none⟩ (.string k4)).setCell ⟨g,i*10+5,none⟩ (.slice Y5 k5.length y5)).setCell ⟨g,i*10+6,none⟩ (.slice Y6 k6.length y6)).setCell ⟨g,i*10+7,none⟩ (.int .i64 k7)).setCell ⟨g,i*10+8,none⟩ (.int .i64 k8)).setCell ⟨g,i*10+9,none⟩ (.slice Y9 k9.length y9))=W3 at *;clear f0 f1 f2 f3 f4 f5 f6 f7 f8 f9 d0 z0 d1 z1 d2 z2 d3 z3 d4 z4 d5 z5 d6 z6 d7 z7 d8 z8 d9 z9;go_wp2_with fail;go_roundg (ks.length - (j+1))
     case measure=>omega
     case rel=>exact ⟨i+1,j+1,by go_num,by go_num,rfl,by omega,by omega,HD3⟩
   ·obtain rfl:j=ks.length:=by omega
    obtain ⟨W,hcl,hi,hil,bs',hro,hout⟩:=HD.out.end_;have HRO:=hX hro;have HOU:=hX hout;have HI:=hX hi;have hcl2:∀ty,(Builtin.clear_ #[26] ty #[.slice (some ⟨g,i*10,none⟩) (ks.length - i) (c - i)]).run Tryz.prog wr = .ok (.tuple #[]) W:=fun ty=>hcl ty _;have hne:¬c=i:=by omega
    have hic:i≤c:=by omega
    have hin:i≤ks.length:=by omega
    clear hcl hro hout hi;go_wp2_with fail;go_ret;exact ⟨_,_,bs',by rw[←HI.out];rfl,by rw[←HI.out];exact HRO.out,HOU.out⟩
end Go.Proofs.YtplkbdncgkgppaaGreatDoor.Qry
end
section
namespace Go.Proofs.YtplkbdncgkgppaaGreatDoor.Qry
open Go.RowKit Words Tree QryP Kit Owned Sch
theorem zzr {w:World} {B g k n cap s:Nat} {e:TypeId} {y:List Value} (h:w.ownsRow B e s (.slice (some ⟨g,0,none⟩) k cap) k y) (hk:k≤n) (hn:n≤cap):∃z,w.ownsRow B e s (.slice (some ⟨g,0,none⟩) n cap) n (y++z):=by
 obtain ⟨hl,h | ⟨g',cap',cur,hv,hB,hg,h1,h2,h3,ht⟩⟩:=h
 ·simp at h
 injection hv with e1 e2 e3;injection e1 with e1;injection e1 with e1 _ _;subst e1 e3;have hle:k*s≤n*s:=Nat.mul_le_mul_right s hk;have hle2:n*s≤cap*s:=Nat.mul_le_mul_right s hn;refine ⟨(cur.toList.take (n*s)).drop (k*s),?_,.inr ⟨g,cap,cur,rfl,hB,hg,hn,h2,h3,?_⟩⟩
 ·rw[List.length_append,List.length_drop,List.length_take,hl,Array.length_toList,h3];omega
 ·have:(cur.toList.take (n*s)).take (k*s)=y:=by rw[List.take_take,Nat.min_eq_left hle,ht]
  rw[←this,List.take_append_drop]
theorem ztp (B:Nat) (l1 l2:List QT) (q:QT) (v:Value) (bs:List Nat) (w:World) (hr:zeb w B v (l1++q::l2) bs) (hnd:bs.Nodup) (i:Nat) (hi:l1.length=i) (hB:B≤w.heap.size) :
 Calls Tryz.prog 144 #[v,.int .i64 i,.int .i64 ((i:Int)+1)] w (ya5 B (l1++l2) bs w):=by
 obtain ⟨hn,hm⟩:∃m,l2.length=m:=⟨_,rfl⟩
 have hlen:(l1++q::l2).length=i+1+hn:=by simp;omega
 obtain ⟨xs,bk,ho,hx,rfl⟩:=hr;rw[hlen] at ho;obtain ⟨g,cap,rfl,hgB,hgl⟩:=ho.form (by omega)
 obtain ⟨hcl,hcm⟩:i+1+hn≤cap∧cap≤maxLen:=by
  rcases ho.2 with ⟨h,_⟩ | ⟨g',cap',cur,hv,_,_,h3,h4,_⟩
  ·cases h
  ·injection hv with _ _ h5;subst h5;exact ⟨h3,h4⟩
 have hkm:cap≤9223372036854775807:=by unfold maxLen at hcm;omega
 obtain ⟨y1,r,b1,c,rfl,rfl,hy,hr⟩:=OQL.cut hx;rw[OQL] at hr;obtain ⟨us,y2,bq,b2,rfl,rfl,hq,hz⟩:=hr;have hy1:y1.length=i*10:=by rw[hy.len,hi]
 have hy2:y2.length=hn*10:=by rw[hz.len,hm]
 replace hnd:(g::(b1++(bq++b2))).Nodup:=hnd
 have hcut:w.drew.ownsRow B 28 10 (.slice (some ⟨g,0,none⟩) i cap) i y1:=by
  obtain ⟨hl,h | ⟨g',cap',cur,hv,hB',hg,h1,h2,h3,ht⟩⟩:=ho
  ·exact absurd h.2 (by omega)
  injection hv with e1 e2 e3;injection e1 with e1;injection e1 with e1 _ _;subst e1 e3;refine ⟨hy1,.inr ⟨g,cap,cur,rfl,hB',hg,by omega,h2,h3,?_⟩⟩;have:cur.toList.take (i*10)=(cur.toList.take ((i+1+hn)*10)).take (i*10):=by rw[List.take_take];congr 1;omega
  rw[this,ht,←hy1,List.take_left]
 obtain ⟨A2,hA2,hsrc⟩:∃A:Addr,(if cap=i+1 then (some ⟨g,0,none⟩:Option Addr) else some ⟨g,(i+1)*10,none⟩)=some A∧∀t u,y2[t]?=some u→w.drew.cell? (A.add t)=some u:=by
  by_cases h:cap=i+1
  ·refine ⟨_,if_pos h,fun t u hu=>?_⟩;have h0:y2=[]:=List.eq_nil_of_length_eq_zero (by rw[hy2];omega);rw[h0] at hu;simp at hu
  ·refine ⟨_,if_neg h,fun t u hu=>?_⟩
   have:=ho.cells (g:=g) rfl ((i+1)*10+t) u (by
    have hu10:=hq.len
    rw[List.getElem?_append_right (by omega),hy1,List.getElem?_append_right (by omega),hu10,show (i+1)*10+t - i*10 - 10=t by omega];exact hu)
   rw[zc5] at this;rw[←this];show w.cell? _=w.cell? _;congr 1
   unfold Addr.add;split
   ·simp_all
   ·rfl
 obtain ⟨j0,hj1,hj2,hj3,hj4⟩:=info_parts zs0;have h1s:∀u∈y2,u.oneCell'=true:=zcy (hz.at_);obtain ⟨w1,hap0,ho1,hg1⟩:=run_append_fits (P:=Tryz.prog) w.drew B 26 26 28 j0 10 Tryz.underlying26 hj1 hj3 g i cap y1 hcut A2 hn (cap - (i+1)) y2 hy2 hsrc h1s (by omega);obtain ⟨z3,ho2⟩:=zzr ho1 (n:=i+1+hn) (by omega) hcl;obtain ⟨W,hcw,hoW,hgW⟩:=zox (i:=i+hn) ho2 (by rw[List.length_append];omega) 1 (by omega) (by omega);have hcl2:∀ty,(Builtin.clear_ #[26] ty #[.slice (some ⟨g,(i+hn)*10,none⟩) (i+1+hn - (i+hn)) (cap - (i+hn))]).run Tryz.prog w1 = .ok (.tuple #[]) W:=fun ty=>by rw[show i+1+hn - (i+hn)=1 by omega];exact hcw ty _
 have hne:¬cap=i+hn:=by omega
 have h1:¬cap<i+1+hn:=by omega
 have hi1:(0:Int)≤(i:Int):=by omega
 have hic:i≤cap:=by omega
 have hi2:(i:Int)+1≤(i:Int)+1+(hn:Int):=by omega
 have hi4:(0:Int)≤(i:Int)+1:=by omega
 have hi3:i+1≤i+1+hn:=by omega
 have HAP:=hX hap0;have HG:Hid (w.grownBy W (some g)):=hX ((show w.grownBy w1 (some g) from ⟨hg1.os,hg1.tape,hg1.output,hg1.size,hg1.block⟩).trans hgW);have HQ1:=hX hy;have HQ2:=hX hz;have HND:=hX hnd;have HOW:=hX hoW;have HA2:=hX hA2;have HLE:Hid ((l1++l2).length=i+hn):=hX (by simp;omega);clear hap0 hg1 hgW hy hz hnd hoW hcw ho1 ho2 ho hcut hsrc h1s hx hq hj1 hj2 hj3 hj4 hy1 hy2 hlen;go_enter Tryz.func144,Tryz.ntmps144;go_upto_region 5 with fail;refine wp_region_held_drew (S:=fun _=>True) (by kernel_rfl) trivial (fun _=>?_);refine' tk 0 (by simp only[tkD,tkE,tkG];rfl) (by kernel_rfl) (by exact fun _ _ _ h=>h) (by rfl) trivial (by intro V hSw;clear hSw;go_simp;try with_reducible rfl) ?_;try simp only[Act.put,tkA,tkB,tkC]
 refine' tk 1 (by simp only[tkD,tkE,tkG];rfl) (by kernel_rfl) (by exact fun _ _ _ h=>h) (by rfl) trivial (by intro V hSw;clear hSw;go_simp;try with_reducible rfl) ?_;try simp only[Act.put,tkA,tkB,tkC]
 refine' tk 2 (by simp only[tkD,tkE,tkG];rfl) (by kernel_rfl) (by exact fun _ _ _ h=>h) (by rfl) trivial (by intro V hSw;clear hSw;go_simp;try with_reducible rfl) ?_;try simp only[Act.put,tkA,tkB,tkC]
 refine' tk 3 (by simp only[tkD,tkE,tkG];rfl) (by kernel_rfl) (by exact fun _ _ _ h=>h) (by rfl) trivial (by intro V hSw;clear hSw;go_simp;try with_reducible rfl) ?_;try simp only[Act.put,tkA,tkB,tkC]
 refine' tk 4 (by simp only[tkD,tkE,tkG];rfl) (by kernel_rfl) (by exact fun _ _ _ h=>h) (by rfl) trivial (by intro V hSw;clear hSw;go_simp;try with_reducible rfl) ?_;try simp only[Act.put,tkA,tkB,tkC]
 have hsl:(if cap=i+1 then (some ⟨g,0,none⟩:Option Addr) else some ⟨g,(i+1)*10,none⟩)=some A2:=HA2.out;refine' tk 5 (by simp only[tkD,tkE,tkG];rfl) (by kernel_rfl) (by exact fun _ _ _ h=>h) (by rfl) trivial (by intro V hSw;clear hSw;go_simp;try with_reducible rfl) ?_;try simp only[Act.put,tkA,tkB,tkC]
 refine wpAnyH_ready (rs:=[6]) (by kernel_rfl) (by simp) ?_;refine' AllReadyH.cons (by simp only[tkD,tkE,tkG];rfl) (fun K hK=>?_) AllReadyH.nil;rw[if_pos (by rfl)];refine Lib.wp_append_run _ (.tmp 22) (.tmp 25) 26 26 rfl _ _ rfl rfl _ _ HAP.out ?_;refine hK.out _ _ trivial (fun _=>?_);clear hK K;try simp only[Act.put,tkA,tkB,tkC]
 refine wpAnyH_ready (rs:=[7]) (by kernel_rfl) (by simp) ?_;refine' AllReadyH.cons (by simp only[tkD,tkE,tkG];rfl) (fun K hK=>?_) AllReadyH.nil;go_simp;refine hK.out _ _ trivial (fun _=>?_);clear hK K;try simp only[Act.put,tkA,tkB,tkC]
 refine wpAnyH_done (by kernel_rfl) ?_ _;go_wp2_with fail;go_ret;have hng:∀x∈b1++(bq++b2),x≠g:=fun x hx e=>(List.nodup_cons.1 HND.out).1 (e ▸ hx);refine ⟨some ⟨g,0,none⟩,cap,g::(b1++b2),by rw[HLE.out];rfl,⟨y1++y2,b1++b2,by rw[HLE.out];exact HOW.out,(HQ1.out.grown HG.out (fun x hx e=>hng x (by simp[hx]) (by injection e with e;exact e.symm))).join (HQ2.out.grown HG.out (fun x hx e=>hng x (by simp[hx]) (by injection e with e;exact e.symm))),rfl⟩,⟨?_,fun x hx=>.inl ?_,?_⟩⟩
 ·exact HND.out.sublist (List.Sublist.cons_cons _ ((List.Sublist.refl _).append (List.sublist_append_right _ _)))
 ·simp only[List.mem_cons,List.mem_append] at hx;simp only[Value.ownBlock,Option.toList_some,List.mem_cons,List.mem_append,List.not_mem_nil,or_false];rcases hx with hx | hx | hx
  ·exact .inl hx
  ·exact .inr (.inl hx)
  ·exact .inr (.inr (.inr hx))
 ·exact But.grown HG.out (fun r e=>by injection e with e;rw[←e];simp[Value.ownBlock])
def yel (w:World) (e:Ending) (w':World):Prop:=∃v,e = .returned v∧w'.ownsRow w.heap.size 28 10 v 0 []∧Below w.heap.size w w'
theorem zws (n:Nat) (w:World) (hn:n≤1000000):Calls Tryz.prog 164 #[.slice none 0 0,.int .i64 n] w (yel w):=by
 obtain ⟨j0,hj1,hj2,hj3,hj4⟩:=info_parts zs0;rcases Nat.eq_zero_or_pos n with h0 | h0
 ·subst h0;clear hj1 hj2 hj3 hj4;go_enter Tryz.func164,Tryz.ntmps164;go_wp2_with fail;go_ret;exact ⟨_,rfl,World.ownsRow_nil _ _ _ _,Below.refl _ _⟩
 ·have h1:(0:Int)<(n:Int):=by omega
  have h2:¬((n:Int)<0):=by omega
  have hap:=Lib.run_append_nil_zeros (P:=Tryz.prog) w 26 3 26 28 j0 _ .i64 .i64 Tryz.underlying26 Tryz.underlying3 hj1 hj2 n h0 (by rw[hj3];decide) (by omega) (by rw[hj4];omega);have HAP:=hX hap;clear hap;go_enter Tryz.func164,Tryz.ntmps164;go_wp2_with (at_builtin;refine Lib.wpList_append_run _ rfl (.tmp 20) (.tmp 21) 26 3 rfl _ _ rfl rfl _ _ HAP.out ?_);go_ret;have hsz:∀a b:Nat,(Builtin.zeroCells #[Value.int IntKind.i64 0,Value.int IntKind.i64 0,Value.string { data:=#[] },Value.string { data:=#[] },Value.string { data:=#[] },Value.slice none 0 0,Value.slice none 0 0,Value.int IntKind.i64 0,Value.int IntKind.i64 0,Value.slice none 0 0] a++Builtin.zeroCells #[Value.int IntKind.i64 0,Value.int IntKind.i64 0,Value.string { data:=#[] },Value.string { data:=#[] },Value.string { data:=#[] },Value.slice none 0 0,Value.slice none 0 0,Value.int IntKind.i64 0,Value.int IntKind.i64 0,Value.slice none 0 0] b).size=(a+b)*10:=fun a b=>by rw[Array.size_append,size_zeroCells,size_zeroCells];show a*10+b*10=_;omega
  have hge:=grownCap_ge w n 0 28;refine ⟨_,rfl,⟨rfl,.inr ⟨w.heap.size,_,_,rfl,Nat.le_refl _,heap_alloc_new w _,Nat.zero_le _,grownCap_le_maxLen w n 0 _ (by unfold maxLen;omega),?_,rfl⟩⟩,((Below.refl _ w).alloc (Nat.le_refl _) _).drew⟩;rw[hsz];congr 1
  omega
theorem zqv (gp:Nat) (A1 A2 A3:Option Addr) (n1 n2 n3 c1 c2 c3:Nat) (x1 x2 x3:List Value) (w:World) (hb:Blk w gp 26 #[.slice A1 n1 c1,.slice A2 n2 c2,.slice A3 n3 c3]) (h1:Reads w w.heap.size 10 A1 n1 x1) (h2:Reads w w.heap.size 10 A2 n2 x2) (h3:Reads w w.heap.size 10 A3 n3 x3)
 (o1:∀u∈x1,u.oneCell'=true) (o2:∀u∈x2,u.oneCell'=true) (o3:∀u∈x3,u.oneCell'=true) (hn:n1+n2+n3≤1000000) :
 Calls Tryz.prog 140 #[.slice (some ⟨gp,0,none⟩) 3 3] w (ya4 (n1+n2+n3) (x1++(x2++x3)) w):=by
 have HB:=hX hb
 have HG:Hid (Calls Tryz.prog 164 #[.slice none 0 0,.int .i64 ((n1:Int)+(n2:Int)+(n3:Int))] w (yel w)):=hX (by
  have h:=zws (n1+n2+n3) w hn;rw[show ((n1+n2+n3:Nat):Int)=(n1:Int)+(n2:Int)+(n3:Int) by omega] at h
  exact h)
 have H1:=hX (And.intro h1 o1);have H2:=hX (And.intro h2 o2);have H3:=hX (And.intro h3 o3);obtain ⟨j0,hj1,hj2,hj3,hj4⟩:=info_parts zs0;have HJ:=hX (And.intro hj1 (And.intro hj2 (And.intro hj3 hj4)));have q0:w.cell? ⟨gp,0,none⟩=some (.slice A1 n1 c1):=hb.cell 0;have q1:w.cell? ⟨gp,1,none⟩=some (.slice A2 n2 c2):=hb.cell 1;have q2:w.cell? ⟨gp,2,none⟩=some (.slice A3 n3 c3):=hb.cell 2;clear hb h1 h2 h3 o1 o2 o3 hj1 hj2 hj3 hj4;go_enter Tryz.func140,Tryz.ntmps140;go_wp2_with fail;go_loopg [3,11] 3 (fun m vs vi wr=>w=wr∧∃k s:Nat,vi = .int .i64 k∧vs = .int .i64 s∧m=3 - k∧(k=0∧s=0∨k=1∧s=n1∨k=2∧s=n1+n2∨k=3∧s=n1+n2+n3))
 case atStart=>exact ⟨rfl,0,0,rfl,rfl,rfl,.inl ⟨rfl,rfl⟩⟩
 case round=>
  obtain ⟨rfl,k,s,rfl,rfl,rfl,hk⟩:=hrel
  rcases hk with ⟨rfl,rfl⟩ | ⟨rfl,rfl⟩ | ⟨rfl,rfl⟩ | ⟨rfl,rfl⟩
  ·go_wp2_with fail;go_roundg 2
   case measure=>omega
   case rel=>exact ⟨rfl,1,n1,rfl,by go_num,rfl,.inr (.inl ⟨rfl,rfl⟩)⟩
  ·go_wp2_with fail;go_roundg 1
   case measure=>omega
   case rel=>exact ⟨rfl,2,s+n2,rfl,by go_num,rfl,.inr (.inr (.inl ⟨rfl,rfl⟩))⟩
  ·go_wp2_with fail;go_roundg 0
   case measure=>omega
   case rel=>exact ⟨rfl,3,n1+n2+n3,rfl,by go_num,rfl,.inr (.inr (.inr ⟨rfl,rfl⟩))⟩
  ·go_wp2_with fail;refine HG.out.mono ?_;rintro e w1 ⟨v,rfl,ho,hb⟩;have HO:=hX ho;have HB1:=hX hb;have q0':w1.cell? ⟨gp,0,none⟩=some (.slice A1 n1 c1):=(HB.out.below hb HB.out.lt).cell 0;clear ho hb q0 q1 q2;go_upto_region 11 with fail;clear q0';go_loopg [6,27] 3 (fun m va vi wr=>∃(k n:Nat) (xs:List Value),vi = .int .i64 k∧m=3 - k∧Hid (Below w.heap.size w wr)∧Hid (wr.ownsRow w.heap.size 28 10 va n xs)∧(k=0∧n=0∧xs=[]∨k=1∧n=n1∧xs=x1∨k=2∧n=n1+n2∧xs=x1++x2∨k=3∧n=n1+n2+n3∧xs=x1++(x2++x3)))
   case atStart=>exact ⟨0,0,[],rfl,rfl,HB1,HO,.inl ⟨rfl,rfl,rfl⟩⟩
   case round=>
    clear HB1 HO;obtain ⟨k,n,xs,rfl,rfl,HW,HO,hk⟩:=hrel;have HBg:=hX (HB.out.below HW.out HB.out.lt);have q0:wr.cell? ⟨gp,0,none⟩=some (.slice A1 n1 c1):=HBg.out.cell 0;have q1:wr.cell? ⟨gp,1,none⟩=some (.slice A2 n2 c2):=HBg.out.cell 1;have q2:wr.cell? ⟨gp,2,none⟩=some (.slice A3 n3 c3):=HBg.out.cell 2;have hww:=HW.out.size;obtain ⟨hj1,hj2,hj3,hj4⟩:=HJ.out
    rcases hk with ⟨rfl,hn,hx⟩ | ⟨rfl,hn,hx⟩ | ⟨rfl,hn,hx⟩ | ⟨rfl,hn,hx⟩
    ·go_wp2_with (at_builtin;refine zao _ rfl (.tmp 31) (.tmp 32) 26 rfl w.heap.size 28 j0 _ 10 152 Tryz.underlying26 hj1 hj2 hj3 hj4 rfl (by decide) _ n xs rfl HO.out wr.heap.size A1 n1 c1 x1 rfl ((H1.out.1.below HW.out).more hww) H1.out.2 ?d3 ?d4 ?d5 ?_);case d3=>unfold maxLen;omega
     case d4=>omega
     case d5=>exact hww
     intro v' w4 ho hg _;have HO4:=hX ho;have HW4:=hX (HW.out.grown hg hww (fun r e=>(HO.out.lt r e).1));subst hx;clear ho hg q0 q1 q2 hj1 hj2 hj3 hj4;go_wp2_with fail;go_roundg 2
     case measure=>omega
     case rel=>exact ⟨1,_,_,by go_num,rfl,HW4,HO4,.inr (.inl ⟨rfl,by omega,rfl⟩)⟩
    ·go_wp2_with (at_builtin;refine zao _ rfl (.tmp 31) (.tmp 32) 26 rfl w.heap.size 28 j0 _ 10 152 Tryz.underlying26 hj1 hj2 hj3 hj4 rfl (by decide) _ n xs rfl HO.out wr.heap.size A2 n2 c2 x2 rfl ((H2.out.1.below HW.out).more hww) H2.out.2 ?d3 ?d4 ?d5 ?_);case d3=>unfold maxLen;omega
     case d4=>omega
     case d5=>exact hww
     intro v' w4 ho hg _;have HO4:=hX ho;have HW4:=hX (HW.out.grown hg hww (fun r e=>(HO.out.lt r e).1));subst hx;clear ho hg q0 q1 q2 hj1 hj2 hj3 hj4;go_wp2_with fail;go_roundg 1
     case measure=>omega
     case rel=>exact ⟨2,_,_,by go_num,rfl,HW4,HO4,.inr (.inr (.inl ⟨rfl,by omega,rfl⟩))⟩
    ·go_wp2_with (at_builtin;refine zao _ rfl (.tmp 31) (.tmp 32) 26 rfl w.heap.size 28 j0 _ 10 152 Tryz.underlying26 hj1 hj2 hj3 hj4 rfl (by decide) _ n xs rfl HO.out wr.heap.size A3 n3 c3 x3 rfl ((H3.out.1.below HW.out).more hww) H3.out.2 ?d3 ?d4 ?d5 ?_);case d3=>unfold maxLen;omega
     case d4=>omega
     case d5=>exact hww
     intro v' w4 ho hg _;have HO4:=hX ho;have HW4:=hX (HW.out.grown hg hww (fun r e=>(HO.out.lt r e).1));subst hx;clear ho hg q0 q1 q2 hj1 hj2 hj3 hj4;go_wp2_with fail;go_roundg 0
     case measure=>omega
     case rel=>exact ⟨3,_,_,by go_num,rfl,HW4,HO4,.inr (.inr (.inr ⟨rfl,by omega,by simp⟩))⟩
    ·clear hj1 hj2 hj3 hj4;subst hn hx;obtain ⟨A,c,hv⟩:=zew HO.out;subst hv;go_wp2_with fail;go_ret;exact ⟨A,c,rfl,HO.out,HW.out⟩
end Go.Proofs.YtplkbdncgkgppaaGreatDoor.Qry
end
