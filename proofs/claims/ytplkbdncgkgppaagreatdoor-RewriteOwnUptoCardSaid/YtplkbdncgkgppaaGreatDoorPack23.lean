/- Lemmas that the last text leans on. -/
import Derived.Test.YtplkbdncgkgppaaGreatDoorTake
import Derived.Test.YtplkbdncgkgppaaGreatDoorPack21
import Derived.Test.YtplkbdncgkgppaaGreatDoorPack22
import Derived.Test.YtplkbdncgkgppaaGreatDoorPack3
import Derived.Test.YtplkbdncgkgppaaGreatDoorPack4
import Derived.Test.YtplkbdncgkgppaaGreatDoorPack7
import Derived.Test.YtplkbdncgkgppaaGreatDoorPack18
import Derived.Test.YtplkbdncgkgppaaGreatDoorPack6
import Derived.Test.YtplkbdncgkgppaaGreatDoorPack8
set_option linter.all false
set_option maxRecDepth 100000
set_option maxHeartbeats 8000000
section
namespace Go.Proofs.YtplkbdncgkgppaaGreatDoor.Qry
open Go.RowKit Words Tree QryP Kit Sch SchP
theorem zlr {f:ByteArray} (h:zbx f=true):f.toList.isEmpty=false:=by
 have:=ybc h;rw[ByteArray.toList_eq]
 cases hf:f.data.toList with
 | nil=>exact absurd hf this
 | cons=>rfl
theorem zgg {u:Int}:∀{ks:List QT},za5 u ks=true→∀k∈ks,zba u k=true
 | [],_,k,h=>by cases h
 | a::l,hf,k,h=>by
  rw[za5,Bool.and_eq_true] at hf;rcases List.mem_cons.1 h with rfl | h
  ·exact hf.1
  ·exact zgg hf.2 k h
theorem yce {u:Int} {k:QT} (h:zba u k=true):oc k=0∨oc k=1∨oc k=2∨oc k=3∨oc k=4:=by
 rw[zfx,Bool.and_eq_true] at h;have:=yar h.1;by_cases hu:u=8
 ·have:=this.1 hu;omega
 ·have:=this.2 hu;omega
mutual
def ydd:QT→Bool
 | .mk k _ _ _ _ _ _ _ _ ks=>(k == 1 || k == 2 || k == 3 || k == 4 || k == 8 || k == 9) && yfd ks
def yfd:List QT→Bool
 | []=>true
 | q::qs=>ydd q && yfd qs
end
theorem zvw:∀{ks:List QT},yfd ks=true→∀k∈ks,ydd k=true
 | [],_,k,h=>by cases h
 | a::l,hf,k,h=>by
  rw[yfd,Bool.and_eq_true] at hf;rcases List.mem_cons.1 h with rfl | h
  ·exact hf.1
  ·exact zvw hf.2 k h
theorem zoh:∀(n:Nat) (q:QT) (B b:Nat) (l:List UInt8) (vs:List Value) (w:World) (under:Int),q.sz≤n→zba under q=true→ydd q=true→Ok q→T.AtL bare w (fun g=>g<B) (cells q) vs→Buf B b l w→
 (∀W,Below B w W→Lib.TabIs Tryz.prog W "internal/strconv.uint64pow10" .u64 Lib.pow10Tab)→l.length+(zbp zan q).length+100≤ze0→
 Calls Tryz.prog 55 #[.pointer (some ⟨b,0,none⟩),.agg vs.toArray] w (zk5 B b l (zbp zan q) w)
 | n,.mk k o f t u lo hi bo op ks,B,b,l,vs,w,under,hn,hf,hw,hok,ha,hb,hp,hl=>by
  have hn1:1≤n:=by have:=QT.sz_pos (.mk k o f t u lo hi bo op ks);omega
  rw[zfx,Bool.and_eq_true] at hf;obtain ⟨hown,hkids⟩:=hf;replace hkids:za5 k ks=true:=hkids;rw[ydd,Bool.and_eq_true] at hw;obtain ⟨hk,F1,F2,F3,F4,F5,F6,F7,F8,F9,F10,F11,F12,F13⟩:=zjx hown
  have hkk:∀q∈ks,Ok q:=by
   cases hok with
   | mk _ _ _ _ _ _ _ _ _ _ hk=>exact hk
  obtain ⟨vl,vh,vk,rfl,hvl,hvh,hvk⟩:=zal ha;obtain ⟨A1,c1,rfl,_,_,hr1⟩:=zau hvl;obtain ⟨A2,c2,rfl,_,_,hr2⟩:=zau hvh;obtain ⟨A,cA,rfl⟩:=zms hvk
  refine zvs ⟨hb,hr1,hr2,hvk,hp,hl,hok,fun q hq=>yce (zgg hkids q hq),fun q hq l' vs' W hW hau hbu hlen=>
   zoh (n - 1) q B b l' vs' W k (by have:=QT.sz_kid (kd:=k) (oc:=o) (f:=f) (t:=t) (u:=u) (lo:=lo) (hi:=hi) (b:=bo) (op:=op) hq;omega) (zgg hkids q hq) (zvw hw.2 q hq) (hkk q hq) hau hbu (fun V hV=>hp V (hW.trans hV)) hlen⟩ ?_
  have h2:=hw.1;simp only[Bool.or_eq_true,beq_iff_eq] at h2;rcases h2 with ((((h | h) | h) | h) | h) | h
  ·exact .inl (.inl h)
  ·exact .inl (.inr h)
  ·exact .inr (.inl ⟨.inl h,zlr (F1 (by omega))⟩)
  ·exact .inr (.inl ⟨.inr h,zlr (F1 (by omega))⟩)
  ·exact .inr (.inr (.inl ⟨h,F2 (by omega)⟩))
  ·exact .inr (.inr (.inr ⟨h,F2 (by omega)⟩))
def StrB (s:ByteArray) (w:World) (e:Ending) (w':World):Prop:=e = .returned (.string s)∧Below w.heap.size w w'
theorem zy8 (q:QT) (vs:List Value) (w:World) (hfew:ydd q=true) (hok:Ok q) (ha:T.AtL bare w (fun g=>g<w.heap.size) (cells q) vs) (hp:∀W,Below w.heap.size w W→Lib.TabIs Tryz.prog W "internal/strconv.uint64pow10" .u64 Lib.pow10Tab) (hl:(zbp zan q).length+100≤ze0) :
 Calls Tryz.prog 33 #[.agg vs.toArray] w (StrB (str (zh6 zan q)) w):=by
 have HF:=hX (fun (W:World) (hW:Below w.heap.size w W)=>zta q vs W hok (zch ha hW));have HWR:=hX (fun (hf:zba 0 q=true) (b:Nat) (W:World) (hW:Below w.heap.size w W) (hb:Buf w.heap.size b [] W)=>zoh q.sz q w.heap.size b [] vs W 0 (Nat.le_refl _) hf hfew hok (AtL.below ha hW (fun g hg=>hg)) hb (fun V hV=>hp V (hW.trans hV)) (by simpa using hl))
 obtain ⟨r,hr⟩:∃r,zba 0 q=r:=⟨_,rfl⟩
 have HQ:Hid (zh6 zan q=if r then zbp zan q else []):=hX (by rw[zh6,hr]);rw[hr] at HF HWR;generalize zh6 zan q=tq at *;generalize zbp zan q=wq at *;clear hr;obtain ⟨kd,oc,f,t,u,lo,hi,b,op,ks⟩:=q;obtain ⟨vl,vh,vk,rfl,hvl,hvh,hvk⟩:=zal ha;obtain ⟨A1,c1,rfl,_⟩:=zau hvl;obtain ⟨A2,c2,rfl,_⟩:=zau hvh;obtain ⟨A,cA,rfl⟩:=zms hvk;clear ha hvl hvh hvk hok hp hl hfew;go_enter Tryz.func33,Tryz.ntmps33;go_wp2_with fail;have hb0:Below w.heap.size w (w.alloc (.cells #[.int .i64 kd,.int .i64 oc,.string f,.string t,.string u,.slice A1 lo.length c1,.slice A2 hi.length c2,.int .i64 b,.int .i64 op,.slice A ks.length cA] 28)):=(Below.refl _ w).alloc (Nat.le_refl _) _;refine (HF.out _ hb0).mono ?_;rintro e W1 ⟨rfl,hb⟩;have HB1:=hX (hb0.trans (hb.mono hb0.size));have hlt:w.heap.size<W1.heap.size:=by have:=hb.size;simp at this;omega
 have hne:w.heap.size≠W1.heap.size:=by omega
 obtain ⟨c0,c1',c2',c3,c4,c5,c6,c7,c8,c9⟩:=zlq ((Blk.new w _ _).below hb (by simp));clear hb hb0
 cases r with
 | false=>
  obtain rfl:tq=[]:=by have:=HQ.out;simpa using this
  go_wp2_with fail;go_ret;exact ⟨rfl,HB1.out⟩
 | true=>
  obtain rfl:wq=tq:=by have:=HQ.out;simpa using this.symm
  have HN:Hid (Buf w.heap.size W1.heap.size [] (W1.alloc (.cells #[.pointer none,.slice none 0 0] 110))):=hX (.inl ⟨HB1.out.size,.slice none 0 0,Blk.new W1 _ _,⟨rfl,.inl ⟨rfl,rfl⟩⟩,by simp[Value.ownBlock]⟩);have HBA:=hX (HB1.out.alloc HB1.out.size (.cells #[.pointer none,.slice none 0 0] 110));have HWA:=hX (HWR.out rfl _ _ HBA.out HN.out);go_wp2_with fail;refine HWA.out.mono ?_;rintro e W2 ⟨rfl,hb,hw⟩;have HB2:=hX hb;have HS:=hX (Tryz.Builder_String_any_k w.heap.size W1.heap.size _ W2 hb (Nat.le_trans HBA.out.size hw.below.size));have HBW:=hX (HBA.out.trans hw.below);clear hb hw c0 c1' c2' c3 c4 c5 c6 c7 c8 c9;go_wp2_with fail;refine HS.out.mono ?_;rintro e W3 ⟨rfl,_,hb3,_⟩;have HB3:=hX (HBW.out.trans hb3);clear hb3;go_wp2_with fail;go_ret;exact ⟨by simp[str],HB3.out⟩
end Go.Proofs.YtplkbdncgkgppaaGreatDoor.Qry
end
section
namespace Go.Proofs.YtplkbdncgkgppaaGreatDoor.Qry
open Go.RowKit Words Tree QryP Kit Sch SchP Owned
theorem zr6 {I:Int→Prop}:∀{ks:List QT},zb0 I ks→∀k∈ks,zez I k
 | [],_,k,h=>by cases h
 | a::l,hf,k,h=>by
  rw[zb0] at hf;rcases List.mem_cons.1 h with rfl | h
  ·exact hf.1
  ·exact zr6 hf.2 k h
theorem yfv {n:Nat} (hn:n≤5000):∀(m:Nat) (q:QT) (u:Int),q.sz≤m→Sz n q→zba u q=true→zez I64 q→Ok q:=by
 intro m
 induction m with
 | zero=>intro q u h;have:=q.sz_pos;omega
 | succ m ih=>
  intro q u hm hs hf hi;obtain ⟨k,o,f,t,uu,l,h,b,p,ks⟩:=q;rw[zfx,Bool.and_eq_true] at hf;obtain ⟨hown,hkids⟩:=hf;replace hkids:za5 k ks=true:=hkids;have hoc:=yar hown;replace hoc:(u=8→1≤o∧o≤4)∧(u≠8→o=0):=hoc;obtain ⟨hk,_,_,_,_,_,_,_,_,_,hp1,hp2,_⟩:=zjx hown;rw[zez] at hi;obtain ⟨hil,hih,hib,hik⟩:=hi
  cases hs with
  | mk hsf hst hsu hsl hsh hsn hsk=>
  refine .mk ⟨by omega,by omega⟩ ?_ (by omega) (by omega) (by omega) ⟨by omega,hil⟩ ⟨by omega,hih⟩ hib ?_ (by omega) fun x hx=>?_
  ·by_cases hu:u=8
   ·have:=hoc.1 hu;exact ⟨by omega,by omega⟩
   ·have:=hoc.2 hu;exact ⟨by omega,by omega⟩
  ·by_cases hk10:k=10
   ·have:=hp1 hk10;exact ⟨by omega,by omega⟩
   ·have:=hp2 hk10;exact ⟨by omega,by omega⟩
  ·refine ih x k ?_ (hsk x hx) (zgg hkids x hx) (zr6 hik x hx);have:=QT.sz_kid (kd:=k) (oc:=o) (f:=f) (t:=t) (u:=uu) (lo:=l) (hi:=h) (b:=b) (op:=p) hx;omega
mutual
theorem zka:∀q:QT,zb5 q=T.bulkL (cells q)
 | .mk k o f t u lo hi b p ks=>by rw[zlk,zb5,zls ks]
theorem zls:∀ks:List QT,zam ks=T.bulkL (zaw ks)
 | []=>by rw[zam,zaw,T.bulkL]
 | q::ks=>by rw[zam,zaw,zcc,zka q,zls ks]
end
theorem yaz {r:R} {q:QT} (h:zbf zan zbm r = .ok q):Ok q∧(zbp zan q).length+500≤ze0∧zgq q≤6∧zba 0 q=true∧zez I64 q:=by
 obtain ⟨h1,h2,h3⟩:=zuv (I:=I64) (fun r n hn=>zvb hn) ⟨by decide,by decide⟩ h;have hok:=yfv (n:=4097) (by decide) q.sz q 0 (Nat.le_refl _) (zyi h) h1 h3;have hw:=znw hok;have hm:=zyj h;rw[zka] at hm;exact ⟨hok,by unfold ze0;omega,h2,h1,h3⟩
theorem OQ.atw {w:World} {B:Nat} {q:QT} {us:List Value} {bs:List Nat} (h:OQ w B q us bs):T.AtL bare w (fun g=>g<w.heap.size) (cells q) us:=
 AtL.keep (fun _ _=>rfl) (fun g hg=>(h.mem g hg).2) h.at_
end Go.Proofs.YtplkbdncgkgppaaGreatDoor.Qry
end
section
namespace Go.Proofs.YtplkbdncgkgppaaGreatDoor.Tree
open Go.RowKit Go.WideShapes Go.ChangeShapes Words Owned
section
variable {sent:Nat→List (List Value)} {X:Type} {f:X→List T} {s:Nat} {et:TypeId} {box:Option Nat} {N:Nat}
end
end Go.Proofs.YtplkbdncgkgppaaGreatDoor.Tree
end
section
namespace Go.Proofs.YtplkbdncgkgppaaGreatDoor.Words
open Go.RowKit Go.WideShapes Go.ChangeShapes
section
variable {P:Program} (w:World)
theorem zla (base:Nat) (t ty e:TypeId) (i:TypeInfo) (z:Value) (size bytes:Nat) (ht:P.underlying t=some (.slice e)) (hi:P.info? e=some i) (hz:i.zero=some z)
 (hsize:i.size=size) (hby:i.bytes=bytes) (hzs:z.cells.size=size) (hsz:0<size)
 (v:Value) (n:Nat) (xs:List Value) (hown:w.ownsRow base e size v n xs)
 (ad:Addr) (m c:Nat) (news:List Value) (hl:news.length=m*size) (hnews:∀j u,news[j]?=some u→w.cell? (ad.add j)=some u) (h1:∀u∈news,u.oneCell'=true)
 (hm:0<m) (h63:n+m≤maxLen) (hbytes:(n+m)*bytes≤140737488355328) (hbase:base≤w.heap.size) :
 ∃v' w',(Builtin.append_ #[t,t] ty #[v,.slice (some ad) m c]).run P w = .ok v' w'∧w'.ownsRow base e size v' (n+m) (xs++news)∧w.grownBy w' v.ownBlock∧
  ((∃g cap,v = .slice (some ⟨g,0,none⟩) n cap∧v' = .slice (some ⟨g,0,none⟩) (n+m) cap)∨(v'.ownBlock=some w.heap.size∧w.grownBy w' none)):=by
 obtain ⟨v',w',hr,h2,h3,_,h5⟩:=run_append_own_at (P:=P) w base t ty e i z size bytes ht hi hz hsize hby hzs hsz v n xs hown ad m c news hl hnews h1 h63 hbytes hbase;refine ⟨v',w',hr,h2,h3,?_⟩;subst hsize hby
 rcases hown.2 with ⟨rfl,rfl⟩ | ⟨g,cap,cur,rfl,hbg,hg,hnc,hcm,hcs,htake⟩
 ·refine .inr ⟨?_,h3⟩;obtain ⟨g,cap,rfl,_,_⟩:=h2.form (by omega);rcases h5 with h5 | h5
  ·cases h5
  ·exact h5
 ·by_cases hroom:n+m≤cap
  ·have hq:=run_append_room (P:=P) w t ty e i ht hi g n cap cur hg ad m c news hl hnews h1 hroom (by rw[hl,hcs,←Nat.add_mul];exact Nat.mul_le_mul_right _ hroom);rw[hq] at hr;injection hr with hr1 hr2;exact .inl ⟨g,cap,rfl,hr1.symm⟩
  ·have hsmall:n+m≤9223372036854775807:=by simp only[maxLen] at h63;omega
   have hq:=run_append_grow (P:=P) w t ty e i z ht hi hz ⟨g,0,none⟩ n cap xs hown.1 (hown.cells (g:=g) rfl) ad m c news hl hnews (by omega) (by omega) (growslice_fits (by omega) hbytes);rw[hq] at hr;injection hr with hr1 hr2;subst hr1 hr2;exact .inr ⟨rfl,rfl,rfl,rfl,by simp,fun k hk _=>Below.heap_alloc w.drew _ k hk⟩
theorem zmu {o:Oper} {a:Act} {K:Act→World→Prop} {Q:Exit→Act→World→Prop} (s x:Operand) (t:TypeId)
 (ho:o.op = .call { callee:=.builtin .append,args:=#[s,x],argTypes:=#[t,t] })
 (base:Nat) (e:TypeId) (i:TypeInfo) (z:Value) (size bytes:Nat) (ht:P.underlying t=some (.slice e)) (hi:P.info? e=some i) (hz:i.zero=some z)
 (hsize:i.size=size) (hby:i.bytes=bytes) (hzs:z.cells.size=size) (hsz:0<size)
 (v:Value) (n:Nat) (xs:List Value) (hs:a.eval s=v) (hown:w.ownsRow base e size v n xs)
 (ad:Addr) (m c:Nat) (news:List Value) (hx:a.eval x = .slice (some ad) m c) (hl:news.length=m*size) (hnews:∀j u,news[j]?=some u→w.cell? (ad.add j)=some u) (h1:∀u∈news,u.oneCell'=true)
 (hm:0<m) (h63:n+m≤maxLen) (hbytes:(n+m)*bytes≤140737488355328) (hbase:base≤w.heap.size)
 (h:∀v' w',w'.ownsRow base e size v' (n+m) (xs++news)→w.grownBy w' v.ownBlock→((∃g cap,v = .slice (some ⟨g,0,none⟩) n cap∧v' = .slice (some ⟨g,0,none⟩) (n+m) cap)∨(v'.ownBlock=some w.heap.size∧w.grownBy w' none))→K (a.put o.dst v') w'):o.wp P a w K Q:=by
 obtain ⟨v',w',hrun,h2,h3,h4⟩:=zla (P:=P) w base t o.type e i z size bytes ht hi hz hsize hby hzs hsz v n xs hown ad m c news hl hnews h1 hm h63 hbytes hbase;unfold Oper.wp execOp;simp only[ho,resolve,invoke,builtin,Sem.run_bind,Sem.run_pure,Result.andThen_ok,List.map_toArray,List.map_cons,List.map_nil,hs,hx,hrun];exact h v' w' h2 h3 h4
theorem zeh {ops:Array Oper} {rest:List Oper} {o:Oper} {a:Act} {Q:Exit→Act→World→Prop} (hgd:o.guard=none) (s x:Operand) (t:TypeId)
 (ho:o.op = .call { callee:=.builtin .append,args:=#[s,x],argTypes:=#[t,t] })
 (base:Nat) (e:TypeId) (i:TypeInfo) (z:Value) (size bytes:Nat) (ht:P.underlying t=some (.slice e)) (hi:P.info? e=some i) (hz:i.zero=some z)
 (hsize:i.size=size) (hby:i.bytes=bytes) (hzs:z.cells.size=size) (hsz:0<size)
 (v:Value) (n:Nat) (xs:List Value) (hs:a.eval s=v) (hown:w.ownsRow base e size v n xs)
 (ad:Addr) (m c:Nat) (news:List Value) (hx:a.eval x = .slice (some ad) m c) (hl:news.length=m*size) (hnews:∀j u,news[j]?=some u→w.cell? (ad.add j)=some u) (h1:∀u∈news,u.oneCell'=true)
 (hm:0<m) (h63:n+m≤maxLen) (hbytes:(n+m)*bytes≤140737488355328) (hbase:base≤w.heap.size)
 (h:∀v' w',w'.ownsRow base e size v' (n+m) (xs++news)→w.grownBy w' v.ownBlock→((∃g cap,v = .slice (some ⟨g,0,none⟩) n cap∧v' = .slice (some ⟨g,0,none⟩) (n+m) cap)∨(v'.ownBlock=some w.heap.size∧w.grownBy w' none))→wpList P ops Q rest (a.put o.dst v') w'):wpList P ops Q (o::rest) a w:=
 wpList_plain hgd fun _ hK=>zmu w s x t ho base e i z size bytes ht hi hz hsize hby hzs hsz v n xs hs hown ad m c news hx hl hnews h1 hm h63 hbytes hbase fun v' w' h2 h3 h4=>hK _ _ (h v' w' h2 h3 h4)
end
end Go.Proofs.YtplkbdncgkgppaaGreatDoor.Words
namespace Go.Proofs.YtplkbdncgkgppaaGreatDoor.Tree
open Go.RowKit Go.WideShapes Go.ChangeShapes Words Owned
theorem zie {w:World} {B n m:Nat} {e:TypeId} {v:Value} {xs:List Value} (h:w.ownsRow B e m v n xs) (hn:0<n):∃g cap cur,v = .slice (some ⟨g,0,none⟩) n cap∧Blk w g e cur∧∀(i:Nat) (u:Value),xs[i]?=some u→cur[i]?=some u:=by
 rcases h.2 with ⟨_,h0⟩ | ⟨g,cap,cur,rfl,hb,hg,hc,hm,hs,ht⟩
 ·omega
 ·refine ⟨g,cap,cur,rfl,hg,fun i u hu=>?_⟩;rw[←ht,List.getElem?_take] at hu;split at hu
  ·rw[←Array.getElem?_toList];exact hu
  ·cases hu
theorem zgh {w w':World} {B n m:Nat} {e:TypeId} {v:Value} {xs:List Value} (h:w.ownsRow B e m v n xs) (hk:∀g,v.ownBlock=some g→w'.heap[g]?=w.heap[g]?):w'.ownsRow B e m v n xs:=
 ⟨h.1,h.2.elim .inl fun ⟨g,cap,cur,hv,h1,h2,h3⟩=>.inr ⟨g,cap,cur,hv,h1,(hk g (by rw[hv];rfl)).trans h2,h3⟩⟩
structure Ent (e:TypeId) (N:Nat) (w:World) (v m:Value) (xs ys:List Value):Prop where
 v:w.ownsRow N e 1 v xs.length xs
 m:w.ownsRow N e 1 m (xs.length+ys.length) (xs++ys)
def zix (v m:Value) (g:Nat):Prop:=v.ownBlock=some g∨m.ownBlock=some g
def upd {α:Type} (f:Nat→α) (i:Nat) (a:α) (j:Nat):α:=if j=i then a else f j
theorem zdg {α:Type} (f:Nat→α) (i:Nat) (a:α):upd f i a i=a:=if_pos rfl
theorem zei {α:Type} (f:Nat→α) {i j:Nat} (a:α) (h:j≠i):upd f i a j=f j:=if_neg h
section
variable {e:TypeId} {N n:Nat} {w w':World}
theorem Ent.keep {v m:Value} {xs ys:List Value} (h:Ent e N w v m xs ys) (hk:∀g,zix v m g→w'.heap[g]?=w.heap[g]?):Ent e N w' v m xs ys:=
 ⟨zgh h.v fun g hg=>hk g (.inl hg),zgh h.m fun g hg=>hk g (.inr hg)⟩
theorem Ent.lt {v m:Value} {xs ys:List Value} (h:Ent e N w v m xs ys) {g:Nat} (hg:zix v m g):N≤g∧g<w.heap.size:=hg.elim (h.v.lt g) (h.m.lt g)
structure Fam (e:TypeId) (N:Nat) (w:World) (n:Nat) (vs ms:Nat→Value) (xs ys:Nat→List Value):Prop where
 ent:∀j,j<n→Ent e N w (vs j) (ms j) (xs j) (ys j)
 apart:∀i j g,i<n→j<n→zix (vs i) (ms i) g→zix (vs j) (ms j) g→i=j
variable {vs ms:Nat→Value} {xs ys:Nat→List Value}
theorem Fam.below (h:Fam e N w n vs ms xs ys) (hb:Below w.heap.size w w'):Fam e N w' n vs ms xs ys:=⟨fun j hj=>(h.ent j hj).keep fun g hg=>hb.block g ((h.ent j hj).lt hg).2,h.apart⟩
theorem Fam.alloc (h:Fam e N w n vs ms xs ys) (o:Obj):Fam e N (w.alloc o) n vs ms xs ys:=h.below ((Below.refl _ _).alloc (Nat.le_refl _) o)
theorem Fam.grown {row:Option Nat} (h:Fam e N w n vs ms xs ys) (hg:w.grownBy w' row) (hr:∀r,row=some r→∃t cs,Blk w r t cs∧e≠t):Fam e N w' n vs ms xs ys:=
 ⟨fun j hj=>(h.ent j hj).keep fun g hg'=>hg.block g ((h.ent j hj).lt hg').2 fun e'=>by
  obtain ⟨t,cs,hb,hne⟩:=hr g e'.symm;rcases hg' with h' | h'
  ·exact zfv (h.ent j hj).v hb hne h'
  ·exact zfv (h.ent j hj).m hb hne h',h.apart⟩
theorem Fam.set (h:Fam e N w n vs vs xs fun _=>[]) {i g cap k:Nat} (hi:i<n) (hv:vs i = .slice (some ⟨g,0,none⟩) (xs i).length cap) (hk:k<(xs i).length) (u:Value):Fam e N (w.setCell ⟨g,k,none⟩ u) n vs vs (upd xs i ((xs i).set k u)) fun _=>[]:=by
 have hti:zix (vs i) (vs i) g:=.inl (by rw[hv];rfl);refine ⟨fun j hj=>?_,h.apart⟩;by_cases hji:j=i
 ·subst hji;rw[zdg];have ho:=(h.ent j hi).v
  have:(w.setCell ⟨g,k,none⟩ u).ownsRow N e 1 (vs j) ((xs j).set k u).length ((xs j).set k u):=by
   rcases ho.2 with ⟨e',h0⟩ | ⟨g',cap',cur,e',hb,hh,hc,hm,hs,ht⟩
   ·rw[hv] at e';cases e'
   ·rw[hv] at e';cases e';refine ⟨by simp,.inr ⟨g,cap,cur.setIfInBounds k u,by rw[List.length_set];exact hv,hb,Blk.set_ hh k u,by rw[List.length_set];exact hc,hm,by simpa using hs,?_⟩⟩;rw[Array.toList_setIfInBounds,List.length_set,Nat.mul_one,List.take_set];rw[Nat.mul_one] at ht;rw[ht]
  exact ⟨this,by simpa using this⟩
 ·rw[zei _ _ hji];refine (h.ent j hj).keep fun g' hg'=>Below.heap_setCell w ⟨g,k,none⟩ u g' ?_;intro e';have e':g'=g:=e';subst e';exact hji (h.apart j i _ hj hi hg' hti)
theorem Fam.app (h:Fam e N w n vs ms xs ys) {i:Nat} (hi:i<n) {m' u:Value} (ho:w'.ownsRow N e 1 m' ((xs i).length+(ys i).length+1) ((xs i++ys i)++[u])) (hg:w.grownBy w' (ms i).ownBlock)
 (h2:(∃g cap,ms i = .slice (some ⟨g,0,none⟩) ((xs i).length+(ys i).length) cap∧m' = .slice (some ⟨g,0,none⟩) ((xs i).length+(ys i).length+1) cap)∨(m'.ownBlock=some w.heap.size∧w.grownBy w' none)):Fam e N w' n vs (upd ms i m') xs (upd ys i (ys i++[u])):=by
 have hE:=h.ent i hi
 have hkeep:∀g,zix (vs i) (ms i) g→((ms i).ownBlock≠some g∨w.grownBy w' none)→w'.heap[g]?=w.heap[g]?:=by
  rintro g hgt (hn | hn)
  ·exact hg.block g (hE.lt hgt).2 (fun e'=>hn e'.symm)
  ·exact hn.block g (hE.lt hgt).2 (by simp)
 refine ⟨fun j hj=>?_,fun a b g ha hb hta htb=>?_⟩
 ·by_cases hji:j=i
  ·subst hji;rw[zdg,zdg];refine ⟨?_,by simpa [Nat.add_assoc] using ho⟩
   rcases h2 with ⟨g,cap,hm1,hm2⟩ | ⟨hm1,hm2⟩
   ·by_cases hvg:(vs j).ownBlock=some g
    ·
     rcases hE.v.2 with ⟨e1,_⟩ | ⟨g1,c1,cur1,e1,hb1,hh1,hc1,hmx1,hs1,ht1⟩
     ·rw[e1] at hvg;cases hvg
     ·have:g1=g:=by rw[e1] at hvg;simpa [Value.ownBlock] using hvg
      subst this
      rcases hE.m.2 with ⟨e3,_⟩ | ⟨g3,c3,cur3,e3,hb3,hh3,hc3,hmx3,hs3,ht3⟩
      ·rw[hm1] at e3;cases e3
      ·rw[hm1] at e3;cases e3;rw[hh1] at hh3;cases hh3
       rcases ho.2 with ⟨e4,_⟩ | ⟨g4,c4,cur4,e4,hb4,hh4,hc4,hmx4,hs4,ht4⟩
       ·rw[hm2] at e4;cases e4
       ·rw[hm2] at e4;cases e4;refine ⟨hE.v.1,.inr ⟨g1,c1,cur4,e1,hb1,hh4,hc1,hmx1,by omega,?_⟩⟩;have h5:=congrArg (List.take (xs j).length) ht4;rw[List.take_take,List.append_assoc,List.take_left] at h5;rw[Nat.mul_one,Nat.min_eq_left (by omega)] at h5;rw[Nat.mul_one];exact h5
    ·exact zgh hE.v fun g' hg'=>hkeep g' (.inl hg') (.inl fun e'=>hvg (by
      rw[hm1] at e';have:g=g':=by simpa [Value.ownBlock] using e'
      rw[this];exact hg'))
   ·exact zgh hE.v fun g' hg'=>hkeep g' (.inl hg') (.inr hm2)
  ·rw[zei _ _ hji,zei _ _ hji];refine (h.ent j hj).keep fun g hg'=>hg.block g ((h.ent j hj).lt hg').2 fun e'=>hji (h.apart j i g hj hi hg' (.inr e'.symm))
 ·have key:∀c,c<n→c≠i→zix (vs c) (upd ms i m' c) g→zix (vs i) (upd ms i m' i) g→False:=by
   intro c hc hci hc1 hi1;rw[zei _ _ hci] at hc1;rw[zdg] at hi1;rcases hi1 with hi1 | hi1
   ·exact hci (h.apart c i g hc hi hc1 (.inl hi1))
   ·rcases h2 with ⟨g',cap,hm1,hm2⟩ | ⟨hm1,hm2⟩
    ·exact hci (h.apart c i g hc hi hc1 (.inr (by rw[hm1];rw[hm2] at hi1;exact hi1)))
    ·have:w.heap.size=g:=by rw[hm1] at hi1;simpa using hi1
     have:=((h.ent c hc).lt hc1).2;omega
  by_cases ha':a=i
  ·by_cases hb':b=i
   ·rw[ha',hb']
   ·subst ha';exact (key b hb hb' htb hta).elim
  ·by_cases hb':b=i
   ·subst hb';exact (key a ha ha' hta htb).elim
   ·rw[zei _ _ ha'] at hta;rw[zei _ _ hb'] at htb;exact h.apart a b g ha hb hta htb
end
end Go.Proofs.YtplkbdncgkgppaaGreatDoor.Tree
end
section
namespace Go.Proofs.YtplkbdncgkgppaaGreatDoor.Qry
open Go.RowKit Words Tree Kit Owned
def mkA (j q:Nat):Value:=.int .i64 (1000*(j:Int)+(q:Int))
def mkB (j q:Nat):Value:=.int .i64 (500000+1000*(j:Int)+(q:Int))
def ze4 (n:Nat) (vs:Nat→Value) (g:Nat):Prop:=∃j,j<n∧(vs j).ownBlock=some g
structure Ap1 (N n:Nat) (vs:Nat→Value) (L:Nat→Nat) (w:World) (i k:Nat) (wr:World):Prop where
 out:∃xs,Fam 2 N wr n vs vs xs (fun _=>[])∧(∀j,j<n→(xs j).length=L j)∧∀j q,j<n→(j<i∨(j=i∧q<k))→q<L j→(xs j)[q]?=some (mkA j q)
 but:But (ze4 n vs) w wr
theorem Ap1.next {N n:Nat} {vs:Nat→Value} {L:Nat→Nat} {w wr:World} {i k:Nat} (h:Ap1 N n vs L w i k wr) (hk:L i≤k):Ap1 N n vs L w (i+1) 0 wr:=by
 obtain ⟨xs,h1,h2,h3⟩:=h.out
 exact ⟨⟨xs,h1,h2,fun j q hj hq hl=>h3 j q hj (by
  rcases hq with hq | ⟨_,hq⟩
  ·rcases Nat.lt_or_ge j i with h' | h'
   ·exact .inl h'
   ·obtain rfl:j=i:=by omega
    exact .inr ⟨rfl,by omega⟩
  ·omega) hl⟩,h.but⟩
theorem Ap1.step {N n:Nat} {vs:Nat→Value} {L:Nat→Nat} {w wr:World} {i k g cap:Nat} (h:Ap1 N n vs L w i k wr) (hi:i<n) (hk:k<L i) (hv:vs i = .slice (some ⟨g,0,none⟩) (L i) cap):Ap1 N n vs L w i (k+1) (wr.setCell ⟨g,k,none⟩ (mkA i k)):=by
 obtain ⟨xs,h1,h2,h3⟩:=h.out;refine ⟨⟨_,h1.set hi (by rw[h2 i hi];exact hv) (by rw[h2 i hi];exact hk) (mkA i k),fun j hj=>?_,fun j q hj hq hl=>?_⟩,h.but.set (p:=⟨g,k,none⟩) (.inl ⟨i,hi,by rw[hv];rfl⟩) _⟩
 ·by_cases hji:j=i
  ·subst hji;rw[zdg,List.length_set];exact h2 j hj
  ·rw[zei _ _ hji];exact h2 j hj
 ·by_cases hji:j=i
  ·subst hji;rw[zdg,List.getElem?_set];split
   ·rename_i e;subst e;rw[if_pos (by rw[h2 j hj];exact hl)]
   ·exact h3 j q hj (.inr ⟨rfl,by omega⟩) hl
  ·rw[zei _ _ hji];exact h3 j q hj (.inl (by omega)) hl
theorem Ap1.cell {N n:Nat} {vs:Nat→Value} {L:Nat→Nat} {w wr:World} {i k:Nat} (h:Ap1 N n vs L w i k wr) {j q:Nat} (hj:j<n) (hq:q<L j):∃g cap,vs j = .slice (some ⟨g,0,none⟩) (L j) cap∧(∃u,wr.cell? ⟨g,q,none⟩=some u)∧wr.frozen? ⟨g,q,none⟩=false:=by
 obtain ⟨xs,h1,h2,h3⟩:=h.out;have ho:=(h1.ent j hj).v;rw[h2 j hj] at ho;obtain ⟨g,cap,cur,hv,hb,hx⟩:=zie ho (by omega);have hxl:q<(xs j).length:=by rw[h2 j hj];exact hq
 exact ⟨g,cap,hv,⟨_,(hb.cell q).trans (hx q _ (List.getElem?_eq_getElem hxl))⟩,hb.frozen q⟩
theorem yfw:(Tryz.prog.info? 2).map (fun i=>(i.zero,i.size,i.bytes))=some (some (.int .i64 0),1,8):=by kernel_rfl
theorem yd7:(Tryz.prog.info? 25).map (fun i=>(i.zero,i.size,i.bytes))=some (some (.slice none 0 0),1,24):=by kernel_rfl
def zuo (j k:Nat):List Value:=(List.range k).map (mkB j)
theorem zjj (j k:Nat):(zuo j k).length=k:=by simp[zuo]
theorem zvx (j k:Nat):zuo j (k+1)=zuo j k++[mkB j k]:=by simp[zuo,List.range_succ]
structure Ap2 (N n:Nat) (vs:Nat→Value) (X:Nat→List Value) (w:World) (i k:Nat) (ms:Nat→Value) (ys:Nat→List Value) (mo:Value) (wr:World):Prop where
 fam:Fam 2 N wr n vs ms X ys
 done:∀j,j<i→ys j=zuo j 30
 now:i<n→ys i=zuo i k
 later:∀j,(i<j∨(j=i∧k=0))→j<n→ms j=vs j∧ys j=[]
 more:wr.ownsRow w.heap.size 25 1 mo i ((List.range i).map ms)
 news:∀j,j<n→∀g,(ms j).ownBlock=some g→ze4 n vs g∨w.heap.size≤g
 but:But (ze4 n vs) w wr
theorem zvy (ms:Nat→Value) (i:Nat) (m:Value):(List.range i).map (upd ms i m)=(List.range i).map ms:=
 List.map_congr_left fun j hj=>zei _ _ (by have:=List.mem_range.1 hj;omega)
section
variable {N n:Nat} {vs:Nat→Value} {X:Nat→List Value} {w wr w':World} {i k:Nat} {ms:Nat→Value} {ys:Nat→List Value} {mo:Value}
theorem Ap2.alloc (h:Ap2 N n vs X w i k ms ys mo wr) (o:Obj):Ap2 N n vs X w i k ms ys mo (wr.alloc o):=
 ⟨h.fam.alloc o,h.done,h.now,h.later,h.more.alloc o,h.news,h.but.alloc o⟩
theorem Ap2.own (h:Ap2 N n vs X w i k ms ys mo wr) (hi:i<n):wr.ownsRow N 2 1 (ms i) ((X i).length+k) (X i++zuo i k):=by
 have:=(h.fam.ent i hi).m;rw[h.now hi,zjj] at this;exact this
theorem Ap2.app (h:Ap2 N n vs X w i k ms ys mo wr) (hi:i<n) {m':Value} (ho:w'.ownsRow N 2 1 m' ((X i).length+k+1) ((X i++zuo i k)++[mkB i k])) (hg:wr.grownBy w' (ms i).ownBlock)
 (h2:(∃g cap,ms i = .slice (some ⟨g,0,none⟩) ((X i).length+k) cap∧m' = .slice (some ⟨g,0,none⟩) ((X i).length+k+1) cap)∨(m'.ownBlock=some wr.heap.size∧wr.grownBy w' none)):Ap2 N n vs X w i (k+1) (upd ms i m') (upd ys i (zuo i (k+1))) mo w':=by
 have hy:=h.now hi;have hyl:(ys i).length=k:=by rw[hy,zjj]
 have hmi:=(h.fam.ent i hi).m;refine ⟨?_,fun j hj=>by rw[zei _ _ (by omega)];exact h.done j hj,fun _=>zdg _ _ _,fun j hj hjn=>by rw[zei _ _ (by omega),zei _ _ (by omega)];exact h.later j (.inl (by omega)) hjn,?_,fun j hj g hgj=>?_,?_⟩
 ·have:=h.fam.app (w':=w') hi (m':=m') (u:=mkB i k) (by rw[hy,zjj];exact ho) hg (by rw[hyl];exact h2);rw[hy,←zvx] at this;exact this
 ·rw[zvy]
  exact zgh h.more fun g hgm=>hg.block g (h.more.lt g hgm).2 fun e=>by
   rcases zgb h.more hmi (by decide) with h' | h'
   ·rw[h'] at hgm;cases hgm
   ·exact h' (hgm.trans e)
 ·by_cases hji:j=i
  ·subst hji;rw[zdg] at hgj
   rcases h2 with ⟨g',cap,h3,h4⟩ | ⟨h3,_⟩
   ·exact h.news j hj g (by rw[h3];rw[h4] at hgj;exact hgj)
   ·rw[h3] at hgj;cases hgj;exact .inr h.but.size
  ·rw[zei _ _ hji] at hgj;exact h.news j hj g hgj
 ·exact h.but.more (But.grown (N:=fun g=>(ms i).ownBlock=some g) hg fun r hr=>hr) fun g hg'=>h.news i hi g hg'
theorem Ap2.next (h:Ap2 N n vs X w i 30 ms ys mo wr) (hi:i<n) {mo':Value} (ho:w'.ownsRow w.heap.size 25 1 mo' (i+1) ((List.range i).map ms++[ms i])) (hg:wr.grownBy w' mo.ownBlock):Ap2 N n vs X w (i+1) 0 ms ys mo' w':=by
 refine ⟨h.fam.grown hg fun r hr=>?_,fun j hj=>?_,fun hi'=>?_,fun j hj hjn=>h.later j (.inl (by omega)) hjn,by rw[List.range_succ,List.map_append];exact ho,h.news,?_⟩
 ·rcases h.more.2 with ⟨e,_⟩ | ⟨g,cap,cur,e,_,hh,_⟩
  ·rw[e] at hr;cases hr
  ·rw[e] at hr;have:g=r:=by simpa [Value.ownBlock] using hr
   subst this;exact ⟨_,_,hh,by decide⟩
 ·rcases Nat.lt_or_ge j i with h' | h'
  ·exact h.done j h'
  ·obtain rfl:j=i:=by omega
   exact h.now hi
 ·rw[(h.later (i+1) (.inl (by omega)) hi').2];rfl
 ·exact h.but.more (But.grown (N:=fun g=>mo.ownBlock=some g) hg fun r hr=>hr) fun g hg'=>.inr (h.more.lt g hg').1
end
theorem Ap2.start {N n:Nat} {vs:Nat→Value} {L:Nat→Nat} {w wr:World} (h:Ap1 N n vs L w n 0 wr):∃X,(∀j,j<n→(X j).length=L j)∧(∀j q,j<n→q<L j→(X j)[q]?=some (mkA j q))∧Ap2 N n vs X w 0 0 vs (fun _=>[]) (.slice none 0 0) wr:=by
 obtain ⟨xs,h1,h2,h3⟩:=h.out;exact ⟨xs,h2,fun j q hj hq=>h3 j q hj (.inl hj) hq,h1,fun j hj=>by omega,fun _=>rfl,fun j _ _=>⟨rfl,rfl⟩,World.ownsRow_nil _ _ _ _,fun j hj g hg=>.inl ⟨j,hj,hg⟩,h.but⟩
theorem Ap2.read {N n:Nat} {vs:Nat→Value} {X:Nat→List Value} {w wr:World} {ms:Nat→Value} {ys:Nat→List Value} {mo:Value} (h:Ap2 N n vs X w n 0 ms ys mo wr) {j q:Nat} (hj:j<n):∃g cap,ms j = .slice (some ⟨g,0,none⟩) ((X j).length+30) cap∧∀q u,(X j++zuo j 30)[q]?=some u→wr.cell? ⟨g,q,none⟩=some u:=by
 have ho:=(h.fam.ent j hj).m;rw[h.done j hj,zjj] at ho;obtain ⟨g,cap,cur,hv,hb,hx⟩:=zie ho (by omega);exact ⟨g,cap,hv,fun q u hu=>(hb.cell q).trans (hx q u hu)⟩
theorem Ap2.readV {N n:Nat} {vs:Nat→Value} {X:Nat→List Value} {w wr:World} {ms:Nat→Value} {ys:Nat→List Value} {mo:Value} (h:Ap2 N n vs X w n 0 ms ys mo wr) {j q:Nat} (hj:j<n) (hq:q<(X j).length):∃g cap,vs j = .slice (some ⟨g,0,none⟩) (X j).length cap∧∀q u,(X j)[q]?=some u→wr.cell? ⟨g,q,none⟩=some u:=by
 obtain ⟨g,cap,cur,hv,hb,hx⟩:=zie (h.fam.ent j hj).v (by omega);exact ⟨g,cap,hv,fun q u hu=>(hb.cell q).trans (hx q u hu)⟩
theorem zvz (all:Value) (n B N:Nat) (vs:Nat→Value) (xs0:Nat→List Value) (w:World) (hall:w.ownsRow B 25 1 all n ((List.range n).map vs)) (hf:Fam 2 N w n vs vs xs0 (fun _=>[]))
 (hL:∀j,j<n→(xs0 j).length≤4294967296) (hn:n≤4294967296) (hN:N≤w.heap.size) :
 Calls Tryz.prog 11 #[all] w (fun e w'=>e = .returned (.bool true)∧But (ze4 n vs) w w'):=by
 obtain ⟨A,cA,rfl⟩:=zav hall
 obtain ⟨L,hLd⟩:∃L:Nat→Nat,L=fun j=>(xs0 j).length:=⟨_,rfl⟩
 have HAL:=hX (fun (W:World) (hW:But (ze4 n vs) w W)=>zgh hall fun g hg=>hW.block g (hall.lt g hg).2 (by
  rintro ⟨j,hj,he⟩;rcases zgb hall (hf.ent j hj).v (by decide) with h | h
  ·rw[h] at hg;cases hg
  ·exact h (hg.trans he.symm)))
 have HSL:Hid (∀j,j<n→∃Aj cj,vs j = .slice Aj (L j) cj):=hX (fun j hj=>by
  obtain ⟨a,c,h⟩:=zav (hf.ent j hj).v
  exact ⟨a,c,by rw[hLd];exact h⟩)
 have HL:Hid (∀j,j<n→L j≤4294967296):=hX (fun j hj=>by rw[hLd];exact hL j hj);have H0:Hid (Ap1 N n vs L w 0 0 w):=hX ⟨⟨xs0,hf,fun j _=>by rw[hLd],fun j q _ hq _=>by omega⟩,But.refl _ _⟩;clear hall hf hL hLd;go_enter Tryz.func11,Tryz.ntmps11;go_wp2_with fail;go_loopw [3] (fun i wr=>∃a:Nat,a≤n∧i = .int .i64 a∧Hid (Ap1 N n vs L w a 0 wr)) (fun i _=>n - (intOf i).toNat);case atStart=>exact ⟨0,by omega,rfl,H0⟩
 case round=>
  obtain ⟨a,ha,rfl,HP⟩:=hrel;by_cases hlt:a<n
  ·have hlt2:(a:Int)<(n:Int):=by omega
   obtain ⟨Aj,cj,hvj⟩:=HSL.out a hlt;have HVJ:=hX hvj
   have HCC:Hid (∀W,But (ze4 n vs) w W→∃ga,A=some ⟨ga,0,none⟩∧W.cell? ⟨ga,a,none⟩=some (.slice Aj (L a) cj)):=hX (fun W hW=>by
    obtain ⟨ga,e1,_,_,hc⟩:=zjh (HAL.out W hW) hlt
    exact ⟨ga,e1,by rw[←hvj];exact hc a _ (by simp[hlt])⟩)
   have hLa:=HL.out a hlt;clear hvj;go_wp2_with fail;go_loopw [4] (fun i wr=>∃k:Nat,k≤L a∧i = .int .i64 k∧Hid (Ap1 N n vs L w a k wr)) (fun i _=>L a - (intOf i).toNat);case atStart=>exact ⟨0,by omega,rfl,HP⟩
   case round=>
    obtain ⟨k,hk,rfl,HQ⟩:=hrel;obtain ⟨ga,rfl,hca⟩:=HCC.out _ HQ.out.but;by_cases hlk:k<L a
    ·have hlk2:(k:Int)<(L a:Int):=by omega
     obtain ⟨g,cap,hvg,⟨u,hcu⟩,hfu⟩:=HQ.out.cell hlt hlk;have hh:=HVJ.out.symm.trans hvg;simp only[Value.slice.injEq,true_and] at hh;obtain ⟨rfl,rfl⟩:=hh;have HS:=hX (HQ.out.step hlt hlk hvg);clear hvg;have h1:IntKind.i64.wrap (1000*(a:Int))=1000*(a:Int):=IntWalk.i64_in _ (by omega);have h2:IntKind.i64.wrap (1000*(a:Int)+(k:Int))=1000*(a:Int)+(k:Int):=IntWalk.i64_in _ (by omega);go_wp2_with fail;go_roundw;case rel=>exact ⟨k+1,by omega,by go_num,HS⟩
     case measure=>simp[intOf];omega
    ·obtain rfl:k=L a:=by omega
     have HS:=hX (HQ.out.next (Nat.le_refl _));go_wp2_with fail;go_roundw;case rel=>exact ⟨a+1,by omega,by go_num,HS⟩
     case measure=>simp[intOf];omega
  ·obtain rfl:n=a:=by omega
   obtain ⟨X,hX1,hX2,h20⟩:=Ap2.start HP.out;have HX1:=hX hX1;have HX2:=hX hX2;have H20:=hX h20;clear hX1 hX2 h20 HP;obtain ⟨i0,hi1,hi2,hi3,hi4⟩:=info_parts yfw;obtain ⟨s0,hs1,hs2,hs3,hs4⟩:=info_parts yd7;have HI:=hX (And.intro hi1 (And.intro hi2 (And.intro hi3 hi4)));have HS:=hX (And.intro hs1 (And.intro hs2 (And.intro hs3 hs4)));clear hi1 hi2 hi3 hi4 hs1 hs2 hs3 hs4;go_wp2_with fail;go_loopw [5,6] (fun o i wr=>∃(b:Nat) (ms:Nat→Value) (ys:Nat→List Value),b≤n∧i = .int .i64 b∧Hid (Ap2 N n vs X w b 0 ms ys o wr)) (fun _ i _=>n - (intOf i).toNat);case atStart=>exact ⟨0,_,_,by omega,rfl,H20⟩
   case round=>
    obtain ⟨b,ms,ys,hb,rfl,HP⟩:=hrel;obtain ⟨Ao,co,hao⟩:=zav HP.out.more;subst hao;by_cases hltb:b<n
    ·have hlt2:(b:Int)<(n:Int):=by omega
     obtain ⟨ga,rfl,hca⟩:∃ga,A=some ⟨ga,0,none⟩∧wr.cell? ⟨ga,b,none⟩=some (vs b):=(by obtain ⟨ga,e1,_,_,hc⟩:=zjh (HAL.out _ HP.out.but) hltb;exact ⟨ga,e1,hc b _ (by simp[hltb])⟩)
     rw[←(HP.out.later b (.inr ⟨rfl,rfl⟩) hltb).1] at hca;go_wp2_with fail;go_loopw [7,8] (fun l i wr=>∃(k:Nat) (ms:Nat→Value) (ys:Nat→List Value),k≤30∧i = .int .i64 k∧l=ms b∧Hid (Ap2 N n vs X w b k ms ys (.slice Ao b co) wr)) (fun _ i _=>30 - (intOf i).toNat);case atStart=>exact ⟨0,_,_,by omega,rfl,rfl,HP⟩
     case round=>
      clear hca;obtain ⟨k,ms,ys,hk,rfl,rfl,HQ⟩:=hrel;by_cases hlk:k<30
      ·have hlk2:(k:Int)<30:=by omega
       have hXl:=HX1.out b hltb;have hLb:=HL.out b hltb;have h1:IntKind.i64.wrap (1000*(b:Int))=1000*(b:Int):=IntWalk.i64_in _ (by omega);have h2:IntKind.i64.wrap (500000+1000*(b:Int))=500000+1000*(b:Int):=IntWalk.i64_in _ (by omega);have h3:IntKind.i64.wrap (500000+1000*(b:Int)+(k:Int))=500000+1000*(b:Int)+(k:Int):=IntWalk.i64_in _ (by omega);have hown:=(HQ.out.alloc (.cells #[mkB b k] 2)).own hltb;obtain ⟨hi1,hi2,hi3,hi4⟩:=HI.out;have hNw:N≤wr.heap.size+1:=by have:=HQ.out.but.size;omega
       go_wp2_with (at_builtin;refine zeh _ rfl (.tmp 52) (.tmp 58) 25 rfl N 2 i0 _ 1 8 Tryz.underlying25 hi1 hi2 hi3 hi4 rfl (by decide) (ms b) _ _ rfl hown ⟨wr.heap.size,0,none⟩ 1 1 [mkB b k] rfl rfl ?d1 ?d2 (by decide) ?d3 ?d4 ?d5 ?_);case d1=>exact World.news_of_block (Blk.new wr _ _)
       case d2=>intro u hu;simp only[List.mem_cons,List.not_mem_nil,or_false] at hu;subst hu;rfl
       case d3=>unfold maxLen;omega
       case d4=>omega
       case d5=>simpa using hNw
       intro m' w' ho hg h2';have HN:=hX ((HQ.out.alloc (.cells #[mkB b k] 2)).app hltb (by rw[hXl,List.append_assoc];exact ho) hg (by rw[hXl];simpa [mkB] using h2'));clear ho hg h2' hown hi1 hi2 hi3 hi4;go_wp2_with fail;go_roundw;case rel=>exact ⟨k+1,_,_,by omega,by go_num,(zdg _ _ _).symm,HN⟩
       case measure=>simp[intOf];omega
      ·have hk30:k=30:=by omega
       have hge:¬(k:Int)<30:=by omega
       have HQ:Hid (Ap2 N n vs X w b 30 ms ys (.slice Ao b co) wr):=by rw[←hk30];exact HQ
       obtain ⟨al,cl,el⟩:=zav (HQ.out.own hltb);rw[el];have hown:=(HQ.out.alloc (.cells #[.slice al ((X b).length+30) cl] 25)).more;obtain ⟨hi1,hi2,hi3,hi4⟩:=HS.out;have hbs:=HQ.out.but.size;go_wp2_with (at_builtin;refine zeh _ rfl (.tmp 60) (.tmp 62) 45 rfl w.heap.size 25 s0 _ 1 24 Tryz.underlying45 hi1 hi2 hi3 hi4 rfl (by decide) _ _ _ rfl hown ⟨wr.heap.size,0,none⟩ 1 1 [.slice al ((X b).length+30) cl] rfl rfl ?d1 ?d2 (by decide) ?d3 ?d4 ?d5 ?_);case d2=>rfl
       case d3=>unfold maxLen;omega
       case d4=>omega
       case d5=>omega
       intro m' w' ho hg _;have HN:=hX ((HQ.out.alloc (.cells #[.slice al ((X b).length+30) cl] 25)).next hltb (by rw[el];exact ho) hg);clear ho hg hown hi1 hi2 hi3 hi4;go_wp2_with fail;go_roundw;case rel=>exact ⟨b+1,_,_,by omega,by go_num,HN⟩
       case measure=>simp[intOf];omega
    ·obtain rfl:n=b:=by omega
     have H3:=hX (fun (j:Nat) (hj:j<n)=>HP.out.read (q:=0) hj);have H4:=hX (fun (j q:Nat) (hj:j<n) (hq:q<(X j).length)=>HP.out.readV hj hq);have HMO:=hX HP.out.more;have HBT:=hX HP.out.but;clear HP hltb;go_wp2_with fail;go_loopw [9] (fun i wq=>∃b:Nat,b≤n∧i = .int .i64 b∧wq=wr) (fun i _=>n - (intOf i).toNat);case atStart=>exact ⟨0,by omega,rfl,rfl⟩
     case round=>
      obtain ⟨b,hb,rfl,rfl⟩:=hrel;by_cases hltb:b<n
      ·have hlt2:(b:Int)<(n:Int):=by omega
       obtain ⟨ga,rfl,hca⟩:∃ga,A=some ⟨ga,0,none⟩∧wr.cell? ⟨ga,b,none⟩=some (vs b):=(by obtain ⟨ga,e1,_,_,hc⟩:=zjh (HAL.out _ HBT.out) hltb;exact ⟨ga,e1,hc b _ (by simp[hltb])⟩)
       obtain ⟨gm,rfl,hcm⟩:∃gm,Ao=some ⟨gm,0,none⟩∧wr.cell? ⟨gm,b,none⟩=some (ms b):=(by obtain ⟨gm,e1,_,_,hc⟩:=zjh HMO.out hltb;exact ⟨gm,e1,hc b _ (by simp[hltb])⟩)
       obtain ⟨Aj,cj,hvj⟩:=HSL.out b hltb;obtain ⟨g3,c3,hm3,hr3⟩:=H3.out b hltb;have hXl:=HX1.out b hltb;have hLb:=HL.out b hltb;have HV:=hX hvj;have H3b:=hX hr3;rw[hvj] at hca;rw[hm3,hXl] at hcm;have h1:IntKind.i64.wrap (1000*(b:Int))=1000*(b:Int):=IntWalk.i64_in _ (by omega);have h2:IntKind.i64.wrap (500000+1000*(b:Int))=500000+1000*(b:Int):=IntWalk.i64_in _ (by omega);clear hvj hr3 hm3;go_wp2_with fail;go_loopw [11] (fun i wq=>∃k:Nat,k≤L b∧i = .int .i64 k∧wq=wr) (fun i _=>L b - (intOf i).toNat);case atStart=>exact ⟨0,by omega,rfl,rfl⟩
       case round=>
        obtain ⟨k,hk,rfl,rfl⟩:=hrel;by_cases hlk:k<L b
        ·have hlk2:(k:Int)<(L b:Int):=by omega
         obtain ⟨g4,c4,hv4,hr4⟩:=H4.out b k hltb (by omega);have hh:=HV.out.symm.trans hv4;simp only[Value.slice.injEq] at hh;obtain ⟨rfl,-,rfl⟩:=hh;have hd1:=hr4 k _ (HX2.out b k hltb hlk);have hd2:=H3b.out k _ ((List.getElem?_append_left (by omega)).trans (HX2.out b k hltb hlk));have h5:IntKind.i64.wrap (1000*(b:Int)+(k:Int))=1000*(b:Int)+(k:Int):=IntWalk.i64_in _ (by omega);unfold mkA at hd1 hd2;have hlk3:(k:Int)<((L b+30:Nat):Int):=by omega
         have hlk4:k<L b+30:=by omega
         clear hr4 hv4;go_wp2_with fail;go_roundw;case rel=>exact ⟨k+1,by omega,by go_num,trivial⟩
         case measure=>simp[intOf];omega
        ·obtain rfl:k=L b:=by omega
         go_wp2_with fail;go_loopw [12] (fun i wq=>∃k:Nat,k≤30∧i = .int .i64 k∧wq=wr) (fun i _=>30 - (intOf i).toNat);case atStart=>exact ⟨0,by omega,rfl,rfl⟩
         case round=>
          obtain ⟨k,hk,rfl,rfl⟩:=hrel;by_cases hlk:k<30
          ·have hlk2:(k:Int)<30:=by omega
           have hd2:=H3b.out (L b+k) (mkB b k) ((List.getElem?_append_right (by omega)).trans (by rw[hXl,Nat.add_sub_cancel_left];simp[zuo,hlk]));have h5:IntKind.i64.wrap (500000+1000*(b:Int)+(k:Int))=500000+1000*(b:Int)+(k:Int):=IntWalk.i64_in _ (by omega);have h6:IntKind.i64.wrap ((L b:Int)+(k:Int))=((L b+k:Nat):Int):=by rw[IntWalk.i64_in _ (by omega)];omega
           have h7:L b+k<L b+30:=by omega
           have h8:((L b+k:Nat):Int)<((L b+30:Nat):Int):=by omega
           unfold mkB at hd2;go_wp2_with fail;go_roundw;case rel=>exact ⟨k+1,by omega,by go_num,trivial⟩
           case measure=>simp[intOf];omega
          ·have hge:¬(k:Int)<30:=by omega
           go_wp2_with fail;go_roundw;case rel=>exact ⟨b+1,by omega,by go_num,trivial⟩
           case measure=>simp[intOf];omega
      ·obtain rfl:n=b:=by omega
       go_wp2_with fail;go_ret;exact ⟨rfl,HBT.out⟩
end Go.Proofs.YtplkbdncgkgppaaGreatDoor.Qry
end
