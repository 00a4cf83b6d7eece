/- Lemmas that the last text leans on. -/
import Derived.Test.YtplkbdncgkgppaaGreatDoorTake
import Derived.Test.YtplkbdncgkgppaaGreatDoorPack25
import Derived.Test.YtplkbdncgkgppaaGreatDoorPack6
import Derived.Test.YtplkbdncgkgppaaGreatDoorPack27
import Derived.Test.YtplkbdncgkgppaaGreatDoorPack30
import Derived.Laws.ResultCell
import Derived.Test.YtplkbdncgkgppaaGreatDoorRwSimp
import Derived.Test.YtplkbdncgkgppaaGreatDoorProg
import Derived.Test.YtplkbdncgkgppaaGreatDoorPack5
import Derived.Deep.QuietTactic
import Derived.BigQuiet
import Derived.LoopTactic
import Derived.Laws.StructEq
set_option linter.all false
set_option maxRecDepth 100000
set_option maxHeartbeats 8000000
section
namespace Go.Proofs.YtplkbdncgkgppaaGreatDoor.Qck
open Go.RowKit Words Tree QryP SchP QckP
section
variable {H:Type} {enc:TypeId × Value→H} {w:World} {r:Reach} {b0:Nat} {v:Value} {d:DataW H} {ps:List MemPlace}
end
end Go.Proofs.YtplkbdncgkgppaaGreatDoor.Qck
end
section
namespace Go.Proofs.YtplkbdncgkgppaaGreatDoor.Sch
open Go.RowKit Words Tree SchP Kit Owned
theorem zxd (f:FT) (X:Option Addr) (n z:Nat) (s:ByteArray) (g:Nat) (w:World) (hg:w.cell? ⟨g,0,none⟩=some (.string s)) (hgl:g<w.heap.size) :
 Calls Tryz.prog 58 #[.agg #[.string f.name,.int .i64 f.kind,.slice X n z,.int .i64 f.scale,.int .i64 f.dims,.bool f.many,.bool f.stored],.pointer (some ⟨g,0,none⟩)] w (ze2 (decide (f.name=s)) w):=by
 have hne:g≠w.heap.size:=by omega
 rcases zkr f.name s with ⟨h1,h2⟩ | ⟨h1,h2⟩
 ·have HD:Hid (decide (f.name=s)=true):=hX (decide_eq_true h1);clear h1;go_enter Tryz.func58,Tryz.ntmps58;go_wp2_with fail;go_ret;rw[HD.out];exact ⟨rfl,(Below.refl _ w).alloc (Nat.le_refl _) _⟩
 ·have HD:Hid (decide (f.name=s)=false):=hX (decide_eq_false h1);clear h1;go_enter Tryz.func58,Tryz.ntmps58;go_wp2_with fail;go_ret;rw[HD.out];exact ⟨rfl,(Below.refl _ w).alloc (Nat.le_refl _) _⟩
theorem zm7 (A:Option Addr) (cap:Nat) (l:List FT) (s:ByteArray) (g:Nat) (w:World) (hu:T.At bare w (fun g=>g<w.heap.size) (zcm l) (.slice A l.length cap)) (hl:l.length*72≤140737488351232) (hg:w.cell? ⟨g,0,none⟩=some (.string s)) (hgl:g<w.heap.size) :
 Calls Tryz.prog 57 #[.slice A l.length cap,.func (.func 58) #[] #[.pointer (some ⟨g,0,none⟩)]] w (IntB (zjc l s) w):=by
 obtain ⟨_,_,he,hc,hm,hel⟩:=zry zem hu;injection he with e1 _ e3;subst e1 e3;have EL:=hX hel;have HG:Hid (∀W,Below w.heap.size w W→W.cell? ⟨g,0,none⟩=some (.string s)):=hX (fun W hW=>(hW.cell (p:=⟨g,0,none⟩) hgl).trans hg);clear hel hu hg
 obtain ⟨r,hr⟩:∃r,zcv l s=r:=⟨_,rfl⟩
 have HZ:Hid (zjc l s=zOf r):=hX (by rw[zgl,hr]);have HR:Hid ((zcv (l.drop 0) s).map (· + 0)=r):=hX (by rw[←hr];cases h:zcv l s <;> simp[h]);clear hr;go_enter Tryz.func57,Tryz.ntmps57;go_wp2_with fail;go_loopw [5,8] (fun _ i wr=>∃k:Nat,k≤l.length∧i = .int .i64 k∧Hid ((zcv (l.drop k) s).map (· + k)=r)∧Hid (Below w.heap.size w wr)) (fun _ i _=>l.length - (RowKit.intOf i).toNat);case atStart=>exact ⟨0,by omega,rfl,HR,hX (Below.refl _ _)⟩
 case round=>
  obtain ⟨k,hk,rfl,HE,HB⟩:=hrel;by_cases hlt:k<l.length
  ·obtain ⟨ad,us,rfl,hba,au,lu,cu⟩:=EL.out k hlt;replace cu:=cu.keep (w':=wr) (fun p hp=>HB.out.cell (by rw[hp,zab];exact hba));have HD:=hX (ztm (s:=s) hlt);generalize l[k]=f at *;obtain ⟨vc,rfl,gc⟩:=zdx au;obtain ⟨X,z,rfl,_,_⟩:=zbg gc;obtain ⟨a0,a1,a2,a3,a4,a5,a6⟩:=zzo cu;clear cu au lu gc;have HC:=hX (fun (W:World) (hW:Below w.heap.size w W)=>zxd f X f.chain.length z s g W (HG.out W hW) (Nat.lt_of_lt_of_le hgl hW.size));go_wp2_with fail;refine (HC.out wr HB.out).mono ?_;rintro e w2 ⟨rfl,b2⟩;have HB2:=hX (HB.out.trans (b2.mono HB.out.size));clear a0 a1 a2 a3 a4 a5 a6 b2;by_cases h1:f.name=s
   ·have HN:Hid (zjc l s=k):=hX (by rw[HZ.out,←HE.out,HD.out,if_pos h1];simp[zOf]);have hd:decide (f.name=s)=true:=decide_eq_true h1;rw[hd];clear h1 hd;go_wp2_with fail;go_ret;rw[HN.out];exact ⟨rfl,HB2.out⟩
   ·have HE2:Hid ((zcv (l.drop (k+1)) s).map (· + (k+1))=r):=hX (by rw[←HE.out,HD.out,if_neg h1,Option.map_map];congr 1;funext x;simp;omega);have hd:decide (f.name=s)=false:=decide_eq_false h1;rw[hd];clear h1 hd;go_wp2_with fail;go_roundw;case rel=>exact ⟨k+1,by omega,by go_num,HE2,HB2⟩
    case measure=>simp[RowKit.intOf];omega
  ·obtain rfl:k=l.length:=by omega
   have HN:Hid (zjc l s = -1):=hX (by rw[HZ.out,←HE.out,List.drop_length];rfl);go_wp2_with fail;go_ret;rw[HN.out];exact ⟨rfl,HB.out⟩
end Go.Proofs.YtplkbdncgkgppaaGreatDoor.Sch
end
section
namespace Go.Proofs.YtplkbdncgkgppaaGreatDoor.Sch
open Go.RowKit Words Tree SchP Kit Owned
def ycw (z:Int) (w:World) (e:Ending) (w':World):Prop:=e = .returned (.tuple #[.int .i64 (max 0 z),.bool (decide (0≤z))])∧Below w.heap.size w w'
theorem find_any (u:Value) (l:List FT) (s:ByteArray) (w:World) (hu:T.At bare w (fun g=>g<w.heap.size) (zcm l) u) (hl:l.length*72≤140737488351232) :
 Calls Tryz.prog 35 #[.agg #[u],.string s] w (ycw (zjc l s) w):=by
 obtain ⟨A,cap,rfl,_,_⟩:=zbg hu;have HC:=hX (fun (g:Nat) (W:World) (hW:Below w.heap.size w W) (hg:W.cell? ⟨g,0,none⟩=some (.string s)) (hgl:g<W.heap.size)=>zm7 A cap l s g W (At.below hu hW (fun g hg=>Nat.lt_of_lt_of_le hg hW.size)) hl hg hgl);clear hu;go_enter Tryz.func35,Tryz.ntmps35
 obtain ⟨z,hz⟩:∃z,zjc l s=z:=⟨_,rfl⟩
 rw[hz] at HC ⊢
 have hzz : -1≤z∧z≤140737488351232:=by
  rw[←hz,zgl]
  cases h:zcv l s with
  | none=>simp[zOf]
  | some i=>obtain ⟨h1,_⟩:=zcw h;simp only[zOf];omega
 clear hz;go_wp2_with fail;refine (HC.out _ _ (below2 _ _) ((blk_b w #[.slice A l.length cap] #[.string s] 24 9).cell 0) (by simp)).mono ?_;rintro e w1 ⟨rfl,hb⟩;have HB:=hX ((below2 _ _).trans (hb.mono (by simp;omega)):Below w.heap.size w w1);clear hb;rcases (show z = -1∨z=0∨0<z by omega) with rfl | rfl | h0
 ·go_wp2_with fail;go_ret2;exact ⟨rfl,HB.out⟩
 ·go_wp2_with fail;go_ret2;exact ⟨rfl,HB.out⟩
 ·have hd:decide ((0:Int)≤z)=true:=decide_eq_true (by omega);have hm:max (0:Int) z=z:=by omega
  have hd2:decide ((0:Int)<z)=true:=decide_eq_true h0;have hd3:decide (z<0)=false:=by rw[decide_eq_false_iff_not];omega
  have HQ:=hX (And.intro hm hd);clear hm hd;have hd:decide ((0:Int)≤z)=true:=HQ.out.2;go_wp2_with fail;go_ret2;exact ⟨by rw[HQ.out.1,HQ.out.2];rfl,HB.out⟩
end Go.Proofs.YtplkbdncgkgppaaGreatDoor.Sch
end
section
namespace Go.Proofs.YtplkbdncgkgppaaGreatDoor.Sch
open Go.RowKit Words Tree SchP Kit Owned AnaP
theorem zxe (k:Int):k=1∨k=2∨k=3∨k=4∨k=5∨((k == 1)=false∧(k == 2)=false∧(k == 3)=false∧(k == 4)=false∧(k == 5)=false∧(k != 1)=true∧(k != 4)=true∧(k != 5)=true∧k≠1∧k≠2∧k≠3∧k≠4∧k≠5):=by
 by_cases h1:k=1
 ·exact .inl h1
 by_cases h2:k=2
 ·exact .inr (.inl h2)
 by_cases h3:k=3
 ·exact .inr (.inr (.inl h3))
 by_cases h4:k=4
 ·exact .inr (.inr (.inr (.inl h4)))
 by_cases h5:k=5
 ·exact .inr (.inr (.inr (.inr (.inl h5))))
 exact .inr (.inr (.inr (.inr (.inr ⟨by simpa using h1,by simpa using h2,by simpa using h3,by simpa using h4,by simpa using h5,by simpa using h1,by simpa using h4,by simpa using h5,h1,h2,h3,h4,h5⟩))))
theorem zb8 (k:Int):k=0∨(k≠0∧(k != 0)=true∧(k == 0)=false):=by
 by_cases h:k=0
 ·exact .inl h
 ·exact .inr ⟨h,by simpa using h,by simpa using h⟩
theorem zm8 (k m:Int):(m≤k∧decide (m≤k)=true)∨(¬m≤k∧decide (m≤k)=false):=by
 by_cases h:m≤k
 ·exact .inl ⟨h,decide_eq_true h⟩
 ·exact .inr ⟨h,decide_eq_false h⟩
theorem zhv (n:Nat):n=0∨(n≠0∧0<n∧decide (0<n)=true):=by
 by_cases h:n=0
 ·exact .inl h
 ·exact .inr ⟨h,by omega,decide_eq_true (by omega)⟩
theorem may_any (f:FT) (v:Value) (w:World) (hv:T.At bare w (fun g=>g<w.heap.size) (zh8 .i64 f.chain) v) (ok:FOk f) :
 Calls Tryz.prog 36 #[.agg #[.string f.name,.int .i64 f.kind,v,.int .i64 f.scale,.int .i64 f.dims,.bool f.many,.bool f.stored]] w (ze2 (mayB f) w):=by
 obtain ⟨X,z,rfl,hz,hm,hrd⟩:=zmi hv;have HN:=hX (fun (W:World) (_:Below w.heap.size w W)=>zgc f.name W ok.name);have HC:=hX (fun (W:World) (hW:Below w.heap.size w W)=>Ana.zhs X f.chain.length z f.chain W rfl ((hrd.below hW).more hW.size) hz hm);clear hv hrd ok
 obtain ⟨b,hn⟩:∃b,zbx f.name=b:=⟨_,rfl⟩
 obtain ⟨r,hr0⟩:∃r,zd5 f.chain=r:=⟨_,rfl⟩
 rw[hr0] at HC;have hr:(r=true∧Ana.zw1 r=0)∨(r=false∧Ana.zw1 r=60):=by cases r <;> simp[Ana.zw1]
 have HQ:Hid (mayB f=(b && (decide (f.kind=1) || decide (f.chain.length=0)) && (decide (f.kind=4) || decide (f.scale=0)) && (decide (f.kind=5) || decide (f.dims=0)) && (if f.kind=1 then r else if f.kind=2∨f.kind=3 then true else if f.kind=4 then decide (0≤f.scale∧f.scale≤9) else if f.kind=5 then decide (1≤f.dims∧f.dims≤4) else false))):=hX (by unfold mayB yeb;rw[hn,hr0]);clear hr0;cases b
 ·skip;have HR:Hid (mayB f=false):=hX (by rw[HQ.out];simp);clear HQ;go_enter Tryz.func36,Tryz.ntmps36;go_wp2_with fail;refine (HN.out _ ((Below.refl _ w).alloc (Nat.le_refl _) _)).mono ?_;rintro e W ⟨rfl,b0⟩;have HB:=hX (((Below.refl _ w).alloc (Nat.le_refl _) _).trans (b0.mono (by simp)):Below w.heap.size w W);have BF:=hX ((Blk.new w _ _).below b0 (by simp));obtain ⟨p0,p1,p2,p3,p4,p5,p6⟩:=zwn BF.out;rw[hn];clear b0 hn;go_wp2_with fail;go_ret;rw[HR.out];exact ⟨rfl,HB.out⟩
 obtain ⟨nm,kd,ch,sc,di,mn,st⟩:=f;dsimp only at *;generalize hch:ch.length=n at *
 rcases zxe kd with rfl | rfl | rfl | rfl | rfl | ⟨e1,e2,e3,e4,e5,n1,n4,n5,k1,k2,k3,k4,k5⟩
 rcases zb8 sc with rfl | ⟨s0,s1,s2⟩
 rcases zb8 di with rfl | ⟨d0,d1,d2⟩
 have HR:Hid (mayB _=r):=hX (by rw[HQ.out];simp_all <;> omega);clear HQ
 ·skip;go_enter Tryz.func36,Tryz.ntmps36;go_wp2_with fail;refine (HN.out _ ((Below.refl _ w).alloc (Nat.le_refl _) _)).mono ?_;rintro e W ⟨rfl,b0⟩;have HB:=hX (((Below.refl _ w).alloc (Nat.le_refl _) _).trans (b0.mono (by simp)):Below w.heap.size w W);have BF:=hX ((Blk.new w _ _).below b0 (by simp));obtain ⟨p0,p1,p2,p3,p4,p5,p6⟩:=zwn BF.out;rw[hn];clear b0 hn;go_wp2_with fail;refine (HC.out W HB.out).mono ?_;rintro e W2 ⟨rfl,b1⟩;have HB2:=hX (HB.out.trans (b1.mono HB.out.size));clear b1;rcases hr with ⟨rfl,he⟩ | ⟨rfl,he⟩ <;>
  (rw[he];go_wp2_with fail;go_ret;rw[HR.out];exact ⟨rfl,HB2.out⟩)
 have HR:Hid (mayB _=false):=hX (by rw[HQ.out];simp_all <;> omega);clear HQ;rotate_left
 have HR:Hid (mayB _=false):=hX (by rw[HQ.out];simp_all <;> omega);clear HQ;rotate_left
 rcases zhv n with rfl | ⟨c0,c1,c2⟩
 rcases zb8 sc with rfl | ⟨s0,s1,s2⟩
 rcases zb8 di with rfl | ⟨d0,d1,d2⟩
 have HR:Hid (mayB _=true):=hX (by rw[HQ.out];simp_all <;> omega);clear HQ;rotate_left
 have HR:Hid (mayB _=false):=hX (by rw[HQ.out];simp_all <;> omega);clear HQ;rotate_left
 have HR:Hid (mayB _=false):=hX (by rw[HQ.out];simp_all <;> omega);clear HQ;rotate_left
 have HR:Hid (mayB _=false):=hX (by rw[HQ.out];simp_all <;> omega);clear HQ;rotate_left
 rcases zhv n with rfl | ⟨c0,c1,c2⟩
 rcases zb8 sc with rfl | ⟨s0,s1,s2⟩
 rcases zb8 di with rfl | ⟨d0,d1,d2⟩
 have HR:Hid (mayB _=true):=hX (by rw[HQ.out];simp_all <;> omega);clear HQ;rotate_left
 have HR:Hid (mayB _=false):=hX (by rw[HQ.out];simp_all <;> omega);clear HQ;rotate_left
 have HR:Hid (mayB _=false):=hX (by rw[HQ.out];simp_all <;> omega);clear HQ;rotate_left
 have HR:Hid (mayB _=false):=hX (by rw[HQ.out];simp_all <;> omega);clear HQ;rotate_left
 rcases zhv n with rfl | ⟨c0,c1,c2⟩
 rcases zb8 di with rfl | ⟨d0,d1,d2⟩
 rcases zm8 sc 0 with ⟨g0,g1⟩ | ⟨g0,g1⟩
 rcases zm8 9 sc with ⟨h0,h1⟩ | ⟨h0,h1⟩
 have HR:Hid (mayB _=true):=hX (by rw[HQ.out];simp_all <;> omega);clear HQ;rotate_left
 have HR:Hid (mayB _=false):=hX (by rw[HQ.out];simp_all <;> omega);clear HQ;rotate_left
 have HR:Hid (mayB _=false):=hX (by rw[HQ.out];simp_all <;> omega);clear HQ;rotate_left
 have HR:Hid (mayB _=false):=hX (by rw[HQ.out];simp_all <;> omega);clear HQ;rotate_left
 have HR:Hid (mayB _=false):=hX (by rw[HQ.out];simp_all <;> omega);clear HQ;rotate_left
 rcases zhv n with rfl | ⟨c0,c1,c2⟩
 rcases zb8 sc with rfl | ⟨s0,s1,s2⟩
 rcases zm8 di 1 with ⟨g0,g1⟩ | ⟨g0,g1⟩
 rcases zm8 4 di with ⟨h0,h1⟩ | ⟨h0,h1⟩
 have HR:Hid (mayB _=true):=hX (by rw[HQ.out];simp_all <;> omega);clear HQ;rotate_left
 have HR:Hid (mayB _=false):=hX (by rw[HQ.out];simp_all <;> omega);clear HQ;rotate_left
 have HR:Hid (mayB _=false):=hX (by rw[HQ.out];simp_all <;> omega);clear HQ;rotate_left
 have HR:Hid (mayB _=false):=hX (by rw[HQ.out];simp_all <;> omega);clear HQ;rotate_left
 have HR:Hid (mayB _=false):=hX (by rw[HQ.out];simp_all <;> omega);clear HQ;rotate_left
 rcases zhv n with rfl | ⟨c0,c1,c2⟩
 rcases zb8 sc with rfl | ⟨s0,s1,s2⟩
 rcases zb8 di with rfl | ⟨d0,d1,d2⟩
 have HR:Hid (mayB _=false):=hX (by rw[HQ.out];simp_all <;> omega);clear HQ;rotate_left
 have HR:Hid (mayB _=false):=hX (by rw[HQ.out];simp_all <;> omega);clear HQ;rotate_left
 have HR:Hid (mayB _=false):=hX (by rw[HQ.out];simp_all <;> omega);clear HQ;rotate_left
 have HR:Hid (mayB _=false):=hX (by rw[HQ.out];simp_all <;> omega);clear HQ;rotate_left
 all_goals
  go_enter Tryz.func36,Tryz.ntmps36;go_wp2_with fail;refine (HN.out _ ((Below.refl _ w).alloc (Nat.le_refl _) _)).mono ?_;rintro e W ⟨rfl,b0⟩;have HB:=hX (((Below.refl _ w).alloc (Nat.le_refl _) _).trans (b0.mono (by simp)):Below w.heap.size w W);have BF:=hX ((Blk.new w _ _).below b0 (by simp));obtain ⟨p0,p1,p2,p3,p4,p5,p6⟩:=zwn BF.out;rw[hn];clear b0 hn;go_wp2_with fail;go_ret;rw[HR.out];exact ⟨rfl,HB.out⟩
end Go.Proofs.YtplkbdncgkgppaaGreatDoor.Sch
end
section
namespace Go.Proofs.YtplkbdncgkgppaaGreatDoor.Qck
open Go.RowKit Words Tree SchP QckP Kit Owned Sch
theorem zhw {P:Program} {fn:Func} {p u:Tmp} {ty:TypeId} (h:fn.results=#[.cell p ty,.tmp u]) (tmps:Array Value) (w:World) (g:Nat) (cs:Array Value) (d:TypeDesc)
 (hp:tmps.getD p undef = .pointer (some ⟨g,0,none⟩)) (b0:Blk w g ty cs) (hu:P.underlying ty=some d) (hd:(match d with | .struct _ | .array _ _=>true | _=>false)=true) (hi:(P.info? ty).map (·.size)=some cs.size) :
 (results fn tmps).run P w = .ok (.tuple #[.agg cs,tmps.getD u undef]) w:=by
 rw[results_cell_tmp h,hp];simp[asAddr,run_loadVar_row w g ty ty cs (0,0) d b0 hu hd hi,Result.andThen]
theorem yf8 {B:Nat} {w W:World} {g:Nat} {t:TypeId} {c0 c1 c2 c3 c4 c5 c6:Value} (h:Blk W g t #[c0,c1,c2,c3,c4,c5,c6]) (hb:Below B w W) (hg:B≤g) (v0 v1 v2 v3 v4 v5 v6:Value):Blk (((((((W.setCell ⟨g,0,none⟩ v0).setCell ⟨g,1,none⟩ v1).setCell ⟨g,2,none⟩ v2).setCell ⟨g,3,none⟩ v3).setCell ⟨g,4,none⟩ v4).setCell ⟨g,5,none⟩ v5).setCell ⟨g,6,none⟩ v6) g t #[v0,v1,v2,v3,v4,v5,v6]∧Below B w (((((((W.setCell ⟨g,0,none⟩ v0).setCell ⟨g,1,none⟩ v1).setCell ⟨g,2,none⟩ v2).setCell ⟨g,3,none⟩ v3).setCell ⟨g,4,none⟩ v4).setCell ⟨g,5,none⟩ v5).setCell ⟨g,6,none⟩ v6):=by
 have b0:Blk (W.setCell ⟨g,0,none⟩ v0) g t #[v0,c1,c2,c3,c4,c5,c6]:=h.set_ 0 v0;have d0:Below B w (W.setCell ⟨g,0,none⟩ v0):=Below.setCell hb hg v0;have b1:Blk ((W.setCell ⟨g,0,none⟩ v0).setCell ⟨g,1,none⟩ v1) g t #[v0,v1,c2,c3,c4,c5,c6]:=b0.set_ 1 v1;have d1:Below B w ((W.setCell ⟨g,0,none⟩ v0).setCell ⟨g,1,none⟩ v1):=Below.setCell d0 hg v1;have b2:Blk (((W.setCell ⟨g,0,none⟩ v0).setCell ⟨g,1,none⟩ v1).setCell ⟨g,2,none⟩ v2) g t #[v0,v1,v2,c3,c4,c5,c6]:=b1.set_ 2 v2;have d2:Below B w (((W.setCell ⟨g,0,none⟩ v0).setCell ⟨g,1,none⟩ v1).setCell ⟨g,2,none⟩ v2):=Below.setCell d1 hg v2;have b3:Blk ((((W.setCell ⟨g,0,none⟩ v0).setCell ⟨g,1,none⟩ v1).setCell ⟨g,2,none⟩ v2).setCell ⟨g,3,none⟩ v3) g t #[v0,v1,v2,v3,c4,c5,c6]:=b2.set_ 3 v3;have d3:Below B w ((((W.setCell ⟨g,0,none⟩ v0).setCell ⟨g,1,none⟩ v1).setCell ⟨g,2,none⟩ v2).setCell ⟨g,3,none⟩ v3):=Below.setCell d2 hg v3;have b4:Blk (((((W.setCell ⟨g,0,none⟩ v0).setCell ⟨g,1,none⟩ v1).setCell ⟨g,2,none⟩ v2).setCell ⟨g,3,none⟩ v3).setCell ⟨g,4,none⟩ v4) g t #[v0,v1,v2,v3,v4,c5,c6]:=b3.set_ 4 v4;have d4:Below B w (((((W.setCell ⟨g,0,none⟩ v0).setCell ⟨g,1,none⟩ v1).setCell ⟨g,2,none⟩ v2).setCell ⟨g,3,none⟩ v3).setCell ⟨g,4,none⟩ v4):=Below.setCell d3 hg v4
 have b5:Blk ((((((W.setCell ⟨g,0,none⟩ v0).setCell ⟨g,1,none⟩ v1).setCell ⟨g,2,none⟩ v2).setCell ⟨g,3,none⟩ v3).setCell ⟨g,4,none⟩ v4).setCell ⟨g,5,none⟩ v5) g t #[v0,v1,v2,v3,v4,v5,c6]:=b4.set_ 5 v5;have d5:Below B w ((((((W.setCell ⟨g,0,none⟩ v0).setCell ⟨g,1,none⟩ v1).setCell ⟨g,2,none⟩ v2).setCell ⟨g,3,none⟩ v3).setCell ⟨g,4,none⟩ v4).setCell ⟨g,5,none⟩ v5):=Below.setCell d4 hg v5;have b6:Blk (((((((W.setCell ⟨g,0,none⟩ v0).setCell ⟨g,1,none⟩ v1).setCell ⟨g,2,none⟩ v2).setCell ⟨g,3,none⟩ v3).setCell ⟨g,4,none⟩ v4).setCell ⟨g,5,none⟩ v5).setCell ⟨g,6,none⟩ v6) g t #[v0,v1,v2,v3,v4,v5,v6]:=b5.set_ 6 v6;have d6:Below B w (((((((W.setCell ⟨g,0,none⟩ v0).setCell ⟨g,1,none⟩ v1).setCell ⟨g,2,none⟩ v2).setCell ⟨g,3,none⟩ v3).setCell ⟨g,4,none⟩ v4).setCell ⟨g,5,none⟩ v5).setCell ⟨g,6,none⟩ v6):=Below.setCell d5 hg v6;exact ⟨b6,d6⟩
def zz1:FT:=⟨⟨#[]⟩,0,[],0,0,false,false⟩
def zc6 (l:List FT) (s:ByteArray):FT × Int:=match zbw l s with
 | none=>(zz1,81)
 | some f=>(f,0)
def Sk (w:World) (ga:Nat) (l:List FT):Prop:=ga<w.heap.size∧l.length*72≤140737488351232∧∃u,w.cell? ⟨ga,0,none⟩=some u∧T.At bare w (fun g=>g<w.heap.size) (zcm l) u
theorem Sk.below {w w':World} {ga:Nat} {l:List FT} (h:Sk w ga l) (hb:Below w.heap.size w w'):Sk w' ga l:=by
 obtain ⟨h1,h2,u,h3,h4⟩:=h;exact ⟨Nat.lt_of_lt_of_le h1 hb.size,h2,u,(hb.cell h1).trans h3,At.below h4 hb (fun g hg=>Nat.lt_of_lt_of_le hg hb.size)⟩
def zz2 (l:List FT) (s:ByteArray) (w:World) (e:Ending) (w':World):Prop:=
 ∃vs,e = .returned (.tuple #[.agg vs.toArray,.int .i64 (zc6 l s).2])∧Below w.heap.size w w'∧T.AtL bare w' (fun g=>g<w.heap.size) (zgu (zc6 l s).1) vs
theorem ycx (w:World) (B:Nat):T.AtL bare w (fun g=>g<B) (zgu zz1) [.string ⟨#[]⟩,.int .i64 0,.slice none 0 0,.int .i64 0,.int .i64 0,.bool false,.bool false]:=by
 refine zhr ?_;simp only[zh8,zz1,T.At];exact ⟨none,0,[],rfl,by simp[bare],by simp[maxLen],by simp,by simp[bare],trivial⟩
theorem zxf (ga:Nat) (l:List FT) (s:ByteArray) (w:World) (h:Sk w ga l) :
 Calls Tryz.prog 38 #[.pointer (some ⟨ga,0,none⟩),.string s] w (zz2 l s w):=by
 obtain ⟨hga,hl,u,hcu,hu⟩:=h;have HFI:=hX (fun (W:World) (hW:Below w.heap.size w W)=>find_any u l s W (At.below hu hW (fun g hg=>Nat.lt_of_lt_of_le hg hW.size)) hl);obtain ⟨A,cap,rfl,hc,hm,hel⟩:=zry zem hu;have EL:=hX hel;clear hel hu;go_enter Tryz.func38,Tryz.ntmps38;have HCU:=hX hcu;have HB:=hX ((Below.refl _ w).alloc (Nat.le_refl _) (Obj.cells #[.string ⟨#[]⟩,.int .i64 0,.slice none 0 0,.int .i64 0,.int .i64 0,.bool false,.bool false] 61));have hcu1:=(HB.out.cell (p:=⟨ga,0,none⟩) hga).trans hcu;have BZ:=hX (Blk.new w 61 #[.string ⟨#[]⟩,.int .i64 0,.slice none 0 0,.int .i64 0,.int .i64 0,.bool false,.bool false]);go_wp2_with fail;refine (HFI.out _ HB.out).mono ?_;rintro e w1 ⟨rfl,hb1⟩;have B0:Blk w1 w.heap.size 61 _:=BZ.out.below hb1 (by simp);have HB1:=hX (HB.out.trans (hb1.mono (by simp)):Below w.heap.size w w1);have hc1:w1.cell? ⟨ga,0,none⟩=some (.slice A l.length cap):=(HB1.out.cell hga).trans hcu;have hz1:=HB1.out.size;have hs1:w.heap.size<w1.heap.size:=B0.lt;clear hb1 hcu1 hcu
 cases hf:zcv l s with
 | none=>
  have hz:zjc l s = -1:=by rw[zgl,hf];rfl
  have hG:zc6 l s=(zz1,81):=by rw[zc6,zbw,hf];rfl
  have HZ:=hX (yf8 B0 HB1.out (Nat.le_refl _) (.string ⟨#[]⟩) (.int .i64 0) (.slice none 0 0) (.int .i64 0) (.int .i64 0) (.bool false) (.bool false));have HG:=hX hG;obtain ⟨r0,r1,r2,r3,r4,r5,r6⟩:=zwn B0;have z0:w1.frozen? ⟨w.heap.size,0,none⟩=false:=B0.frozen 0;have z1:w1.frozen? ⟨w.heap.size,1,none⟩=false:=B0.frozen 1;have z2:w1.frozen? ⟨w.heap.size,2,none⟩=false:=B0.frozen 2;have z3:w1.frozen? ⟨w.heap.size,3,none⟩=false:=B0.frozen 3;have z4:w1.frozen? ⟨w.heap.size,4,none⟩=false:=B0.frozen 4;have z5:w1.frozen? ⟨w.heap.size,5,none⟩=false:=B0.frozen 5;have z6:w1.frozen? ⟨w.heap.size,6,none⟩=false:=B0.frozen 6;rw[hz];clear B0 hf hz hG;go_wp2_with fail;refine ⟨rfl,_,zhw rfl _ _ w.heap.size _ _ rfl HZ.out.1 Tryz.underlying61 rfl (by kernel_rfl),?_⟩;refine ⟨_,by rw[HG.out];rfl,HZ.out.2,?_⟩;rw[HG.out];exact ycx _ _
 | some i=>
  obtain ⟨hi,-,-⟩:=zcw hf;have hz:zjc l s=(i:Int):=by rw[zgl,hf];rfl
  have hG:zc6 l s=(l[i],0):=by rw[zc6,zbw,hf];simp[hi]
  rw[hz];obtain ⟨ad,us,rfl,hba,au,lu,cu⟩:=EL.out i hi;replace cu:=cu.keep (w':=w1) (fun p hp=>HB1.out.cell (by rw[hp,zab];exact hba));have hab:(ad.add (i*7)).block<w1.heap.size:=by rw[zab];omega
  generalize l[i]=f at *;have HAU:=hX (And.intro au hba);obtain ⟨vc,rfl,gc⟩:=zdx au;obtain ⟨X,z,rfl,_,_⟩:=zbg gc;obtain ⟨a0,a1',a2',a3,a4,a5,a6⟩:=zzo cu;have HZ:=hX (yf8 B0 HB1.out (Nat.le_refl _) (.string f.name) (.int .i64 f.kind) (.slice X f.chain.length z) (.int .i64 f.scale) (.int .i64 f.dims) (.bool f.many) (.bool f.stored));have HG:=hX hG;have HBX:=hX B0;have hm1:max 0 (i:Int)=i:=by omega
  have hd1:decide (0≤(i:Int))=true:=decide_eq_true (by omega);rw[hm1,hd1];clear cu hm1 hd1 B0 hf hz hG au gc lu;obtain ⟨f0,f1,f2,f3,f4,f5,f6⟩:=f;dsimp only at *;have HA:=hX (And.intro HAU.out.1 (Nat.le_refl w.heap.size));clear HAU HFI EL HCU;have B0:=HBX.out;obtain ⟨r0,r1,r2,r3,r4,r5,r6⟩:=zwn B0;have z0:w1.frozen? ⟨w.heap.size,0,none⟩=false:=B0.frozen 0;have z1:w1.frozen? ⟨w.heap.size,1,none⟩=false:=B0.frozen 1;have z2:w1.frozen? ⟨w.heap.size,2,none⟩=false:=B0.frozen 2;have z3:w1.frozen? ⟨w.heap.size,3,none⟩=false:=B0.frozen 3;have z4:w1.frozen? ⟨w.heap.size,4,none⟩=false:=B0.frozen 4;have z5:w1.frozen? ⟨w.heap.size,5,none⟩=false:=B0.frozen 5;have z6:w1.frozen? ⟨w.heap.size,6,none⟩=false:=B0.frozen 6;clear B0 HBX HB BZ;have HS:=hX hs1;clear hs1 hz1;generalize hgb:w.heap.size=gb at *;have HGB:=hX hgb;clear hgb;go_wp2_with fail;refine ⟨rfl,_,zhw rfl _ _ gb _ _ rfl HZ.out.1 Tryz.underlying61 rfl (by kernel_rfl),?_⟩;have hgb:=HGB.out;subst hgb;refine ⟨_,by rw[HG.out];rfl,HZ.out.2,?_⟩;rw[HG.out];exact AtL.below HA.out.1 HZ.out.2 (fun g hg=>hg)
end Go.Proofs.YtplkbdncgkgppaaGreatDoor.Qck
end
section
namespace Go.Proofs.YtplkbdncgkgppaaGreatDoor.Qry
open Go.RowKit Words Tree QryP Kit Owned Sch SchP RewP Ana Qck QckP
def Mk (w:World) (l:List FT) (u:Value):Prop:=T.At bare w (fun g=>g<w.heap.size) (zcm l) u∧l.length*72≤140737488351232
def zxg (f:FT) (w:World) (e:Ending) (w':World):Prop:=
 ∃vs,e = .returned (.agg vs.toArray)∧Below w.heap.size w w'∧T.AtL bare w' (fun g=>g<w.heap.size) (zgu f) vs
theorem zl8 (u:Value) (l:List FT) (s:ByteArray) (f:FT) (w:World) (h:Mk w l u) (hff:zbw l s=some f) :
 Calls Tryz.prog 66 #[.agg #[u],.string s] w (zxg f w):=by
 obtain ⟨hu,hl⟩:=h;have HFI:=hX (fun (W:World) (hW:Below w.heap.size w W)=>find_any u l s W (At.below hu hW (fun g hg=>Nat.lt_of_lt_of_le hg hW.size)) hl);obtain ⟨A,cap,rfl,hc,hm,hel⟩:=zry zem hu;have EL:=hX hel;clear hel hu
 obtain ⟨i,hf,hfi⟩:∃i,zcv l s=some i∧l[i]?=some f:=by
  unfold zbw at hff
  cases h:zcv l s with
  | none=>rw[h] at hff;cases hff
  | some i=>rw[h] at hff;exact ⟨i,rfl,hff⟩
 obtain ⟨hi,-,-⟩:=zcw hf;have hfl:l[i]=f:=by rw[List.getElem?_eq_getElem hi] at hfi;injection hfi
 have hz:zjc l s=(i:Int):=by rw[zgl,hf];rfl
 rw[hz] at HFI;have HB0:=hX ((Below.refl _ w).alloc (Nat.le_refl _) (Obj.cells #[.slice A l.length cap] 57));have hz1:(w.alloc (Obj.cells #[.slice A l.length cap] 57)).heap.size=w.heap.size+1:=by simp
 have HB:Hid (Below w.heap.size w ((w.alloc (Obj.cells #[.slice A l.length cap] 57)).alloc (Obj.cells #[.string ⟨#[]⟩,.int .i64 0,.slice none 0 0,.int .i64 0,.int .i64 0,.bool false,.bool false] 61))):=hX (HB0.out.alloc (by omega) _);have BM:Blk ((w.alloc (Obj.cells #[.slice A l.length cap] 57)).alloc (Obj.cells #[.string ⟨#[]⟩,.int .i64 0,.slice none 0 0,.int .i64 0,.int .i64 0,.bool false,.bool false] 61)) w.heap.size 57 #[.slice A l.length cap]:=(Blk.new w 57 #[.slice A l.length cap]).alloc _
 have BZ:Blk ((w.alloc (Obj.cells #[.slice A l.length cap] 57)).alloc (Obj.cells #[.string ⟨#[]⟩,.int .i64 0,.slice none 0 0,.int .i64 0,.int .i64 0,.bool false,.bool false] 61)) (w.heap.size+1) 61 #[.string ⟨#[]⟩,.int .i64 0,.slice none 0 0,.int .i64 0,.int .i64 0,.bool false,.bool false]:=(by rw[←hz1];exact Blk.new _ _ _)
 have HBM:=hX BM;have HBZ:=hX BZ;have hcm:=BM.cell 0;clear BM BZ;go_enter Tryz.func66,Tryz.ntmps66;go_upto_region 1 with fail;generalize ((w.alloc (Obj.cells #[.slice A l.length cap] 57)).alloc (Obj.cells #[.string ⟨#[]⟩,.int .i64 0,.slice none 0 0,.int .i64 0,.int .i64 0,.bool false,.bool false] 61))=W0 at *;go_wp2_with fail;refine (HFI.out _ HB.out).mono ?_;rintro e w1 ⟨rfl,hb1⟩;have B0:Blk w1 (w.heap.size+1) 61 _:=HBZ.out.below hb1 HBZ.out.lt;have BM1:Blk w1 w.heap.size 57 _:=HBM.out.below hb1 HBM.out.lt;have HB1:=hX (HB.out.trans (hb1.mono HB.out.size):Below w.heap.size w w1);have hc1:w1.cell? ⟨w.heap.size,0,none⟩=some (.slice A l.length cap):=BM1.cell 0;have hs1:w.heap.size+1<w1.heap.size:=B0.lt;clear hb1 hcm hz1;obtain ⟨ad,us,rfl,hba,au,lu,cu⟩:=EL.out i hi;replace cu:=cu.keep (w':=w1) (fun p hp=>HB1.out.cell (by rw[hp,zab];exact hba));rw[hfl] at au;have HAU:=hX (And.intro au hba);obtain ⟨vc,rfl,gc⟩:=zdx au;obtain ⟨X,z,rfl,_,_⟩:=zbg gc;obtain ⟨a0,a1,a2,a3,a4,a5,a6⟩:=zzo cu;have HZ:=hX (yf8 B0 HB1.out (Nat.le_succ _) (.string f.name) (.int .i64 f.kind) (.slice X f.chain.length z) (.int .i64 f.scale) (.int .i64 f.dims) (.bool f.many) (.bool f.stored));have hm1:max 0 (i:Int)=i:=by omega
 have hd1:decide (0≤(i:Int))=true:=decide_eq_true (by omega);have h01:(0:Int)≤(i:Int):=by omega
 have h02:(i:Int)<(l.length:Int):=by omega
 rw[hm1,hd1];clear cu hm1 hd1 hf hz au gc lu hff hfi;obtain ⟨r0,r1,r2,r3,r4,r5,r6⟩:=zwn B0;have z0:w1.frozen? ⟨w.heap.size+1,0,none⟩=false:=B0.frozen 0;have z1:w1.frozen? ⟨w.heap.size+1,1,none⟩=false:=B0.frozen 1;have z2:w1.frozen? ⟨w.heap.size+1,2,none⟩=false:=B0.frozen 2;have z3:w1.frozen? ⟨w.heap.size+1,3,none⟩=false:=B0.frozen 3;have z4:w1.frozen? ⟨w.heap.size+1,4,none⟩=false:=B0.frozen 4;have z5:w1.frozen? ⟨w.heap.size+1,5,none⟩=false:=B0.frozen 5;have z6:w1.frozen? ⟨w.heap.size+1,6,none⟩=false:=B0.frozen 6;clear B0 BM1;go_wp2_with fail;refine ⟨rfl,_,results_cell_row rfl _ _ (w.heap.size+1) 61 _ (0,0) _ rfl HZ.out.1 Tryz.underlying61 rfl (by kernel_rfl),?_⟩;refine ⟨_,rfl,HZ.out.2,?_⟩;exact AtL.below HAU.out.1 HZ.out.2 (fun g hg=>hg)
end Go.Proofs.YtplkbdncgkgppaaGreatDoor.Qry
end
section
namespace Go.Proofs.YtplkbdncgkgppaaGreatDoor.Ana
open Go.RowKit Go.Lib AnaP Words Tree Kit Owned
def BoolB (b:Bool) (w:World) (e:Ending) (w':World):Prop:=e = .returned (.bool b)∧Below w.heap.size w w'
theorem zo6 {w:World} {B n:Nat} {ao:Option Addr} {ts:List TokD} (h:Reads w B 4 ao n (zah ts)) (hn:n=ts.length) {k:Nat} (hk:k<ts.length) :
 ∃ad,ao=some ad∧ad.block<B∧w.cell? (ad.add (k*4))=some (.string ts[k].text)∧w.cell? ⟨(ad.add (k*4)).block,(ad.add (k*4)).off+1,none⟩=some (.int .i64 ts[k].pos)∧w.cell? ⟨(ad.add (k*4)).block,(ad.add (k*4)).off+2,none⟩=some (.int .i64 ts[k].frm)∧w.cell? ⟨(ad.add (k*4)).block,(ad.add (k*4)).off+3,none⟩=some (.int .i64 ts[k].til):=by
 obtain ⟨ad,ha,hb,hc⟩:=zsr cells_len h hn hk;exact ⟨ad,ha,hb,hc.zero,hc.at_ 1 _ rfl (by omega),hc.at_ 2 _ rfl (by omega),hc.at_ 3 _ rfl (by omega)⟩
theorem zm9:(Tryz.prog.info? 98).map (fun i=>(i.zero,i.size,i.bytes))=some (some (.agg #[.string ⟨#[]⟩,.int .i64 0,.int .i64 0,.int .i64 0]),4,40):=by kernel_rfl
theorem zq1 {u:Value} {ts:List TokD} (h:u∈zah ts):u.oneCell'=true:=by
 unfold zah at h;rw[List.mem_flatMap] at h;obtain ⟨t,_,h⟩:=h;simp only[TokD.cells,List.mem_cons,List.not_mem_nil,or_false] at h;rcases h with rfl | rfl | rfl | rfl <;> rfl
theorem zdy (a b:List TokD):zah (a++b)=zah a++zah b:=by simp[zah]
theorem cells_new (w:World) (l:List Value) (t:TypeId) (j:Nat) (u:Value) (h:l[j]?=some u):(w.alloc (.cells l.toArray t)).cell? ((⟨w.heap.size,0,none⟩:Addr).add j)=some u:=by
 have e:(⟨w.heap.size,0,none⟩:Addr).add j=⟨w.heap.size,j,none⟩:=by unfold Addr.add;split <;> simp_all
 rw[e,World.cell?_alloc_new];simpa using h
end Go.Proofs.YtplkbdncgkgppaaGreatDoor.Ana
end
