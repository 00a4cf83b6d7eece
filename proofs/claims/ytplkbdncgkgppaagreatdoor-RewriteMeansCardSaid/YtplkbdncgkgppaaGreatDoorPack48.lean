/- Lemmas that the last text leans on. -/
import Derived.Test.YtplkbdncgkgppaaGreatDoorTake
import Derived.Test.YtplkbdncgkgppaaGreatDoorQryPar17
import Derived.Recover
import Derived.Test.YtplkbdncgkgppaaGreatDoorPack40
import Derived.Test.YtplkbdncgkgppaaGreatDoorPack13
import Derived.Test.YtplkbdncgkgppaaGreatDoorPack32
import Derived.Test.YtplkbdncgkgppaaGreatDoorPack15
import Derived.Test.YtplkbdncgkgppaaGreatDoorPack36
set_option linter.all false
set_option maxRecDepth 100000
set_option maxHeartbeats 16000000
section
namespace Go.Proofs.YtplkbdncgkgppaaGreatDoor.Qry
open Go.RowKit Words Tree QryP Kit Sch SchP Owned
theorem yab (B:Nat) (s:ByteArray) (hs:s.size≤4096):∀(d above:Nat),above+d=6→zqx B s above:=by
 intro d
 induction d with
 | zero=>
  intro above ha gp k w h hB hT;obtain rfl:above=6:=by omega
  cases hK:zdo (6 - 6) (rem s k) with
  | error ec=>
   have h1:=yaa B s hs 6 (by omega) ec gp k w h hB hT hK
   have e:zaz zap zbr (6 - 6) (rem s k) = .error ec:=(by show zaz zap zbr 0 (rem s k)=_;rw[zwc];replace hK:zdo 0 (rem s k) = .error ec:=hK;rw[hK])
   rw[e];exact h1
  | ok p=>exact (zz9 hK).elim
 | succ d ih=>
  intro above ha gp k w h hB hT;have hQ:=ih (above+1) (by omega);have hd:6 - above=(5 - above)+1:=by omega
  cases hK:zdo (6 - above) (rem s k) with
  | error ec=>
   have h1:=yaa B s hs above (by omega) ec gp k w h hB hT hK;have e:zaz zap zbr (6 - above) (rem s k) = .error ec:=by rw[hd,zqy,←hd,hK]
   rw[e];exact h1
  | ok p=>
   obtain ⟨n,r1⟩:=p;have hn:=(zff (6 - above) (rem s k)).2 n r1 hK;have e:zaz zap zbr (6 - above) (rem s k)=if n=1∨n=2 then .ok (.mk n 0 emp emp emp [] [] 0 0 [],r1) else zir (5 - above) n r1:=by rw[hd,zqy,←hd,hK]
   rw[e];by_cases h12:n=1∨n=2
   ·rw[if_pos h12];exact yfp B s hs above (by omega) n r1 gp k w h hB hT hK h12
   ·rw[if_neg h12];by_cases h37:n≤7
    ·exact yfq B s hs above (by omega) n r1 gp k w h hB hT hK ⟨by omega,h37⟩
    ·have h3:n=8∨n=9∨n=10:=by omega
     rcases h3 with h8 | h9 | h10
     ·exact yfw B s hs above (by omega) n r1 gp k w h hB hT hK (by omega) hQ h8
     ·exact yfr B s hs above (by omega) n r1 gp k w h hB hT hK (by omega) hQ h9
     ·exact yc4 B s hs above (by omega) n r1 gp k w h hB hT hK (by omega) hQ h10
end Go.Proofs.YtplkbdncgkgppaaGreatDoor.Qry
end
section
namespace Go.Proofs.YtplkbdncgkgppaaGreatDoor.Qry
open Go.RowKit Words Tree QryP Kit Sch SchP Owned
theorem zqz (W:World) (v:Value):(Instr.typeAssert (.iface 100 v) 20 100 true).run Tryz.prog W = .ok (.tuple #[v,.bool true]) W:=by kernel_rfl
theorem zsr (W:World):(Instr.typeAssert .nilIface 20 100 true).run Tryz.prog W = .ok (.tuple #[.agg #[.int .i64 0,.int .i64 0],.bool false]) W:=by kernel_rfl
theorem yfx (W:World):(Go.binOp .neq 20 .nilIface .nilIface).run Tryz.prog W = .ok (.bool false) W:=by kernel_rfl
theorem zq0 {w:World} {B g0 g1 g2:Nat} {tq ta te:TypeId} {c0 c1 c2 c3 c4 c5 c6 c7 c8 c9 x y:Value} (hq:Blk w g0 tq #[c0,c1,c2,c3,c4,c5,c6,c7,c8,c9]) (ha:Blk w g1 ta #[x]) (he:Blk w g2 te #[y]) (h1:g0<g1) (h2:g1<g2) (hB:B≤g0) (v0 v1 v2 v3 v4 v5 v6 v7 v8 v9 a e:Value) :
 Blk ((((((((((((w.setCell ⟨g0,0,none⟩ v0).setCell ⟨g0,1,none⟩ v1).setCell ⟨g0,2,none⟩ v2).setCell ⟨g0,3,none⟩ v3).setCell ⟨g0,4,none⟩ v4).setCell ⟨g0,5,none⟩ v5).setCell ⟨g0,6,none⟩ v6).setCell ⟨g0,7,none⟩ v7).setCell ⟨g0,8,none⟩ v8).setCell ⟨g0,9,none⟩ v9).setCell ⟨g1,0,none⟩ a).setCell ⟨g2,0,none⟩ e) g0 tq #[v0,v1,v2,v3,v4,v5,v6,v7,v8,v9]∧Blk ((((((((((((w.setCell ⟨g0,0,none⟩ v0).setCell ⟨g0,1,none⟩ v1).setCell ⟨g0,2,none⟩ v2).setCell ⟨g0,3,none⟩ v3).setCell ⟨g0,4,none⟩ v4).setCell ⟨g0,5,none⟩ v5).setCell ⟨g0,6,none⟩ v6).setCell ⟨g0,7,none⟩ v7).setCell ⟨g0,8,none⟩ v8).setCell ⟨g0,9,none⟩ v9).setCell ⟨g1,0,none⟩ a).setCell ⟨g2,0,none⟩ e) g1 ta #[a]∧Blk ((((((((((((w.setCell ⟨g0,0,none⟩ v0).setCell ⟨g0,1,none⟩ v1).setCell ⟨g0,2,none⟩ v2).setCell ⟨g0,3,none⟩ v3).setCell ⟨g0,4,none⟩ v4).setCell ⟨g0,5,none⟩ v5).setCell ⟨g0,6,none⟩ v6).setCell ⟨g0,7,none⟩ v7).setCell ⟨g0,8,none⟩ v8).setCell ⟨g0,9,none⟩ v9).setCell ⟨g1,0,none⟩ a).setCell ⟨g2,0,none⟩ e) g2 te #[e]∧Below B w ((((((((((((w.setCell ⟨g0,0,none⟩ v0).setCell ⟨g0,1,none⟩ v1).setCell ⟨g0,2,none⟩ v2).setCell ⟨g0,3,none⟩ v3).setCell ⟨g0,4,none⟩ v4).setCell ⟨g0,5,none⟩ v5).setCell ⟨g0,6,none⟩ v6).setCell ⟨g0,7,none⟩ v7).setCell ⟨g0,8,none⟩ v8).setCell ⟨g0,9,none⟩ v9).setCell ⟨g1,0,none⟩ a).setCell ⟨g2,0,none⟩ e):=by
 have hb:=zc6 hq v0 v1 v2 v3 v4 v5 v6 v7 v8 v9;have hg:=zbv w g0 v0 v1 v2 v3 v4 v5 v6 v7 v8 v9;have ha1:=ha.grown hg (fun e=>by injection e with e;omega);have he1:=he.grown hg (fun e=>by injection e with e;omega);have hB1:=zdk (B:=B) hg (by have:=hq.lt;omega) hB;generalize ((((((((((w.setCell ⟨g0,0,none⟩ v0).setCell ⟨g0,1,none⟩ v1).setCell ⟨g0,2,none⟩ v2).setCell ⟨g0,3,none⟩ v3).setCell ⟨g0,4,none⟩ v4).setCell ⟨g0,5,none⟩ v5).setCell ⟨g0,6,none⟩ v6).setCell ⟨g0,7,none⟩ v7).setCell ⟨g0,8,none⟩ v8).setCell ⟨g0,9,none⟩ v9)=W at *;exact ⟨(hb.far (by show g0≠g1;omega) _).far (by show g0≠g2;omega) _,(ha1.set_ 0 a).far (by show g1≠g2;omega) _,(he1.far (by show g2≠g1;omega) _).set_ 0 e,(hB1.setCell (by show B≤g1;omega) _).setCell (by show B≤g2;omega) _⟩
theorem zss (g0 g1 g2:Nat) (k c:Int) (older:List PanicEntry) (w:World) {c0 c1 c2 c3 c4 c5 c6 c7 c8 c9 x y:Value} (hq:Blk w g0 28 #[c0,c1,c2,c3,c4,c5,c6,c7,c8,c9]) (ha:Blk w g1 3 #[x]) (he:Blk w g2 31 #[y]) (h1:g0<g1) (h2:g1<g2) :
 CallsD Tryz.prog 50 #[.pointer (some ⟨g0,0,none⟩),.pointer (some ⟨g1,0,none⟩),.pointer (some ⟨g2,0,none⟩)] (.panicking ({ v:=zqo k c,recovered:=false }::older)) w fun e u' w'=>
  e = .returned (.tuple #[])∧u' = .panicking ({ v:=zqo k c,recovered:=true }::older)∧Blk w' g0 28 zay∧Blk w' g1 3 #[.int .i64 k]∧Blk w' g2 31 #[.int .i64 c]∧Below g0 w w':=by
 refine callsD_of_wpS Tryz.func50 rfl fun c₀ cs hu=>?_;simp only[Tryz.ntmps50,List.size_toArray,List.length_cons,List.length_nil,Nat.reduceAdd,Nat.reduceSub,Array.replicate_succ,Array.replicate_zero,List.push_toArray,List.append_toArray,List.nil_append,List.cons_append];apply wpS_seq;apply wpS_region;simp[wpOpsS,go_sem,recoverD,hu,Exit.thenS,zqo];refine wpS_of_wp ?_;have h01:=zqz w (.agg #[.int .i64 k,.int .i64 c]);have hgc:=hq.lt;have hga:=ha.lt;have hge:=he.lt;have HQ:=hX hq;have HA:=hX ha;have HE:=hX he;clear hq ha he;go_upto_region 3 with fail;have hb1:Below w.heap.size w (w.alloc (.cells #[.int .i64 k,.int .i64 c] 100)):=(Below.refl _ w).alloc (Nat.le_refl _) _;have HQ1:=hX (HQ.out.below hb1 hgc);have HA1:=hX (HA.out.below hb1 hga);have HE1:=hX (HE.out.below hb1 hge);have HF1:=hX (Blk.new w 100 #[.int .i64 k,.int .i64 c]);have HB1:=hX (Below.mono hb1 (show g0≤w.heap.size by omega));clear hb1 HQ HA HE;generalize w.alloc (.cells #[.int .i64 k,.int .i64 c] 100)=w1 at *;generalize w.heap.size=gf at *;have f0:w1.cell? ⟨gf,0,none⟩=some (.int .i64 k):=HF1.out.cell 0;have f1:w1.cell? ⟨gf,1,none⟩=some (.int .i64 c):=HF1.out.cell 1;have a0:w1.cell? ⟨g1,0,none⟩=some x:=HA1.out.cell 0;have e0:w1.cell? ⟨g2,0,none⟩=some y:=HE1.out.cell 0;have za:w1.frozen? ⟨g1,0,none⟩=false:=HA1.out.frozen 0;have ze:w1.frozen? ⟨g2,0,none⟩=false:=HE1.out.frozen 0;have n1:g0≠g1:=by omega
 have n2:g0≠g2:=by omega
 have n3:g1≠g2:=by omega
 have n4:g0≠gf:=by omega
 have n5:g1≠gf:=by omega
 have n6:g2≠gf:=by omega
 obtain ⟨q0,q1,q2,q3,q4,q5,q6,q7,q8,q9⟩:=b10 HQ1.out;obtain ⟨z0,z1,z2,z3,z4,z5,z6,z7,z8,z9⟩:=z10 HQ1.out;go_region;obtain ⟨b0,b1,b2,b3⟩:=zq0 HQ1.out HA1.out HE1.out h1 h2 (Nat.le_refl g0) (.int .i64 0) (.int .i64 0) (.string ⟨#[]⟩) (.string ⟨#[]⟩) (.string ⟨#[]⟩) (.slice none 0 0) (.slice none 0 0) (.int .i64 0) (.int .i64 0) (.slice none 0 0) (.int .i64 k) (.int .i64 c);exact ⟨rfl,_,rfl,_,results_none rfl _ _ _,rfl,rfl,b0.drew,b1.drew,b2.drew,HB1.out.trans (below_drewN b3 1)⟩
theorem zwd (g0 g1 g2:Nat) (w:World) :
 CallsD Tryz.prog 50 #[.pointer (some ⟨g0,0,none⟩),.pointer (some ⟨g1,0,none⟩),.pointer (some ⟨g2,0,none⟩)] .returning w fun e u' w'=>e = .returned (.tuple #[])∧u' = .returning∧Below w.heap.size w w':=by
 refine callsD_of_wpS Tryz.func50 rfl fun c₀ cs hu=>?_;simp only[Tryz.ntmps50,List.size_toArray,List.length_cons,List.length_nil,Nat.reduceAdd,Nat.reduceSub,Array.replicate_succ,Array.replicate_zero,List.push_toArray,List.append_toArray,List.nil_append,List.cons_append];apply wpS_seq;apply wpS_region;simp[wpOpsS,go_sem,recoverD,hu,Exit.thenS];refine wpS_of_wp ?_;have h01:=zsr w;have hb1:Below w.heap.size w (w.alloc (.cells #[.int .i64 0,.int .i64 0] 100)):=(Below.refl _ w).alloc (Nat.le_refl _) _;have h02:=yfx (w.alloc (.cells #[.int .i64 0,.int .i64 0] 100));go_wp2_with fail;exact ⟨rfl,.returning,by rw[←hu],_,results_none rfl _ _ _,rfl,rfl,hb1⟩
theorem zfv {P:Program} {fn:Func} {p q r:Tmp} {ty ta te:TypeId} (h:fn.results=#[.cell p ty,.cell q ta,.cell r te]) (tmps:Array Value) (w:World) (g0 g1 g2:Nat) (cs:Array Value) (x y:Value) (d:TypeDesc)
 (hp:tmps.getD p undef = .pointer (some ⟨g0,0,none⟩)) (hq:tmps.getD q undef = .pointer (some ⟨g1,0,none⟩)) (hr:tmps.getD r undef = .pointer (some ⟨g2,0,none⟩)) (b0:Blk w g0 ty cs) (b1:Blk w g1 ta #[x]) (b2:Blk w g2 te #[y])
 (hu:P.underlying ty=some d) (hd:(match d with | .struct _ | .array _ _=>true | _=>false)=true) (hi:(P.info? ty).map (·.size)=some cs.size)
 (h1:(Go.loadVar ta ⟨g1,0,none⟩).run P w = .ok x w) (h2:(Go.loadVar te ⟨g2,0,none⟩).run P w = .ok y w) :
 (results fn tmps).run P w = .ok (.tuple #[.agg cs,x,y]) w:=by
 have hp':tmps[p]?.getD undef = .pointer (some ⟨g0,0,none⟩):=by simpa using hp
 have hq':tmps[q]?.getD undef = .pointer (some ⟨g1,0,none⟩):=by simpa using hq
 have hr':tmps[r]?.getD undef = .pointer (some ⟨g2,0,none⟩):=by simpa using hr
 simp[results,h,hp',hq',hr',asAddr,run_loadVar_row w g0 ty ty cs (0,0) d b0 hu hd hi,h1,h2]
end Go.Proofs.YtplkbdncgkgppaaGreatDoor.Qry
end
section
namespace Go.Proofs.YtplkbdncgkgppaaGreatDoor.Qry
open Go.RowKit Words Tree QryP Kit Sch SchP Owned
def zne (s:ByteArray) (w:World) (x:E QT) (e:Ending) (w':World):Prop:=match x with
 | .ok q=>∃us bs,e = .returned (.tuple #[.agg us.toArray,.int .i64 0,.int .i64 0])∧OQ w' w.heap.size q us bs∧bs.Nodup∧Below w.heap.size w w'
 | .error (p,c)=>e = .returned (.tuple #[.agg zay,.int .i64 ((s.size - p:Nat):Int),.int .i64 c])∧Below w.heap.size w w'
theorem zon (w:World) (g:Nat) (x:Int) (h:Blk w g 3 #[.int .i64 x]):(Go.loadVar 3 ⟨g,0,none⟩).run Tryz.prog w = .ok (.int .i64 x) w:=by
 have hc:=h.cell 0;simp at hc;go_simp
theorem zoo (w:World) (g:Nat) (x:Int) (h:Blk w g 31 #[.int .i64 x]):(Go.loadVar 31 ⟨g,0,none⟩).run Tryz.prog w = .ok (.int .i64 x) w:=by
 have hc:=h.cell 0;simp at hc;go_simp
theorem zwe (s:ByteArray) (w:World) (hs:4096<s.size):Calls Tryz.prog 32 #[.string s] w (zne s w (zbh zap zbr s.data.toList)):=by
 have hx:zbh zap zbr s.data.toList = .error (s.size,3):=by
  unfold zbh;have hl:s.data.toList.length=s.size:=by simp
  rw[if_pos (by omega),hl]
 rw[hx];clear hx;go_enter_defers Tryz.func32,Tryz.ntmps32;go_wp2_with fail;have hb:Below w.heap.size w (((w.alloc (.cells zay 28)).alloc (.cells #[.int .i64 0] 3)).alloc (.cells #[.int .i64 3] 31)):=(((Below.refl _ w).alloc (Nat.le_refl _) _).alloc (by first | (simp;done) | (simp;omega)) _).alloc (by first | (simp;done) | (simp;omega)) _;have b0:Blk (((w.alloc (.cells zay 28)).alloc (.cells #[.int .i64 0] 3)).alloc (.cells #[.int .i64 3] 31)) w.heap.size 28 zay:=((Blk.new w _ _).alloc _).alloc _;have b1:Blk (((w.alloc (.cells zay 28)).alloc (.cells #[.int .i64 0] 3)).alloc (.cells #[.int .i64 3] 31)) (w.heap.size+1) 3 #[.int .i64 0]:=by rw[←show (w.alloc (.cells zay 28)).heap.size=w.heap.size+1 by simp];exact (Blk.new _ _ _).alloc _
 have b2:Blk (((w.alloc (.cells zay 28)).alloc (.cells #[.int .i64 0] 3)).alloc (.cells #[.int .i64 3] 31)) (w.heap.size+1+1) 31 #[.int .i64 3]:=by rw[←show ((w.alloc (.cells zay 28)).alloc (.cells #[.int .i64 0] 3)).heap.size=w.heap.size+1+1 by simp];exact Blk.new _ _ _
 exact ⟨_,zfv rfl _ _ w.heap.size (w.heap.size+1) (w.heap.size+1+1) _ _ _ _ rfl rfl rfl b0 b1 b2 Tryz.underlying28 rfl (by kernel_rfl) (zon _ _ _ b1) (zoo _ _ _ b2),by rw[Nat.sub_self];rfl,hb⟩
theorem ydr {s:ByteArray} {w V:World} {p:Nat} {c:Int} {T:Array Value} {c0 c1 c2 c3 c4 c5 c6 c7 c8 c9 x y:Value} (hq:Blk V w.heap.size 28 #[c0,c1,c2,c3,c4,c5,c6,c7,c8,c9]) (ha:Blk V (w.heap.size+1) 3 #[x]) (he:Blk V (w.heap.size+1+1) 31 #[y]) (hb:Below w.heap.size w V)
 (h2:T.getD 2 undef = .pointer (some ⟨w.heap.size,0,none⟩)) (h3:T.getD 3 undef = .pointer (some ⟨w.heap.size+1,0,none⟩)) (h4:T.getD 4 undef = .pointer (some ⟨w.heap.size+1+1,0,none⟩)) :
 bodyPostD Tryz.prog Tryz.f32 (zne s w (.error (p,c))) (Exit.panic [{ v:=zqo ((s.size - p:Nat):Int) c,recovered:=false }]) { tmps:=T,defers:=[{ target:=.fn (.func 50) #[.pointer (some ⟨w.heap.size,0,none⟩),.pointer (some ⟨w.heap.size+1,0,none⟩),.pointer (some ⟨w.heap.size+1+1,0,none⟩)],args:=#[] }] } V:=by
 refine leaves_cons (f:=50) (args:=#[.pointer (some ⟨w.heap.size,0,none⟩),.pointer (some ⟨w.heap.size+1,0,none⟩),.pointer (some ⟨w.heap.size+1+1,0,none⟩)]) (by simp) (by simp[go_sem]) ?_;refine (zss _ _ _ _ _ [] V hq ha he (by omega) (by omega)).mono ?_;rintro e u' w2 ⟨rfl,rfl,b0,b1,b2,hbel⟩;exact ⟨_,zfv rfl _ _ _ _ _ _ _ _ _ h2 h3 h4 b0 b1 b2 Tryz.underlying28 rfl (by kernel_rfl) (zon _ _ _ b1) (zoo _ _ _ b2),rfl,hb.trans hbel⟩
theorem yh2 {s:ByteArray} {w V:World} {q:QT} {us:List Value} {bs:List Nat} {T:Array Value} (b0:Blk V w.heap.size 28 us.toArray) (b1:Blk V (w.heap.size+1) 3 #[.int .i64 0]) (b2:Blk V (w.heap.size+1+1) 31 #[.int .i64 0]) (hb:Below w.heap.size w V)
 (hoq:OQ V w.heap.size q us bs) (hnd:bs.Nodup)
 (h2:T.getD 2 undef = .pointer (some ⟨w.heap.size,0,none⟩)) (h3:T.getD 3 undef = .pointer (some ⟨w.heap.size+1,0,none⟩)) (h4:T.getD 4 undef = .pointer (some ⟨w.heap.size+1+1,0,none⟩)) :
 bodyPostD Tryz.prog Tryz.f32 (zne s w (.ok q)) Exit.ret { tmps:=T,defers:=[{ target:=.fn (.func 50) #[.pointer (some ⟨w.heap.size,0,none⟩),.pointer (some ⟨w.heap.size+1,0,none⟩),.pointer (some ⟨w.heap.size+1+1,0,none⟩)],args:=#[] }] } V:=by
 refine leaves_cons (f:=50) (args:=#[.pointer (some ⟨w.heap.size,0,none⟩),.pointer (some ⟨w.heap.size+1,0,none⟩),.pointer (some ⟨w.heap.size+1+1,0,none⟩)]) (by simp) (by simp[go_sem]) ?_;refine (zwd _ _ _ V).mono ?_;rintro e u' w2 ⟨rfl,rfl,hbel⟩;have c0:=b0.below hbel b0.lt;have c1:=b1.below hbel b1.lt;have c2:=b2.below hbel b2.lt;have hl:=OQ.len hoq;exact ⟨_,zfv rfl _ _ _ _ _ _ _ _ _ h2 h3 h4 c0 c1 c2 Tryz.underlying28 rfl (by rw[List.size_toArray,hl];kernel_rfl) (zon _ _ _ c1) (zoo _ _ _ c2),us,bs,rfl,hoq.below hbel (Nat.le_refl _),hnd,hb.trans (hbel.mono hb.size)⟩
theorem zst (B:Nat) (s:ByteArray) (w:World) (hs:s.size≤4096) (hB:B≤w.heap.size) (hT:PT B w):Calls Tryz.prog 32 #[.string s] w (zne s w (zbh zap zbr s.data.toList)):=by
 obtain ⟨x,hx⟩:∃x,zbh zap zbr s.data.toList=x:=⟨_,rfl⟩
 rw[hx]
 have HX:Hid (x=match zaz zap zbr 6 (rem s 0) with
  | .error e=>.error e
  | .ok (q,r1)=>match zah r1 with
    | []=>.ok q
    | c::t=>.error (t.length+1,180)):=hX (by
  have hl:s.data.toList.length=s.size:=by simp
  rw[←hx,show rem s 0=s.data.toList from rfl];unfold zbh;rw[if_neg (by omega)]
  cases zaz zap zbr 6 s.data.toList with
  | error e=>rfl
  | ok p=>
   obtain ⟨q,r1⟩:=p;dsimp only
   cases zah r1 <;> rfl)
 clear hx;have hA:Below w.heap.size w ((((w.alloc (.cells zay 28)).alloc (.cells #[.int .i64 0] 3)).alloc (.cells #[.int .i64 0] 31)).alloc (.cells #[.string s,.int .i64 0] 104)):=((((Below.refl _ w).alloc (Nat.le_refl _) _).alloc (by first | (simp;done) | (simp;omega)) _).alloc (by first | (simp;done) | (simp;omega)) _).alloc (by first | (simp;done) | (simp;omega)) _;have hb0:Blk ((((w.alloc (.cells zay 28)).alloc (.cells #[.int .i64 0] 3)).alloc (.cells #[.int .i64 0] 31)).alloc (.cells #[.string s,.int .i64 0] 104)) w.heap.size 28 zay:=(((Blk.new w _ _).alloc _).alloc _).alloc _;have hb1:Blk ((((w.alloc (.cells zay 28)).alloc (.cells #[.int .i64 0] 3)).alloc (.cells #[.int .i64 0] 31)).alloc (.cells #[.string s,.int .i64 0] 104)) (w.heap.size+1) 3 #[.int .i64 0]:=by rw[←show (w.alloc (.cells zay 28)).heap.size=w.heap.size+1 by simp];exact ((Blk.new _ _ _).alloc _).alloc _
 have hb2:Blk ((((w.alloc (.cells zay 28)).alloc (.cells #[.int .i64 0] 3)).alloc (.cells #[.int .i64 0] 31)).alloc (.cells #[.string s,.int .i64 0] 104)) (w.heap.size+1+1) 31 #[.int .i64 0]:=by rw[←show ((w.alloc (.cells zay 28)).alloc (.cells #[.int .i64 0] 3)).heap.size=w.heap.size+1+1 by simp];exact (Blk.new _ _ _).alloc _
 have hb3:Blk ((((w.alloc (.cells zay 28)).alloc (.cells #[.int .i64 0] 3)).alloc (.cells #[.int .i64 0] 31)).alloc (.cells #[.string s,.int .i64 0] 104)) (w.heap.size+1+1+1) 104 #[.string s,.int .i64 0]:=by rw[←show (((w.alloc (.cells zay 28)).alloc (.cells #[.int .i64 0] 3)).alloc (.cells #[.int .i64 0] 31)).heap.size=w.heap.size+1+1+1 by simp];exact Blk.new _ _ _
 have hsz:((((w.alloc (.cells zay 28)).alloc (.cells #[.int .i64 0] 3)).alloc (.cells #[.int .i64 0] 31)).alloc (.cells #[.string s,.int .i64 0] 104)).heap.size=w.heap.size+1+1+1+1:=by simp
 have HB:=hX hA;have HB0:=hX hb0;have HB1:=hX hb1;have HB2:=hX hb2;have HB3:=hX hb3;have HT4:=hX (hT.next (hA.mono hB));have HSZ:=hX hsz;clear hA hb0 hb1 hb2 hb3 hsz hT;unfold zay at HB HB0 HB1 HB2 HB3 HT4 HSZ;have hmf:∀(fn:Fn) (first cap:Array Value) (w:World),(Instr.makeFunc fn first cap).run Tryz.prog w = .ok (.func fn first cap) w:=fun _ _ _ _=>rfl;go_enter_defers Tryz.func32,Tryz.ntmps32;go_upto_region 5 with fail;generalize ((((w.alloc (.cells #[.int .i64 0,.int .i64 0,.string ⟨#[]⟩,.string ⟨#[]⟩,.string ⟨#[]⟩,.slice none 0 0,.slice none 0 0,.int .i64 0,.int .i64 0,.slice none 0 0] 28)).alloc (.cells #[.int .i64 0] 3)).alloc (.cells #[.int .i64 0] 31)).alloc (.cells #[.string s,.int .i64 0] 104))=W at *;have HPA:Hid (Pa s (w.heap.size+1+1+1) 0 W):=hX ⟨HB3.out,Nat.zero_le _⟩;have hgB:B≤w.heap.size+1+1+1:=by omega
 have HQ:=hX (yab B s hs 6 0 rfl (w.heap.size+1+1+1) 0 W HPA.out hgB HT4.out)
 obtain ⟨y,hy⟩:∃y,zaz zap zbr 6 (rem s 0)=y:=⟨_,rfl⟩
 rw[hy] at HX;rw[show (6 - 0:Nat)=6 from rfl,hy] at HQ;clear hy;go_wp2_with fail;refine HQ.out.mono ?_;clear HQ
 match y with
 | .error (p,c)=>
   intro e w5 ho;obtain ⟨rfl,hg⟩:=ho;have hb5:=HB.out.trans (zdk (B:=w.heap.size) hg (by have:=HSZ.out;omega) (by omega));have hx:x = .error (p,c):=HX.out;subst hx;exact ydr (HB0.out.grown hg (fun e=>by injection e with e;omega)) (HB1.out.grown hg (fun e=>by injection e with e;omega)) (HB2.out.grown hg (fun e=>by injection e with e;omega)) hb5 rfl rfl rfl
 | .ok (q,r1)=>
   intro e w5 ho;obtain ⟨v,rfl,⟨us,bs,rfl,hoq,hnd⟩,hg,j1,hj1,hpa,hr⟩:=ho;subst hr;have HQ5:=hX (HB0.out.grown hg (fun e=>by injection e with e;omega));have HA5:=hX (HB1.out.grown hg (fun e=>by injection e with e;omega));have HE5:=hX (HB2.out.grown hg (fun e=>by injection e with e;omega));have HW5:=hX (HB.out.trans (zdk (B:=w.heap.size) hg (by have:=HSZ.out;omega) (by omega)));have HP5:=hX hpa;have HOQ:=hX hoq;have HND:=hX hnd;have hszW:=HSZ.out;have hbs:Hid (∀g∈bs,w.heap.size+1+1+1<g):=hX (fun g hm=>by have:=(hoq.mem g hm).1;omega);clear hg hpa hoq hnd hszW;generalize hqa:q=qa at HX HOQ;clear hqa;obtain ⟨kq,oq,fq,tq,uq,loq,hiq,bq,opq,ksq⟩:=qa;obtain ⟨cl,ch,ck,al,ah,ak,hus⟩:=OQ.shape HOQ.out;subst hus;obtain ⟨q0,q1,q2,q3,q4,q5,q6,q7,q8,q9⟩:=b10 HQ5.out;obtain ⟨z0,z1,z2,z3,z4,z5,z6,z7,z8,z9⟩:=z10 HQ5.out;have HQ6:=hX (zc6 (W:=w5) (g:=w.heap.size) HQ5.out (.int .i64 kq) (.int .i64 oq) (.string fq) (.string tq) (.string uq) (.slice al loq.length cl) (.slice ah hiq.length ch) (.int .i64 bq) (.int .i64 opq) (.slice ak ksq.length ck));have hg6:=zbv w5 (w.heap.size) (.int .i64 kq) (.int .i64 oq) (.string fq) (.string tq) (.string uq) (.slice al loq.length cl) (.slice ah hiq.length ch) (.int .i64 bq) (.int .i64 opq) (.slice ak ksq.length ck);have HA6:=hX (HA5.out.grown hg6 (fun e=>by injection e with e;omega));have HE6:=hX (HE5.out.grown hg6 (fun e=>by injection e with e;omega))
   have HW6:=hX (HW5.out.trans (zdk (B:=w.heap.size) hg6 (by have:=HQ5.out.lt;omega) (Nat.le_refl _)));have HP6:=hX (HP5.out.grown hg6 (fun e=>by injection e with e;omega));have HO6:=hX ((HOQ.out.grown hg6 (fun g hm e=>by injection e with e;have:=hbs.out g hm;omega)).le (by have:=HSZ.out;omega:w.heap.size≤W.heap.size));clear hg6;go_upto_region 6 with fail;generalize ((((((((((w5.setCell ⟨w.heap.size,0,none⟩ (.int .i64 kq)).setCell ⟨w.heap.size,1,none⟩ (.int .i64 oq)).setCell ⟨w.heap.size,2,none⟩ (.string fq)).setCell ⟨w.heap.size,3,none⟩ (.string tq)).setCell ⟨w.heap.size,4,none⟩ (.string uq)).setCell ⟨w.heap.size,5,none⟩ (.slice al loq.length cl)).setCell ⟨w.heap.size,6,none⟩ (.slice ah hiq.length ch)).setCell ⟨w.heap.size,7,none⟩ (.int .i64 bq)).setCell ⟨w.heap.size,8,none⟩ (.int .i64 opq)).setCell ⟨w.heap.size,9,none⟩ (.slice ak ksq.length ck))=w6 at *;clear q0 z0 q1 z1 q2 z2 q3 z3 q4 z4 q5 z5 q6 z6 q7 z7 q8 z8 q9 z9 HQ5 HA5 HE5 HW5 HP5 HOQ;have HSK:=hX (zd7 s (w.heap.size+1+1+1) j1 w6 HP6.out hs);go_wp2_with fail;refine HSK.out.mono ?_;clear HSK;rintro e w7 ⟨rfl,hg,j2,hj2,hpa,hr⟩;have HQ7:=hX (HQ6.out.grown hg (fun e=>by injection e with e;omega));have HA7:=hX (HA6.out.grown hg (fun e=>by injection e with e;omega));have HE7:=hX (HE6.out.grown hg (fun e=>by injection e with e;omega));have HW7:=hX (HW6.out.trans (zdk (B:=w.heap.size) hg (by have:=HQ6.out.lt;omega) (by omega)))
   have HO7:=hX (HO6.out.grown hg (fun g hm e=>by injection e with e;have:=hbs.out g hm;omega));have HP7:=hX hpa;have HR:=hX hr;have hj2s:=hpa.le;clear hg hpa hr HQ6 HA6 HE6 HW6 HP6 HO6;have c1:w7.cell? ⟨w.heap.size+1+1+1,1,none⟩=some (.int .i64 j2):=HP7.out.blk.cell 1;by_cases hlt:j2<s.size
   ·have h2:(j2:Int)<(s.size:Int):=by omega
    have hx:x = .error ((rem s j2).length,180):=by
     have h9:=HX.out;try dsimp only at h9
     rw[←HR.out,zbf hlt] at h9;rw[h9,zbf hlt];rfl
    subst hx;have HWR:=hX (za4 j2 w7);go_wp2_with fail;refine HWR.out.mono ?_;rintro e w8 ⟨rfl,rfl⟩;rw[show zf1 (j2:Int) 180=zf1 ((s.size - (s.size - j2):Nat):Int) 180 by rw[show s.size - (s.size - j2)=j2 by omega]];exact ydr HQ7.out HA7.out HE7.out HW7.out rfl rfl rfl
   ·obtain rfl:j2=s.size:=by omega
    have hx:x = .ok (.mk kq oq fq tq uq loq hiq bq opq ksq):=by
     have h9:=HX.out;try dsimp only at h9
     rw[←HR.out,zd2] at h9;exact h9
    subst hx;obtain ⟨q0,q1,q2,q3,q4,q5,q6,q7,q8,q9⟩:=b10 HQ7.out;obtain ⟨z0,z1,z2,z3,z4,z5,z6,z7,z8,z9⟩:=z10 HQ7.out;have a0:w7.cell? ⟨w.heap.size+1,0,none⟩=some (.int .i64 0):=HA7.out.cell 0;have e0:w7.cell? ⟨w.heap.size+1+1,0,none⟩=some (.int .i64 0):=HE7.out.cell 0;have za:w7.frozen? ⟨w.heap.size+1,0,none⟩=false:=HA7.out.frozen 0;have ze:w7.frozen? ⟨w.heap.size+1+1,0,none⟩=false:=HE7.out.frozen 0;have n1:w.heap.size≠w.heap.size+1:=by omega
    have n2:w.heap.size≠w.heap.size+1+1:=by omega
    have n3:w.heap.size+1≠w.heap.size+1+1:=by omega
    obtain ⟨b0,b1,b2,b3⟩:=zq0 HQ7.out HA7.out HE7.out (by omega) (by omega) (Nat.le_refl _) (.int .i64 kq) (.int .i64 oq) (.string fq) (.string tq) (.string uq) (.slice al loq.length cl) (.slice ah hiq.length ch) (.int .i64 bq) (.int .i64 opq) (.slice ak ksq.length ck) (.int .i64 0) (.int .i64 0);have HB8:=hX b0;have HB81:=hX b1;have HB82:=hX b2;have HW8:=hX (HW7.out.trans b3)
    have HO8:=hX (HO7.out.keep (w':=((((((((((((w7.setCell ⟨w.heap.size,0,none⟩ (.int .i64 kq)).setCell ⟨w.heap.size,1,none⟩ (.int .i64 oq)).setCell ⟨w.heap.size,2,none⟩ (.string fq)).setCell ⟨w.heap.size,3,none⟩ (.string tq)).setCell ⟨w.heap.size,4,none⟩ (.string uq)).setCell ⟨w.heap.size,5,none⟩ (.slice al loq.length cl)).setCell ⟨w.heap.size,6,none⟩ (.slice ah hiq.length ch)).setCell ⟨w.heap.size,7,none⟩ (.int .i64 bq)).setCell ⟨w.heap.size,8,none⟩ (.int .i64 opq)).setCell ⟨w.heap.size,9,none⟩ (.slice ak ksq.length ck)).setCell ⟨w.heap.size+1,0,none⟩ (.int .i64 0)).setCell ⟨w.heap.size+1+1,0,none⟩ (.int .i64 0))) fun g hm=>(Below.heap_setCell _ _ _ _ (by have:=hbs.out g hm;show g≠w.heap.size+1+1;omega)).trans ((Below.heap_setCell _ _ _ _ (by have:=hbs.out g hm;show g≠w.heap.size+1;omega)).trans ((zbv w7 (w.heap.size) (.int .i64 kq) (.int .i64 oq) (.string fq) (.string tq) (.string uq) (.slice al loq.length cl) (.slice ah hiq.length ch) (.int .i64 bq) (.int .i64 opq) (.slice ak ksq.length ck)).block g (HO7.out.mem g hm).2 (fun e=>by injection e with e;have:=hbs.out g hm;omega))));clear b0 b1 b2 b3;go_wp2_with fail;exact yh2 HB8.out HB81.out HB82.out HW8.out HO8.out HND.out rfl rfl rfl
theorem yac (s:ByteArray) (w:World) (hT:PTabs w):Calls Tryz.prog 32 #[.string s] w (zne s w (zbh zap zbr s.data.toList)):=by
 by_cases hs:s.size≤4096
 ·exact zst w.heap.size s w hs (Nat.le_refl _) (PT.of hT)
 ·exact zwe s w (by omega)
end Go.Proofs.YtplkbdncgkgppaaGreatDoor.Qry
end
section
namespace Go.Proofs.YtplkbdncgkgppaaGreatDoor.Qry
open Go.RowKit Words Tree QryP Kit Sch SchP Owned
theorem zuc {I:Int→Prop}:∀{ks:List QT},zb9 I ks→∀k∈ks,zfz I k
 | [],_,k,h=>by cases h
 | a::l,hf,k,h=>by
  rw[zb9] at hf;rcases List.mem_cons.1 h with rfl | h
  ·exact hf.1
  ·exact zuc hf.2 k h
theorem yi9 {n:Nat} (hn:n≤5000):∀(m:Nat) (q:QT) (u:Int),q.sz≤m→Sz n q→za0 u q=true→zfz I64 q→Ok q:=by
 intro m
 induction m with
 | zero=>intro q u h;have:=q.sz_pos;omega
 | succ m ih=>
  intro q u hm hs hf hi;obtain ⟨k,o,f,t,uu,l,h,b,p,ks⟩:=q;rw[ze6,Bool.and_eq_true] at hf;obtain ⟨hown,hkids⟩:=hf;replace hkids:zat k ks=true:=hkids;have hoc:=ydj hown;replace hoc:(u=8→1≤o∧o≤4)∧(u≠8→o=0):=hoc;obtain ⟨hk,_,_,_,_,_,_,_,_,_,hp1,hp2,_⟩:=zk2 hown;rw[zfz] at hi;obtain ⟨hil,hih,hib,hik⟩:=hi
  cases hs with
  | mk hsf hst hsu hsl hsh hsn hsk=>
  refine .mk ⟨by omega,by omega⟩ ?_ (by omega) (by omega) (by omega) ⟨by omega,hil⟩ ⟨by omega,hih⟩ hib ?_ (by omega) fun x hx=>?_
  ·by_cases hu:u=8
   ·have:=hoc.1 hu;exact ⟨by omega,by omega⟩
   ·have:=hoc.2 hu;exact ⟨by omega,by omega⟩
  ·by_cases hk10:k=10
   ·have:=hp1 hk10;exact ⟨by omega,by omega⟩
   ·have:=hp2 hk10;exact ⟨by omega,by omega⟩
  ·refine ih x k ?_ (hsk x hx) (zgz hkids x hx) (zuc hik x hx);have:=QT.sz_kid (kd:=k) (oc:=o) (f:=f) (t:=t) (u:=uu) (lo:=l) (hi:=h) (b:=b) (op:=p) hx;omega
mutual
theorem zq1:∀q:QT,zna q=T.bulkL (cells q)
 | .mk k o f t u lo hi b p ks=>by rw[znc,zna,znf ks]
theorem znf:∀ks:List QT,zhb ks=T.bulkL (zau ks)
 | []=>by rw[zhb,zau,T.bulkL]
 | q::ks=>by rw[zhb,zau,zcr,zq1 q,znf ks]
end
theorem yds {r:R} {q:QT} (h:zbh zap zbr r = .ok q):Ok q∧(zbw zap q).length+500≤zfx∧zhc q≤6∧za0 0 q=true∧zfz I64 q:=by
 obtain ⟨h1,h2,h3⟩:=zzo (I:=I64) (fun r n hn=>zz1 hn) ⟨by decide,by decide⟩ h;have hok:=yi9 (n:=4097) (by decide) q.sz q 0 (Nat.le_refl _) (ycn h) h1 h3;have hw:=zqn hok;have hm:=yco h;rw[zq1] at hm;exact ⟨hok,by unfold zfx;omega,h2,h1,h3⟩
end Go.Proofs.YtplkbdncgkgppaaGreatDoor.Qry
end
section
namespace Go.Proofs.YtplkbdncgkgppaaGreatDoor.Qry
open Go.RowKit Words Tree QryP Kit Sch SchP Owned RewP QckP
def za5:List FT:=[⟨⟨#[98,111,100,121]⟩,1,[1,10],0,0,false,false⟩,⟨⟨#[116,97,103]⟩,2,[],0,0,false,false⟩,⟨⟨#[110]⟩,3,[],0,0,false,false⟩]
def zcb (s:ByteArray):QT:=match zbh zap zbr s.data.toList with
 | .ok q=>q
 | .error _=>zdv
theorem zq2:za5.length*72≤140737488351232∧∀f∈za5,FOk f:=by
 refine ⟨by decide,fun f hf=>?_⟩;simp only[za5,List.mem_cons,List.not_mem_nil,or_false] at hf;rcases hf with rfl | rfl | rfl
 all_goals exact ⟨by decide,by unfold Sch.I64;decide,⟨by decide,fun z hz=>by (first | (simp at hz;unfold Sch.I64;omega) | (simp at hz))⟩,by unfold Sch.I64;decide,by unfold Sch.I64;decide⟩
def mt0:ByteArray:=⟨#[116,101,114,109,40,98,111,100,121,44,32,34,97,32,98,34,41]⟩
def mo0:ByteArray:=⟨#[112,104,114,97,115,101,40,98,111,100,121,44,32,34,97,32,98,34,41]⟩
theorem mp0:zbh zap zbr mt0.data.toList = .ok (zcb mt0):=by kernel_rfl
theorem mr0:zbh zap zbr mo0.data.toList = .ok (zju za5 (zcb mt0)):=by kernel_rfl
theorem mw0:str (ziv zap (zju za5 (zcb mt0)))=mo0:=by kernel_rfl
def mt1:ByteArray:=⟨#[116,101,114,109,40,98,111,100,121,44,32,34,45,34,41]⟩
def mo1:ByteArray:=⟨#[110,111,110,101]⟩
theorem mp1:zbh zap zbr mt1.data.toList = .ok (zcb mt1):=by kernel_rfl
theorem mr1:zbh zap zbr mo1.data.toList = .ok (zju za5 (zcb mt1)):=by kernel_rfl
theorem mw1:str (ziv zap (zju za5 (zcb mt1)))=mo1:=by kernel_rfl
def mt2:ByteArray:=⟨#[116,101,114,109,115,40,116,97,103,44,32,34,97,34,44,32,34,97,34,41]⟩
def mo2:ByteArray:=⟨#[116,101,114,109,40,116,97,103,44,32,34,97,34,41]⟩
theorem mp2:zbh zap zbr mt2.data.toList = .ok (zcb mt2):=by kernel_rfl
theorem mr2:zbh zap zbr mo2.data.toList = .ok (zju za5 (zcb mt2)):=by kernel_rfl
theorem mw2:str (ziv zap (zju za5 (zcb mt2)))=mo2:=by kernel_rfl
def mt3:ByteArray:=⟨#[98,111,111,108,40,61,97,108,108,41]⟩
def mo3:ByteArray:=⟨#[98,111,111,108,40,61,97,108,108,41]⟩
theorem mp3:zbh zap zbr mt3.data.toList = .ok (zcb mt3):=by kernel_rfl
theorem mr3:zbh zap zbr mo3.data.toList = .ok (zju za5 (zcb mt3)):=by kernel_rfl
theorem mw3:str (ziv zap (zju za5 (zcb mt3)))=mo3:=by kernel_rfl
def mt4:ByteArray:=⟨#[98,111,111,108,40,45,97,108,108,41]⟩
def mo4:ByteArray:=⟨#[110,111,110,101]⟩
theorem mp4:zbh zap zbr mt4.data.toList = .ok (zcb mt4):=by kernel_rfl
theorem mr4:zbh zap zbr mo4.data.toList = .ok (zju za5 (zcb mt4)):=by kernel_rfl
theorem mw4:str (ziv zap (zju za5 (zcb mt4)))=mo4:=by kernel_rfl
def mt5:ByteArray:=⟨#[98,111,111,108,40,43,116,101,114,109,40,98,111,100,121,44,32,34,97,34,41,44,32,61,98,111,111,108,40,43,116,101,114,109,40,116,97,103,44,32,34,120,34,41,44,32,63,97,108,108,44,32,45,110,111,110,101,41,41]⟩
def mo5:ByteArray:=⟨#[98,111,111,108,40,43,116,101,114,109,40,98,111,100,121,44,32,34,97,34,41,44,32,61,116,101,114,109,40,116,97,103,44,32,34,120,34,41,41]⟩
theorem mp5:zbh zap zbr mt5.data.toList = .ok (zcb mt5):=by kernel_rfl
theorem mr5:zbh zap zbr mo5.data.toList = .ok (zju za5 (zcb mt5)):=by kernel_rfl
theorem mw5:str (ziv zap (zju za5 (zcb mt5)))=mo5:=by kernel_rfl
def mt6:ByteArray:=⟨#[98,111,111,115,116,40,50,44,32,98,111,111,115,116,40,51,44,32,97,108,108,41,41]⟩
def mo6:ByteArray:=⟨#[98,111,111,115,116,40,54,44,32,97,108,108,41]⟩
theorem mp6:zbh zap zbr mt6.data.toList = .ok (zcb mt6):=by kernel_rfl
theorem mr6:zbh zap zbr mo6.data.toList = .ok (zju za5 (zcb mt6)):=by kernel_rfl
theorem mw6:str (ziv zap (zju za5 (zcb mt6)))=mo6:=by kernel_rfl
def mt7:ByteArray:=⟨#[98,111,111,108,40,43,97,108,108,44,32,45,98,111,111,115,116,40,53,44,32,116,101,114,109,40,116,97,103,44,32,34,120,34,41,41,41]⟩
def mo7:ByteArray:=⟨#[98,111,111,108,40,43,97,108,108,44,32,45,116,101,114,109,40,116,97,103,44,32,34,120,34,41,41]⟩
theorem mp7:zbh zap zbr mt7.data.toList = .ok (zcb mt7):=by kernel_rfl
theorem mr7:zbh zap zbr mo7.data.toList = .ok (zju za5 (zcb mt7)):=by kernel_rfl
theorem mw7:str (ziv zap (zju za5 (zcb mt7)))=mo7:=by kernel_rfl
end Go.Proofs.YtplkbdncgkgppaaGreatDoor.Qry
end
section
namespace Go.Proofs.YtplkbdncgkgppaaGreatDoor.Qry
open Go.RowKit Words Tree QryP Kit Sch SchP Owned RewP QckP FoldNext
theorem yc6 {X:Type} {f:X→List T} {s:Nat} (hf:∀x,(f x).length=s) {w:World} {S:Nat→Prop} {g:Nat} {et:TypeId} {vs:List Value} {xs:List X} (hb:Blk w g et vs.toArray) (hS:S g) (hm:xs.length≤1048576) (ha:T.AtL bare w S (xs.flatMap f) vs) :
 T.At bare w S (ybb s f xs) (.slice (some ⟨g,0,none⟩) xs.length xs.length):=by
 simp only[ybb,T.At]
 have hfl:∀l:List X,(l.flatMap f).length=l.length*s:=by
  intro l
  induction l with
  | nil=>simp
  | cons x l ih=>rw[List.flatMap_cons,List.length_append,ih,hf,List.length_cons,Nat.succ_mul];omega
 refine ⟨_,_,vs,rfl,by simp[bare],by unfold maxLen;omega,hfl xs,fun _=>⟨_,rfl,hS,fun j u hu=>?_⟩,ha⟩;have hadd:(⟨g,0,none⟩:Addr).add j=⟨g,j,none⟩:=by unfold Addr.add;split <;> simp_all
 rw[hadd,hb.cell j];simpa [bare] using hu
theorem yad {w:World} {S:Nat→Prop} {g:Nat} {et:TypeId} {k:IntKind} {l:List Int} (hb:Blk w g et (l.map (Value.int k)).toArray) (hS:S g) (hm:l.length≤1048576):T.At bare w S (zf5 k l) (.slice (some ⟨g,0,none⟩) l.length l.length):=by
 simp only[zf5,T.At];refine ⟨_,_,l.map (Value.int k),rfl,by simp[bare],by unfold maxLen;omega,by simp,fun _=>⟨_,rfl,hS,fun j u hu=>?_⟩,AtL.of_lits⟩;have hadd:(⟨g,0,none⟩:Addr).add j=⟨g,j,none⟩:=by unfold Addr.add;split <;> simp_all
 rw[hadd,hb.cell j];simpa [bare] using hu
def yae (f:FT) (v:Value):List Value:=[.string f.name,.int .i64 f.kind,v,.int .i64 f.scale,.int .i64 f.dims,.bool f.many,.bool f.stored]
theorem zsu (w:World) :
 Calls Tryz.prog 34 #[] w (fun e w'=>∃v,e = .returned (.agg #[v])∧T.At bare w' (fun g=>g<w'.heap.size) (zbg za5) v∧Below w.heap.size w w'):=by
 go_enter Tryz.func34,Tryz.ntmps34;go_wp2_with fail;have hb:∀(X:World) (n:Nat) (t:TypeId) (cs:Array Value),X.heap.size=n→Blk (X.alloc (.cells cs t)) n t cs:=fun X n t cs h=>by subst h;exact Blk.new X t cs
 generalize hV:(((w.alloc (Obj.cells #[Value.slice (some { block:=w.heap.size+1+1,off:=0 }) 3 3] 24)).alloc _).alloc _)=V;have B0:Blk V w.heap.size 24 #[.slice (some ⟨w.heap.size+1+1,0,none⟩) 3 3]:=by rw[←hV];exact ((Blk.new w _ _).alloc _).alloc _
 have B1:Blk V (w.heap.size+1) 3 #[.int .i64 1,.int .i64 10]:=by rw[←hV];exact (hb _ _ _ _ (by simp)).alloc _
 have B2:Blk V (w.heap.size+1+1) 61 (yae ⟨⟨#[98,111,100,121]⟩,1,[1,10],0,0,false,false⟩ (.slice (some ⟨w.heap.size+1,0,none⟩) 2 2)++(yae ⟨⟨#[116,97,103]⟩,2,[],0,0,false,false⟩ (.slice none 0 0)++(yae ⟨⟨#[110]⟩,3,[],0,0,false,false⟩ (.slice none 0 0)++[]))).toArray:=(by rw[←hV];exact hb _ _ _ _ (by simp))
 have HB:Below w.heap.size w V:=by rw[←hV];exact (((Below.refl _ _).alloc (Nat.le_refl _) _).alloc (by simp) _).alloc (by simp;omega) _
 have cz:V.cell? ⟨w.heap.size,0,none⟩=some (.slice (some ⟨w.heap.size+1+1,0,none⟩) 3 3):=B0.cell 0;clear hV;refine bodyPost_ret (v:=.agg #[.slice (some ⟨w.heap.size+1+1,0,none⟩) 3 3]) (by simp[results,Tryz.results34,go_sem,cz];try rfl) rfl ?_;refine ⟨_,rfl,?_,HB⟩;have h1:=B1.lt;have h2:=B2.lt;refine yc6 (xs:=za5) zct B2 h2 (by decide) ?_;have hn:∀{W:World} {S:Nat→Prop},T.At bare W S (zf5 .i64 []) (.slice none 0 0):=fun {W S}=>yce 1;have hq:T.At bare V (fun g=>g<V.heap.size) (zf5 .i64 [1,10]) (.slice (some ⟨w.heap.size+1,0,none⟩) 2 2):=yad (l:=[1,10]) B1 h1 (by decide);exact AtL.append (zgm (f:=⟨⟨#[98,111,100,121]⟩,1,[1,10],0,0,false,false⟩) hq) (AtL.append (zgm (f:=⟨⟨#[116,97,103]⟩,2,[],0,0,false,false⟩) hn) (AtL.append (zgm (f:=⟨⟨#[110]⟩,3,[],0,0,false,false⟩) hn) (by simp[T.AtL])))
end Go.Proofs.YtplkbdncgkgppaaGreatDoor.Qry
end
section
namespace Go.Proofs.YtplkbdncgkgppaaGreatDoor.Qry
open Go.RowKit Words Tree QryP Kit Sch SchP Owned RewP QckP FoldNext
theorem zez (s out:ByteArray) (w:World) (hp:zbh zap zbr s.data.toList = .ok (zcb s)) (hr:zbh zap zbr out.data.toList = .ok (zju za5 (zcb s))) (hw:str (ziv zap (zju za5 (zcb s)))=out) (hf:yf1 (zju za5 (zcb s))=true) (hT:zc9 w) (hP:PTabs w) :
 Calls Tryz.prog 13 #[.string s] w (StrB out w):=by
 have HP1:=hX (by rw[←hp];exact yac s w hP:Calls Tryz.prog 32 #[.string s] w (zne s w (.ok (zcb s))));obtain ⟨ok1,-⟩:=yds hp;obtain ⟨ok2,len2,-⟩:=yds hr;have HTAB:=hX (fun (V:World) (hV:Below w.heap.size w V)=>((PT.of hP).next hV).here.pow);have HTX:=hX (fun (V:World) (hV:Below w.heap.size w V) (vs:List Value) (ha:T.AtL bare V (fun g=>g<V.heap.size) (cells (zju za5 (zcb s))) vs)=>Qry.yba (zju za5 (zcb s)) vs V hf ok2 ha (fun W hW=>HTAB.out W (hV.trans (hW.mono hV.size))) (by omega));rw[hw] at HTX;have HSI:=hX (fun (u:Value) (vs:List Value) (V:World) (hV:Below w.heap.size w V) (hu:T.At bare V (fun g=>g<V.heap.size) (zbg za5) u) (hv:T.AtL bare V (fun g=>g<V.heap.size) (cells (zcb s)) vs)=>zm8 (l:=za5) (u:=u) (zcb s) vs V hu zq2.1 zq2.2 hv ok1 (hT.next hV));generalize zju za5 (zcb s)=q2 at *;generalize zcb s=q1 at *;clear hp hr hw hf hT hP ok1 ok2 len2;go_enter Tryz.func13,Tryz.ntmps13;go_wp2_with fail;refine HP1.out.mono ?_;rintro e w1 ⟨us,bs,rfl,hoq,hnd,hb⟩;obtain ⟨h0,h1,h2,h3,h4,h5,h6,h7,h8,h9⟩:=q1;obtain ⟨u5,u6,u9,U5,U6,U9,hus⟩:=OQ.forms hoq;subst hus;have hA:Below w1.heap.size w1 (w1.alloc (.cells #[.int .i64 h0,.int .i64 h1,.string h2,.string h3,.string h4,.slice U5 h5.length u5,.slice U6 h6.length u6,.int .i64 h7,.int .i64 h8,.slice U9 h9.length u9] 28)):=(Below.refl _ _).alloc (Nat.le_refl _) _;have HB1:=hX (hb.trans (hA.mono hb.size));have HAU:=hX (zbd hoq.atw_ hA)
 have HX:=hX (Blk.new w1 28 #[.int .i64 h0,.int .i64 h1,.string h2,.string h3,.string h4,.slice U5 h5.length u5,.slice U6 h6.length u6,.int .i64 h7,.int .i64 h8,.slice U9 h9.length u9]);clear hA hoq hnd hb;go_upto_region 4 with fail;generalize (w1.alloc (.cells #[.int .i64 h0,.int .i64 h1,.string h2,.string h3,.string h4,.slice U5 h5.length u5,.slice U6 h6.length u6,.int .i64 h7,.int .i64 h8,.slice U9 h9.length u9] 28))=W1 at *;generalize w1.heap.size=gk at *;refine wp_region_held_drew (S:=fun V=>Below W1.heap.size W1 V) (by kernel_rfl) (Below.refl _ _).drew (fun hS0=>?_);refine' tk 1 (by simp only[tkD,tkE,tkG];rfl) (by kernel_rfl) (by exact fun _ _ _ h=>h) (by rfl) hS0 (by intro V hSw;obtain ⟨f0,f1,f2,f3,f4,f5,f6,f7,f8,f9⟩:=b10 (HX.out.below hSw HX.out.lt);clear hSw;go_simp;try with_reducible rfl) ?_;try simp only[Act.put,tkA,tkB,tkC]
 refine wpAnyH_ready (rs:=[0]) (by kernel_rfl) (by simp) ?_;refine' AllReadyH.cons (by simp only[tkD,tkG];rfl) (fun K hK=>?_) AllReadyH.nil;go_simp;refine (zsu _).mono ?_;rintro e V1 ⟨v1,rfl,hv1,hb⟩;have B1:=hX (Below.trans hS0 (hb.mono (hS0).size));have HV1:=hX hv1;clear hv1;clear hb;go_simp;refine hK.out _ _ B1.out (fun hS1=>?_);try simp only[Act.put,tkA,tkB,tkC]
 refine wpAnyH_ready (rs:=[2]) (by kernel_rfl) (by simp) ?_;refine' AllReadyH.cons (by simp only[tkD,tkE,tkG];rfl) (fun K hK=>?_) AllReadyH.nil;go_simp;refine (HSI.out v1 [.int .i64 h0,.int .i64 h1,.string h2,.string h3,.string h4,.slice U5 h5.length u5,.slice U6 h6.length u6,.int .i64 h7,.int .i64 h8,.slice U9 h9.length u9] _ (HB1.out.trans (hS1.mono HB1.out.size)) HV1.out (zbd HAU.out hS1)).mono ?_;rintro e V2 ⟨us2,bs2,rfl,hoq2,hnd2,hb⟩;have B2:=hX (Below.trans hS1 (hb.mono (hS1).size));have HOQ2:=hX hoq2.atw_;clear hoq2 hnd2;clear hb;go_simp;refine hK.out _ _ B2.out (fun hS2=>?_);try simp only[Act.put,tkA,tkB,tkC]
 refine wpAnyH_ready (rs:=[3]) (by kernel_rfl) (by simp) ?_;refine' AllReadyH.cons (by simp only[tkD,tkE,tkG];rfl) (fun K hK=>?_) AllReadyH.nil;go_simp;refine (HTX.out _ (HB1.out.trans (hS2.mono HB1.out.size)) _ HOQ2.out).mono ?_;rintro e V3 ⟨rfl,hb⟩;have B3:=hX (Below.trans hS2 (hb.mono (hS2).size));clear hb;go_simp;refine hK.out _ _ B3.out (fun hS3=>?_);try simp only[Act.put,tkA,tkB,tkC]
 refine' tk 4 (by simp only[tkD,tkE,tkG];rfl) (by kernel_rfl) (by exact fun _ _ _ h=>h) (by rfl) hS3 (by intro V hSw;clear hSw;go_simp;try with_reducible rfl) ?_;try simp only[Act.put,tkA,tkB,tkC]
 refine wpAnyH_done (by kernel_rfl) ?_ _;have HE:=hX (HB1.out.trans (hS3.mono HB1.out.size));go_wp2_with fail;go_ret;exact ⟨rfl,HE.out⟩
theorem zwf (w:World) (hT:zc9 w) (hP:PTabs w):Calls Tryz.prog 5 #[] w (BoolB true w):=by
 have H0:=hX (fun (V:World) (hV:Below w.heap.size w V)=>zez mt0 mo0 V mp0 mr0 mw0 (by kernel_rfl) (hT.next hV) ((PT.of hP).next hV).here);unfold mt0 at H0;have H1:=hX (fun (V:World) (hV:Below w.heap.size w V)=>zez mt1 mo1 V mp1 mr1 mw1 (by kernel_rfl) (hT.next hV) ((PT.of hP).next hV).here);unfold mt1 at H1;have H2:=hX (fun (V:World) (hV:Below w.heap.size w V)=>zez mt2 mo2 V mp2 mr2 mw2 (by kernel_rfl) (hT.next hV) ((PT.of hP).next hV).here);unfold mt2 at H2;have H3:=hX (fun (V:World) (hV:Below w.heap.size w V)=>zez mt3 mo3 V mp3 mr3 mw3 (by kernel_rfl) (hT.next hV) ((PT.of hP).next hV).here);unfold mt3 at H3;have H4:=hX (fun (V:World) (hV:Below w.heap.size w V)=>zez mt4 mo4 V mp4 mr4 mw4 (by kernel_rfl) (hT.next hV) ((PT.of hP).next hV).here);unfold mt4 at H4;have H5:=hX (fun (V:World) (hV:Below w.heap.size w V)=>zez mt5 mo5 V mp5 mr5 mw5 (by kernel_rfl) (hT.next hV) ((PT.of hP).next hV).here);unfold mt5 at H5;have H6:=hX (fun (V:World) (hV:Below w.heap.size w V)=>zez mt6 mo6 V mp6 mr6 mw6 (by kernel_rfl) (hT.next hV) ((PT.of hP).next hV).here);unfold mt6 at H6;have H7:=hX (fun (V:World) (hV:Below w.heap.size w V)=>zez mt7 mo7 V mp7 mr7 mw7 (by kernel_rfl) (hT.next hV) ((PT.of hP).next hV).here);unfold mt7 at H7;clear hT hP;have HB0:=hX (Below.refl w.heap.size w);go_enter Tryz.func5,Tryz.ntmps5;go_wp2_with fail;refine (H0.out _ HB0.out).mono ?_;rintro e w1 ⟨rfl,hb⟩;have HB1:=hX (HB0.out.trans (hb.mono HB0.out.size));clear hb
 unfold mo0;go_wp2_with fail;refine (H1.out _ HB1.out).mono ?_;rintro e w2 ⟨rfl,hb⟩;have HB2:=hX (HB1.out.trans (hb.mono HB1.out.size));clear hb;unfold mo1;go_wp2_with fail;refine (H2.out _ HB2.out).mono ?_;rintro e w3 ⟨rfl,hb⟩;have HB3:=hX (HB2.out.trans (hb.mono HB2.out.size));clear hb;unfold mo2;go_wp2_with fail;refine (H3.out _ HB3.out).mono ?_;rintro e w4 ⟨rfl,hb⟩;have HB4:=hX (HB3.out.trans (hb.mono HB3.out.size));clear hb;unfold mo3;go_wp2_with fail;refine (H4.out _ HB4.out).mono ?_;rintro e w5 ⟨rfl,hb⟩;have HB5:=hX (HB4.out.trans (hb.mono HB4.out.size));clear hb;unfold mo4;go_wp2_with fail;refine (H5.out _ HB5.out).mono ?_;rintro e w6 ⟨rfl,hb⟩;have HB6:=hX (HB5.out.trans (hb.mono HB5.out.size));clear hb;unfold mo5;go_wp2_with fail;refine (H6.out _ HB6.out).mono ?_;rintro e w7 ⟨rfl,hb⟩;have HB7:=hX (HB6.out.trans (hb.mono HB6.out.size));clear hb;unfold mo6;go_wp2_with fail;refine (H7.out _ HB7.out).mono ?_;rintro e w8 ⟨rfl,hb⟩;have HB8:=hX (HB7.out.trans (hb.mono HB7.out.size));clear hb;unfold mo7;go_wp2_with fail;go_ret;exact ⟨rfl,HB8.out⟩
end Go.Proofs.YtplkbdncgkgppaaGreatDoor.Qry
end
