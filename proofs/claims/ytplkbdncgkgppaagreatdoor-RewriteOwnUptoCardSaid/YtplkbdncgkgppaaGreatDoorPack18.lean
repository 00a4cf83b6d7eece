/- Lemmas that the last text leans on. -/
import Derived.Test.YtplkbdncgkgppaaGreatDoorTake
import Derived.Test.YtplkbdncgkgppaaGreatDoorQryPar17
import Derived.Recover
set_option linter.all false
set_option maxRecDepth 100000
set_option maxHeartbeats 16000000
section
namespace Go.Proofs.YtplkbdncgkgppaaGreatDoor.Qry
open Go.RowKit Words Tree QryP Kit Sch SchP Owned
theorem zvo (B:Nat) (s:ByteArray) (hs:s.size≤4096):∀(d above:Nat),above+d=6→zn8 B s above:=by
 intro d
 induction d with
 | zero=>
  intro above ha gp k w h hB hT;obtain rfl:above=6:=by omega
  cases hK:zc0 (6 - 6) (rem s k) with
  | error ec=>
   have h1:=zvn B s hs 6 (by omega) ec gp k w h hB hT hK
   have e:zaz zan zbm (6 - 6) (rem s k) = .error ec:=(by show zaz zan zbm 0 (rem s k)=_;rw[zs5];replace hK:zc0 0 (rem s k) = .error ec:=hK;rw[hK])
   rw[e];exact h1
  | ok p=>exact (zvm hK).elim
 | succ d ih=>
  intro above ha gp k w h hB hT;have hQ:=ih (above+1) (by omega);have hd:6 - above=(5 - above)+1:=by omega
  cases hK:zc0 (6 - above) (rem s k) with
  | error ec=>
   have h1:=zvn B s hs above (by omega) ec gp k w h hB hT hK;have e:zaz zan zbm (6 - above) (rem s k) = .error ec:=by rw[hd,zod,←hd,hK]
   rw[e];exact h1
  | ok p=>
   obtain ⟨n,r1⟩:=p;have hn:=(zef (6 - above) (rem s k)).2 n r1 hK;have e:zaz zan zbm (6 - above) (rem s k)=if n=1∨n=2 then .ok (.mk n 0 emp emp emp [] [] 0 0 [],r1) else zhi (5 - above) n r1:=by rw[hd,zod,←hd,hK]
   rw[e];by_cases h12:n=1∨n=2
   ·rw[if_pos h12];exact ybu B s hs above (by omega) n r1 gp k w h hB hT hK h12
   ·rw[if_neg h12];by_cases h37:n≤7
    ·exact ybv B s hs above (by omega) n r1 gp k w h hB hT hK ⟨by omega,h37⟩
    ·have h3:n=8∨n=9∨n=10:=by omega
     rcases h3 with h8 | h9 | h10
     ·exact yb1 B s hs above (by omega) n r1 gp k w h hB hT hK (by omega) hQ h8
     ·exact ybw B s hs above (by omega) n r1 gp k w h hB hT hK (by omega) hQ h9
     ·exact zy2 B s hs above (by omega) n r1 gp k w h hB hT hK (by omega) hQ h10
end Go.Proofs.YtplkbdncgkgppaaGreatDoor.Qry
end
section
namespace Go.Proofs.YtplkbdncgkgppaaGreatDoor.Qry
open Go.RowKit Words Tree QryP Kit Sch SchP Owned
theorem zoe (W:World) (v:Value):(Instr.typeAssert (.iface 100 v) 20 100 true).run Tryz.prog W = .ok (.tuple #[v,.bool true]) W:=by kernel_rfl
theorem zqc (W:World):(Instr.typeAssert .nilIface 20 100 true).run Tryz.prog W = .ok (.tuple #[.agg #[.int .i64 0,.int .i64 0],.bool false]) W:=by kernel_rfl
theorem yb2 (W:World):(Go.binOp .neq 20 .nilIface .nilIface).run Tryz.prog W = .ok (.bool false) W:=by kernel_rfl
theorem zof {w:World} {B g0 g1 g2:Nat} {tq ta te:TypeId} {c0 c1 c2 c3 c4 c5 c6 c7 c8 c9 x y:Value} (hq:Blk w g0 tq #[c0,c1,c2,c3,c4,c5,c6,c7,c8,c9]) (ha:Blk w g1 ta #[x]) (he:Blk w g2 te #[y]) (h1:g0<g1) (h2:g1<g2) (hB:B≤g0) (v0 v1 v2 v3 v4 v5 v6 v7 v8 v9 a e:Value) :
 Blk ((((((((((((w.setCell ⟨g0,0,none⟩ v0).setCell ⟨g0,1,none⟩ v1).setCell ⟨g0,2,none⟩ v2).setCell ⟨g0,3,none⟩ v3).setCell ⟨g0,4,none⟩ v4).setCell ⟨g0,5,none⟩ v5).setCell ⟨g0,6,none⟩ v6).setCell ⟨g0,7,none⟩ v7).setCell ⟨g0,8,none⟩ v8).setCell ⟨g0,9,none⟩ v9).setCell ⟨g1,0,none⟩ a).setCell ⟨g2,0,none⟩ e) g0 tq #[v0,v1,v2,v3,v4,v5,v6,v7,v8,v9]∧Blk ((((((((((((w.setCell ⟨g0,0,none⟩ v0).setCell ⟨g0,1,none⟩ v1).setCell ⟨g0,2,none⟩ v2).setCell ⟨g0,3,none⟩ v3).setCell ⟨g0,4,none⟩ v4).setCell ⟨g0,5,none⟩ v5).setCell ⟨g0,6,none⟩ v6).setCell ⟨g0,7,none⟩ v7).setCell ⟨g0,8,none⟩ v8).setCell ⟨g0,9,none⟩ v9).setCell ⟨g1,0,none⟩ a).setCell ⟨g2,0,none⟩ e) g1 ta #[a]∧Blk ((((((((((((w.setCell ⟨g0,0,none⟩ v0).setCell ⟨g0,1,none⟩ v1).setCell ⟨g0,2,none⟩ v2).setCell ⟨g0,3,none⟩ v3).setCell ⟨g0,4,none⟩ v4).setCell ⟨g0,5,none⟩ v5).setCell ⟨g0,6,none⟩ v6).setCell ⟨g0,7,none⟩ v7).setCell ⟨g0,8,none⟩ v8).setCell ⟨g0,9,none⟩ v9).setCell ⟨g1,0,none⟩ a).setCell ⟨g2,0,none⟩ e) g2 te #[e]∧Below B w ((((((((((((w.setCell ⟨g0,0,none⟩ v0).setCell ⟨g0,1,none⟩ v1).setCell ⟨g0,2,none⟩ v2).setCell ⟨g0,3,none⟩ v3).setCell ⟨g0,4,none⟩ v4).setCell ⟨g0,5,none⟩ v5).setCell ⟨g0,6,none⟩ v6).setCell ⟨g0,7,none⟩ v7).setCell ⟨g0,8,none⟩ v8).setCell ⟨g0,9,none⟩ v9).setCell ⟨g1,0,none⟩ a).setCell ⟨g2,0,none⟩ e):=by
 have hb:=zcg hq v0 v1 v2 v3 v4 v5 v6 v7 v8 v9;have hg:=zbn w g0 v0 v1 v2 v3 v4 v5 v6 v7 v8 v9;have ha1:=ha.grown hg (fun e=>by injection e with e;omega);have he1:=he.grown hg (fun e=>by injection e with e;omega);have hB1:=zcs (B:=B) hg (by have:=hq.lt;omega) hB;generalize ((((((((((w.setCell ⟨g0,0,none⟩ v0).setCell ⟨g0,1,none⟩ v1).setCell ⟨g0,2,none⟩ v2).setCell ⟨g0,3,none⟩ v3).setCell ⟨g0,4,none⟩ v4).setCell ⟨g0,5,none⟩ v5).setCell ⟨g0,6,none⟩ v6).setCell ⟨g0,7,none⟩ v7).setCell ⟨g0,8,none⟩ v8).setCell ⟨g0,9,none⟩ v9)=W at *;exact ⟨(hb.far (by show g0≠g1;omega) _).far (by show g0≠g2;omega) _,(ha1.set_ 0 a).far (by show g1≠g2;omega) _,(he1.far (by show g2≠g1;omega) _).set_ 0 e,(hB1.setCell (by show B≤g1;omega) _).setCell (by show B≤g2;omega) _⟩
theorem zqd (g0 g1 g2:Nat) (k c:Int) (older:List PanicEntry) (w:World) {c0 c1 c2 c3 c4 c5 c6 c7 c8 c9 x y:Value} (hq:Blk w g0 28 #[c0,c1,c2,c3,c4,c5,c6,c7,c8,c9]) (ha:Blk w g1 3 #[x]) (he:Blk w g2 31 #[y]) (h1:g0<g1) (h2:g1<g2) :
 CallsD Tryz.prog 50 #[.pointer (some ⟨g0,0,none⟩),.pointer (some ⟨g1,0,none⟩),.pointer (some ⟨g2,0,none⟩)] (.panicking ({ v:=znz k c,recovered:=false }::older)) w fun e u' w'=>
  e = .returned (.tuple #[])∧u' = .panicking ({ v:=znz k c,recovered:=true }::older)∧Blk w' g0 28 zax∧Blk w' g1 3 #[.int .i64 k]∧Blk w' g2 31 #[.int .i64 c]∧Below g0 w w':=by
 refine callsD_of_wpS Tryz.func50 rfl fun c₀ cs hu=>?_;simp only[Tryz.ntmps50,List.size_toArray,List.length_cons,List.length_nil,Nat.reduceAdd,Nat.reduceSub,Array.replicate_succ,Array.replicate_zero,List.push_toArray,List.append_toArray,List.nil_append,List.cons_append];apply wpS_seq;apply wpS_region;simp[wpOpsS,go_sem,recoverD,hu,Exit.thenS,znz];refine wpS_of_wp ?_;have h01:=zoe w (.agg #[.int .i64 k,.int .i64 c]);have hgc:=hq.lt;have hga:=ha.lt;have hge:=he.lt;have HQ:=hX hq;have HA:=hX ha;have HE:=hX he;clear hq ha he;go_upto_region 3 with fail;have hb1:Below w.heap.size w (w.alloc (.cells #[.int .i64 k,.int .i64 c] 100)):=(Below.refl _ w).alloc (Nat.le_refl _) _;have HQ1:=hX (HQ.out.below hb1 hgc);have HA1:=hX (HA.out.below hb1 hga);have HE1:=hX (HE.out.below hb1 hge);have HF1:=hX (Blk.new w 100 #[.int .i64 k,.int .i64 c]);have HB1:=hX (Below.mono hb1 (show g0≤w.heap.size by omega));clear hb1 HQ HA HE;generalize w.alloc (.cells #[.int .i64 k,.int .i64 c] 100)=w1 at *;generalize w.heap.size=gf at *;have f0:w1.cell? ⟨gf,0,none⟩=some (.int .i64 k):=HF1.out.cell 0;have f1:w1.cell? ⟨gf,1,none⟩=some (.int .i64 c):=HF1.out.cell 1;have a0:w1.cell? ⟨g1,0,none⟩=some x:=HA1.out.cell 0;have e0:w1.cell? ⟨g2,0,none⟩=some y:=HE1.out.cell 0;have za:w1.frozen? ⟨g1,0,none⟩=false:=HA1.out.frozen 0;have ze:w1.frozen? ⟨g2,0,none⟩=false:=HE1.out.frozen 0;have n1:g0≠g1:=by omega
 have n2:g0≠g2:=by omega
 have n3:g1≠g2:=by omega
 have n4:g0≠gf:=by omega
 have n5:g1≠gf:=by omega
 have n6:g2≠gf:=by omega
 obtain ⟨q0,q1,q2,q3,q4,q5,q6,q7,q8,q9⟩:=b10 HQ1.out;obtain ⟨z0,z1,z2,z3,z4,z5,z6,z7,z8,z9⟩:=z10 HQ1.out;go_region;obtain ⟨b0,b1,b2,b3⟩:=zof HQ1.out HA1.out HE1.out h1 h2 (Nat.le_refl g0) (.int .i64 0) (.int .i64 0) (.string ⟨#[]⟩) (.string ⟨#[]⟩) (.string ⟨#[]⟩) (.slice none 0 0) (.slice none 0 0) (.int .i64 0) (.int .i64 0) (.slice none 0 0) (.int .i64 k) (.int .i64 c);exact ⟨rfl,_,rfl,_,results_none rfl _ _ _,rfl,rfl,b0.drew,b1.drew,b2.drew,HB1.out.trans (below_drewN b3 1)⟩
theorem zs6 (g0 g1 g2:Nat) (w:World) :
 CallsD Tryz.prog 50 #[.pointer (some ⟨g0,0,none⟩),.pointer (some ⟨g1,0,none⟩),.pointer (some ⟨g2,0,none⟩)] .returning w fun e u' w'=>e = .returned (.tuple #[])∧u' = .returning∧Below w.heap.size w w':=by
 refine callsD_of_wpS Tryz.func50 rfl fun c₀ cs hu=>?_;simp only[Tryz.ntmps50,List.size_toArray,List.length_cons,List.length_nil,Nat.reduceAdd,Nat.reduceSub,Array.replicate_succ,Array.replicate_zero,List.push_toArray,List.append_toArray,List.nil_append,List.cons_append];apply wpS_seq;apply wpS_region;simp[wpOpsS,go_sem,recoverD,hu,Exit.thenS];refine wpS_of_wp ?_;have h01:=zqc w;have hb1:Below w.heap.size w (w.alloc (.cells #[.int .i64 0,.int .i64 0] 100)):=(Below.refl _ w).alloc (Nat.le_refl _) _;have h02:=yb2 (w.alloc (.cells #[.int .i64 0,.int .i64 0] 100));go_wp2_with fail;exact ⟨rfl,.returning,by rw[←hu],_,results_none rfl _ _ _,rfl,rfl,hb1⟩
theorem zeq {P:Program} {fn:Func} {p q r:Tmp} {ty ta te:TypeId} (h:fn.results=#[.cell p ty,.cell q ta,.cell r te]) (tmps:Array Value) (w:World) (g0 g1 g2:Nat) (cs:Array Value) (x y:Value) (d:TypeDesc)
 (hp:tmps.getD p undef = .pointer (some ⟨g0,0,none⟩)) (hq:tmps.getD q undef = .pointer (some ⟨g1,0,none⟩)) (hr:tmps.getD r undef = .pointer (some ⟨g2,0,none⟩)) (b0:Blk w g0 ty cs) (b1:Blk w g1 ta #[x]) (b2:Blk w g2 te #[y])
 (hu:P.underlying ty=some d) (hd:(match d with | .struct _ | .array _ _=>true | _=>false)=true) (hi:(P.info? ty).map (·.size)=some cs.size)
 (h1:(Go.loadVar ta ⟨g1,0,none⟩).run P w = .ok x w) (h2:(Go.loadVar te ⟨g2,0,none⟩).run P w = .ok y w) :
 (results fn tmps).run P w = .ok (.tuple #[.agg cs,x,y]) w:=by
 have hp':tmps[p]?.getD undef = .pointer (some ⟨g0,0,none⟩):=by simpa using hp
 have hq':tmps[q]?.getD undef = .pointer (some ⟨g1,0,none⟩):=by simpa using hq
 have hr':tmps[r]?.getD undef = .pointer (some ⟨g2,0,none⟩):=by simpa using hr
 simp[results,h,hp',hq',hr',asAddr,run_loadVar_row w g0 ty ty cs (0,0) d b0 hu hd hi,h1,h2]
end Go.Proofs.YtplkbdncgkgppaaGreatDoor.Qry
end
section
namespace Go.Proofs.YtplkbdncgkgppaaGreatDoor.Qry
open Go.RowKit Words Tree QryP Kit Sch SchP Owned
def zlo (s:ByteArray) (w:World) (x:E QT) (e:Ending) (w':World):Prop:=match x with
 | .ok q=>∃us bs,e = .returned (.tuple #[.agg us.toArray,.int .i64 0,.int .i64 0])∧OQ w' w.heap.size q us bs∧bs.Nodup∧Below w.heap.size w w'
 | .error (p,c)=>e = .returned (.tuple #[.agg zax,.int .i64 ((s.size - p:Nat):Int),.int .i64 c])∧Below w.heap.size w w'
theorem zmo (w:World) (g:Nat) (x:Int) (h:Blk w g 3 #[.int .i64 x]):(Go.loadVar 3 ⟨g,0,none⟩).run Tryz.prog w = .ok (.int .i64 x) w:=by
 have hc:=h.cell 0;simp at hc;go_simp
theorem zmp (w:World) (g:Nat) (x:Int) (h:Blk w g 31 #[.int .i64 x]):(Go.loadVar 31 ⟨g,0,none⟩).run Tryz.prog w = .ok (.int .i64 x) w:=by
 have hc:=h.cell 0;simp at hc;go_simp
theorem zs7 (s:ByteArray) (w:World) (hs:4096<s.size):Calls Tryz.prog 32 #[.string s] w (zlo s w (zbf zan zbm s.data.toList)):=by
 have hx:zbf zan zbm s.data.toList = .error (s.size,3):=by
  unfold zbf;have hl:s.data.toList.length=s.size:=by simp
  rw[if_pos (by omega),hl]
 rw[hx];clear hx;go_enter_defers Tryz.func32,Tryz.ntmps32;go_wp2_with fail;have hb:Below w.heap.size w (((w.alloc (.cells zax 28)).alloc (.cells #[.int .i64 0] 3)).alloc (.cells #[.int .i64 3] 31)):=(((Below.refl _ w).alloc (Nat.le_refl _) _).alloc (by first | (simp;done) | (simp;omega)) _).alloc (by first | (simp;done) | (simp;omega)) _;have b0:Blk (((w.alloc (.cells zax 28)).alloc (.cells #[.int .i64 0] 3)).alloc (.cells #[.int .i64 3] 31)) w.heap.size 28 zax:=((Blk.new w _ _).alloc _).alloc _;have b1:Blk (((w.alloc (.cells zax 28)).alloc (.cells #[.int .i64 0] 3)).alloc (.cells #[.int .i64 3] 31)) (w.heap.size+1) 3 #[.int .i64 0]:=by rw[←show (w.alloc (.cells zax 28)).heap.size=w.heap.size+1 by simp];exact (Blk.new _ _ _).alloc _
 have b2:Blk (((w.alloc (.cells zax 28)).alloc (.cells #[.int .i64 0] 3)).alloc (.cells #[.int .i64 3] 31)) (w.heap.size+1+1) 31 #[.int .i64 3]:=by rw[←show ((w.alloc (.cells zax 28)).alloc (.cells #[.int .i64 0] 3)).heap.size=w.heap.size+1+1 by simp];exact Blk.new _ _ _
 exact ⟨_,zeq rfl _ _ w.heap.size (w.heap.size+1) (w.heap.size+1+1) _ _ _ _ rfl rfl rfl b0 b1 b2 Tryz.underlying28 rfl (by kernel_rfl) (zmo _ _ _ b1) (zmp _ _ _ b2),by rw[Nat.sub_self];rfl,hb⟩
theorem yay {s:ByteArray} {w V:World} {p:Nat} {c:Int} {T:Array Value} {c0 c1 c2 c3 c4 c5 c6 c7 c8 c9 x y:Value} (hq:Blk V w.heap.size 28 #[c0,c1,c2,c3,c4,c5,c6,c7,c8,c9]) (ha:Blk V (w.heap.size+1) 3 #[x]) (he:Blk V (w.heap.size+1+1) 31 #[y]) (hb:Below w.heap.size w V)
 (h2:T.getD 2 undef = .pointer (some ⟨w.heap.size,0,none⟩)) (h3:T.getD 3 undef = .pointer (some ⟨w.heap.size+1,0,none⟩)) (h4:T.getD 4 undef = .pointer (some ⟨w.heap.size+1+1,0,none⟩)) :
 bodyPostD Tryz.prog Tryz.f32 (zlo s w (.error (p,c))) (Exit.panic [{ v:=znz ((s.size - p:Nat):Int) c,recovered:=false }]) { tmps:=T,defers:=[{ target:=.fn (.func 50) #[.pointer (some ⟨w.heap.size,0,none⟩),.pointer (some ⟨w.heap.size+1,0,none⟩),.pointer (some ⟨w.heap.size+1+1,0,none⟩)],args:=#[] }] } V:=by
 refine leaves_cons (f:=50) (args:=#[.pointer (some ⟨w.heap.size,0,none⟩),.pointer (some ⟨w.heap.size+1,0,none⟩),.pointer (some ⟨w.heap.size+1+1,0,none⟩)]) (by simp) (by simp[go_sem]) ?_;refine (zqd _ _ _ _ _ [] V hq ha he (by omega) (by omega)).mono ?_;rintro e u' w2 ⟨rfl,rfl,b0,b1,b2,hbel⟩;exact ⟨_,zeq rfl _ _ _ _ _ _ _ _ _ h2 h3 h4 b0 b1 b2 Tryz.underlying28 rfl (by kernel_rfl) (zmo _ _ _ b1) (zmp _ _ _ b2),rfl,hb.trans hbel⟩
theorem ydy {s:ByteArray} {w V:World} {q:QT} {us:List Value} {bs:List Nat} {T:Array Value} (b0:Blk V w.heap.size 28 us.toArray) (b1:Blk V (w.heap.size+1) 3 #[.int .i64 0]) (b2:Blk V (w.heap.size+1+1) 31 #[.int .i64 0]) (hb:Below w.heap.size w V)
 (hoq:OQ V w.heap.size q us bs) (hnd:bs.Nodup)
 (h2:T.getD 2 undef = .pointer (some ⟨w.heap.size,0,none⟩)) (h3:T.getD 3 undef = .pointer (some ⟨w.heap.size+1,0,none⟩)) (h4:T.getD 4 undef = .pointer (some ⟨w.heap.size+1+1,0,none⟩)) :
 bodyPostD Tryz.prog Tryz.f32 (zlo s w (.ok q)) Exit.ret { tmps:=T,defers:=[{ target:=.fn (.func 50) #[.pointer (some ⟨w.heap.size,0,none⟩),.pointer (some ⟨w.heap.size+1,0,none⟩),.pointer (some ⟨w.heap.size+1+1,0,none⟩)],args:=#[] }] } V:=by
 refine leaves_cons (f:=50) (args:=#[.pointer (some ⟨w.heap.size,0,none⟩),.pointer (some ⟨w.heap.size+1,0,none⟩),.pointer (some ⟨w.heap.size+1+1,0,none⟩)]) (by simp) (by simp[go_sem]) ?_;refine (zs6 _ _ _ V).mono ?_;rintro e u' w2 ⟨rfl,rfl,hbel⟩;have c0:=b0.below hbel b0.lt;have c1:=b1.below hbel b1.lt;have c2:=b2.below hbel b2.lt;have hl:=OQ.len hoq;exact ⟨_,zeq rfl _ _ _ _ _ _ _ _ _ h2 h3 h4 c0 c1 c2 Tryz.underlying28 rfl (by rw[List.size_toArray,hl];kernel_rfl) (zmo _ _ _ c1) (zmp _ _ _ c2),us,bs,rfl,hoq.below hbel (Nat.le_refl _),hnd,hb.trans (hbel.mono hb.size)⟩
theorem zqe (B:Nat) (s:ByteArray) (w:World) (hs:s.size≤4096) (hB:B≤w.heap.size) (hT:PT B w):Calls Tryz.prog 32 #[.string s] w (zlo s w (zbf zan zbm s.data.toList)):=by
 obtain ⟨x,hx⟩:∃x,zbf zan zbm s.data.toList=x:=⟨_,rfl⟩
 rw[hx]
 have HX:Hid (x=match zaz zan zbm 6 (rem s 0) with
  | .error e=>.error e
  | .ok (q,r1)=>match zaf r1 with
    | []=>.ok q
    | c::t=>.error (t.length+1,180)):=hX (by
  have hl:s.data.toList.length=s.size:=by simp
  rw[←hx,show rem s 0=s.data.toList from rfl];unfold zbf;rw[if_neg (by omega)]
  cases zaz zan zbm 6 s.data.toList with
  | error e=>rfl
  | ok p=>
   obtain ⟨q,r1⟩:=p;dsimp only
   cases zaf r1 <;> rfl)
 clear hx;have hA:Below w.heap.size w ((((w.alloc (.cells zax 28)).alloc (.cells #[.int .i64 0] 3)).alloc (.cells #[.int .i64 0] 31)).alloc (.cells #[.string s,.int .i64 0] 104)):=((((Below.refl _ w).alloc (Nat.le_refl _) _).alloc (by first | (simp;done) | (simp;omega)) _).alloc (by first | (simp;done) | (simp;omega)) _).alloc (by first | (simp;done) | (simp;omega)) _;have hb0:Blk ((((w.alloc (.cells zax 28)).alloc (.cells #[.int .i64 0] 3)).alloc (.cells #[.int .i64 0] 31)).alloc (.cells #[.string s,.int .i64 0] 104)) w.heap.size 28 zax:=(((Blk.new w _ _).alloc _).alloc _).alloc _;have hb1:Blk ((((w.alloc (.cells zax 28)).alloc (.cells #[.int .i64 0] 3)).alloc (.cells #[.int .i64 0] 31)).alloc (.cells #[.string s,.int .i64 0] 104)) (w.heap.size+1) 3 #[.int .i64 0]:=by rw[←show (w.alloc (.cells zax 28)).heap.size=w.heap.size+1 by simp];exact ((Blk.new _ _ _).alloc _).alloc _
 have hb2:Blk ((((w.alloc (.cells zax 28)).alloc (.cells #[.int .i64 0] 3)).alloc (.cells #[.int .i64 0] 31)).alloc (.cells #[.string s,.int .i64 0] 104)) (w.heap.size+1+1) 31 #[.int .i64 0]:=by rw[←show ((w.alloc (.cells zax 28)).alloc (.cells #[.int .i64 0] 3)).heap.size=w.heap.size+1+1 by simp];exact (Blk.new _ _ _).alloc _
 have hb3:Blk ((((w.alloc (.cells zax 28)).alloc (.cells #[.int .i64 0] 3)).alloc (.cells #[.int .i64 0] 31)).alloc (.cells #[.string s,.int .i64 0] 104)) (w.heap.size+1+1+1) 104 #[.string s,.int .i64 0]:=by rw[←show (((w.alloc (.cells zax 28)).alloc (.cells #[.int .i64 0] 3)).alloc (.cells #[.int .i64 0] 31)).heap.size=w.heap.size+1+1+1 by simp];exact Blk.new _ _ _
 have hsz:((((w.alloc (.cells zax 28)).alloc (.cells #[.int .i64 0] 3)).alloc (.cells #[.int .i64 0] 31)).alloc (.cells #[.string s,.int .i64 0] 104)).heap.size=w.heap.size+1+1+1+1:=by simp
 have HB:=hX hA;have HB0:=hX hb0;have HB1:=hX hb1;have HB2:=hX hb2;have HB3:=hX hb3;have HT4:=hX (hT.next (hA.mono hB));have HSZ:=hX hsz;clear hA hb0 hb1 hb2 hb3 hsz hT;unfold zax at HB HB0 HB1 HB2 HB3 HT4 HSZ;have hmf:∀(fn:Fn) (first cap:Array Value) (w:World),(Instr.makeFunc fn first cap).run Tryz.prog w = .ok (.func fn first cap) w:=fun _ _ _ _=>rfl;go_enter_defers Tryz.func32,Tryz.ntmps32;go_upto_region 5 with fail;generalize ((((w.alloc (.cells #[.int .i64 0,.int .i64 0,.string ⟨#[]⟩,.string ⟨#[]⟩,.string ⟨#[]⟩,.slice none 0 0,.slice none 0 0,.int .i64 0,.int .i64 0,.slice none 0 0] 28)).alloc (.cells #[.int .i64 0] 3)).alloc (.cells #[.int .i64 0] 31)).alloc (.cells #[.string s,.int .i64 0] 104))=W at *;have HPA:Hid (Pa s (w.heap.size+1+1+1) 0 W):=hX ⟨HB3.out,Nat.zero_le _⟩;have hgB:B≤w.heap.size+1+1+1:=by omega
 have HQ:=hX (zvo B s hs 6 0 rfl (w.heap.size+1+1+1) 0 W HPA.out hgB HT4.out)
 obtain ⟨y,hy⟩:∃y,zaz zan zbm 6 (rem s 0)=y:=⟨_,rfl⟩
 rw[hy] at HX;rw[show (6 - 0:Nat)=6 from rfl,hy] at HQ;clear hy;go_wp2_with fail;refine HQ.out.mono ?_;clear HQ
 match y with
 | .error (p,c)=>
   intro e w5 ho;obtain ⟨rfl,hg⟩:=ho;have hb5:=HB.out.trans (zcs (B:=w.heap.size) hg (by have:=HSZ.out;omega) (by omega));have hx:x = .error (p,c):=HX.out;subst hx;exact yay (HB0.out.grown hg (fun e=>by injection e with e;omega)) (HB1.out.grown hg (fun e=>by injection e with e;omega)) (HB2.out.grown hg (fun e=>by injection e with e;omega)) hb5 rfl rfl rfl
 | .ok (q,r1)=>
   intro e w5 ho;obtain ⟨v,rfl,⟨us,bs,rfl,hoq,hnd⟩,hg,j1,hj1,hpa,hr⟩:=ho;subst hr;have HQ5:=hX (HB0.out.grown hg (fun e=>by injection e with e;omega));have HA5:=hX (HB1.out.grown hg (fun e=>by injection e with e;omega));have HE5:=hX (HB2.out.grown hg (fun e=>by injection e with e;omega));have HW5:=hX (HB.out.trans (zcs (B:=w.heap.size) hg (by have:=HSZ.out;omega) (by omega)));have HP5:=hX hpa;have HOQ:=hX hoq;have HND:=hX hnd;have hszW:=HSZ.out;have hbs:Hid (∀g∈bs,w.heap.size+1+1+1<g):=hX (fun g hm=>by have:=(hoq.mem g hm).1;omega);clear hg hpa hoq hnd hszW;generalize hqa:q=qa at HX HOQ;clear hqa;obtain ⟨kq,oq,fq,tq,uq,loq,hiq,bq,opq,ksq⟩:=qa;obtain ⟨cl,ch,ck,al,ah,ak,hus⟩:=OQ.shape HOQ.out;subst hus;obtain ⟨q0,q1,q2,q3,q4,q5,q6,q7,q8,q9⟩:=b10 HQ5.out;obtain ⟨z0,z1,z2,z3,z4,z5,z6,z7,z8,z9⟩:=z10 HQ5.out;have HQ6:=hX (zcg (W:=w5) (g:=w.heap.size) HQ5.out (.int .i64 kq) (.int .i64 oq) (.string fq) (.string tq) (.string uq) (.slice al loq.length cl) (.slice ah hiq.length ch) (.int .i64 bq) (.int .i64 opq) (.slice ak ksq.length ck));have hg6:=zbn w5 (w.heap.size) (.int .i64 kq) (.int .i64 oq) (.string fq) (.string tq) (.string uq) (.slice al loq.length cl) (.slice ah hiq.length ch) (.int .i64 bq) (.int .i64 opq) (.slice ak ksq.length ck);have HA6:=hX (HA5.out.grown hg6 (fun e=>by injection e with e;omega));have HE6:=hX (HE5.out.grown hg6 (fun e=>by injection e with e;omega))
   have HW6:=hX (HW5.out.trans (zcs (B:=w.heap.size) hg6 (by have:=HQ5.out.lt;omega) (Nat.le_refl _)));have HP6:=hX (HP5.out.grown hg6 (fun e=>by injection e with e;omega));have HO6:=hX ((HOQ.out.grown hg6 (fun g hm e=>by injection e with e;have:=hbs.out g hm;omega)).le (by have:=HSZ.out;omega:w.heap.size≤W.heap.size));clear hg6;go_upto_region 6 with fail;generalize ((((((((((w5.setCell ⟨w.heap.size,0,none⟩ (.int .i64 kq)).setCell ⟨w.heap.size,1,none⟩ (.int .i64 oq)).setCell ⟨w.heap.size,2,none⟩ (.string fq)).setCell ⟨w.heap.size,3,none⟩ (.string tq)).setCell ⟨w.heap.size,4,none⟩ (.string uq)).setCell ⟨w.heap.size,5,none⟩ (.slice al loq.length cl)).setCell ⟨w.heap.size,6,none⟩ (.slice ah hiq.length ch)).setCell ⟨w.heap.size,7,none⟩ (.int .i64 bq)).setCell ⟨w.heap.size,8,none⟩ (.int .i64 opq)).setCell ⟨w.heap.size,9,none⟩ (.slice ak ksq.length ck))=w6 at *;clear q0 z0 q1 z1 q2 z2 q3 z3 q4 z4 q5 z5 q6 z6 q7 z7 q8 z8 q9 z9 HQ5 HA5 HE5 HW5 HP5 HOQ;have HSK:=hX (zdd s (w.heap.size+1+1+1) j1 w6 HP6.out hs);go_wp2_with fail;refine HSK.out.mono ?_;clear HSK;rintro e w7 ⟨rfl,hg,j2,hj2,hpa,hr⟩;have HQ7:=hX (HQ6.out.grown hg (fun e=>by injection e with e;omega));have HA7:=hX (HA6.out.grown hg (fun e=>by injection e with e;omega));have HE7:=hX (HE6.out.grown hg (fun e=>by injection e with e;omega));have HW7:=hX (HW6.out.trans (zcs (B:=w.heap.size) hg (by have:=HQ6.out.lt;omega) (by omega)))
   have HO7:=hX (HO6.out.grown hg (fun g hm e=>by injection e with e;have:=hbs.out g hm;omega));have HP7:=hX hpa;have HR:=hX hr;have hj2s:=hpa.le;clear hg hpa hr HQ6 HA6 HE6 HW6 HP6 HO6;have c1:w7.cell? ⟨w.heap.size+1+1+1,1,none⟩=some (.int .i64 j2):=HP7.out.blk.cell 1;by_cases hlt:j2<s.size
   ·have h2:(j2:Int)<(s.size:Int):=by omega
    have hx:x = .error ((rem s j2).length,180):=by
     have h9:=HX.out;try dsimp only at h9
     rw[←HR.out,zbd hlt] at h9;rw[h9,zbd hlt];rfl
    subst hx;have HWR:=hX (za1 j2 w7);go_wp2_with fail;refine HWR.out.mono ?_;rintro e w8 ⟨rfl,rfl⟩;rw[show ze3 (j2:Int) 180=ze3 ((s.size - (s.size - j2):Nat):Int) 180 by rw[show s.size - (s.size - j2)=j2 by omega]];exact yay HQ7.out HA7.out HE7.out HW7.out rfl rfl rfl
   ·obtain rfl:j2=s.size:=by omega
    have hx:x = .ok (.mk kq oq fq tq uq loq hiq bq opq ksq):=by
     have h9:=HX.out;try dsimp only at h9
     rw[←HR.out,zda] at h9;exact h9
    subst hx;obtain ⟨q0,q1,q2,q3,q4,q5,q6,q7,q8,q9⟩:=b10 HQ7.out;obtain ⟨z0,z1,z2,z3,z4,z5,z6,z7,z8,z9⟩:=z10 HQ7.out;have a0:w7.cell? ⟨w.heap.size+1,0,none⟩=some (.int .i64 0):=HA7.out.cell 0;have e0:w7.cell? ⟨w.heap.size+1+1,0,none⟩=some (.int .i64 0):=HE7.out.cell 0;have za:w7.frozen? ⟨w.heap.size+1,0,none⟩=false:=HA7.out.frozen 0;have ze:w7.frozen? ⟨w.heap.size+1+1,0,none⟩=false:=HE7.out.frozen 0;have n1:w.heap.size≠w.heap.size+1:=by omega
    have n2:w.heap.size≠w.heap.size+1+1:=by omega
    have n3:w.heap.size+1≠w.heap.size+1+1:=by omega
    obtain ⟨b0,b1,b2,b3⟩:=zof HQ7.out HA7.out HE7.out (by omega) (by omega) (Nat.le_refl _) (.int .i64 kq) (.int .i64 oq) (.string fq) (.string tq) (.string uq) (.slice al loq.length cl) (.slice ah hiq.length ch) (.int .i64 bq) (.int .i64 opq) (.slice ak ksq.length ck) (.int .i64 0) (.int .i64 0);have HB8:=hX b0;have HB81:=hX b1;have HB82:=hX b2;have HW8:=hX (HW7.out.trans b3)
    have HO8:=hX (HO7.out.keep (w':=((((((((((((w7.setCell ⟨w.heap.size,0,none⟩ (.int .i64 kq)).setCell ⟨w.heap.size,1,none⟩ (.int .i64 oq)).setCell ⟨w.heap.size,2,none⟩ (.string fq)).setCell ⟨w.heap.size,3,none⟩ (.string tq)).setCell ⟨w.heap.size,4,none⟩ (.string uq)).setCell ⟨w.heap.size,5,none⟩ (.slice al loq.length cl)).setCell ⟨w.heap.size,6,none⟩ (.slice ah hiq.length ch)).setCell ⟨w.heap.size,7,none⟩ (.int .i64 bq)).setCell ⟨w.heap.size,8,none⟩ (.int .i64 opq)).setCell ⟨w.heap.size,9,none⟩ (.slice ak ksq.length ck)).setCell ⟨w.heap.size+1,0,none⟩ (.int .i64 0)).setCell ⟨w.heap.size+1+1,0,none⟩ (.int .i64 0))) fun g hm=>(Below.heap_setCell _ _ _ _ (by have:=hbs.out g hm;show g≠w.heap.size+1+1;omega)).trans ((Below.heap_setCell _ _ _ _ (by have:=hbs.out g hm;show g≠w.heap.size+1;omega)).trans ((zbn w7 (w.heap.size) (.int .i64 kq) (.int .i64 oq) (.string fq) (.string tq) (.string uq) (.slice al loq.length cl) (.slice ah hiq.length ch) (.int .i64 bq) (.int .i64 opq) (.slice ak ksq.length ck)).block g (HO7.out.mem g hm).2 (fun e=>by injection e with e;have:=hbs.out g hm;omega))));clear b0 b1 b2 b3;go_wp2_with fail;exact ydy HB8.out HB81.out HB82.out HW8.out HO8.out HND.out rfl rfl rfl
theorem zvp (s:ByteArray) (w:World) (hT:PTabs w):Calls Tryz.prog 32 #[.string s] w (zlo s w (zbf zan zbm s.data.toList)):=by
 by_cases hs:s.size≤4096
 ·exact zqe w.heap.size s w hs (Nat.le_refl _) (PT.of hT)
 ·exact zs7 s w (by omega)
end Go.Proofs.YtplkbdncgkgppaaGreatDoor.Qry
end
