/- Lemmas that the last text leans on. -/
import Derived.Test.YtplkbdncgkgppaaGreatDoorTake
import Derived.Test.YtplkbdncgkgppaaGreatDoorQryPar11
import Derived.Test.YtplkbdncgkgppaaGreatDoorPack14
set_option linter.all false
set_option maxRecDepth 100000
set_option maxHeartbeats 16000000
namespace Go.Proofs.YtplkbdncgkgppaaGreatDoor.Qry
open Go.RowKit Words Tree QryP Kit Sch SchP Owned
theorem Fr.first {s:ByteArray} {gp above j:Nat} {w0 w:World} {k:Int} (pa:Pa s gp j w) (grown:w0.grownBy w (some gp)) (bp:Blk w w0.heap.size 102 #[.pointer (some ⟨gp,0,none⟩)]) (ba:Blk w (w0.heap.size+1) 3 #[.int .i64 above]) (br:Blk w (w0.heap.size+2) 28 zax) (hp:gp<w0.heap.size) :
 Fr s gp w0 w.heap.size above j (.mk k 0 emp emp emp [] [] 0 0 []) [.int .i64 k,.int .i64 0,.string emp,.string emp,.string emp,.slice none 0 0,.slice none 0 0,.int .i64 0,.int .i64 0,.slice none 0 0] [] (w.alloc (.cells #[.int .i64 k,.int .i64 0,.string emp,.string emp,.string emp,.slice none 0 0,.slice none 0 0,.int .i64 0,.int .i64 0,.slice none 0 0] 28)):=by
 have hb:=(Below.refl w.heap.size w).alloc (Nat.le_refl _) (.cells #[.int .i64 k,.int .i64 0,.string emp,.string emp,.string emp,.slice none 0 0,.slice none 0 0,.int .i64 0,.int .i64 0,.slice none 0 0] 28);refine ⟨pa.keep hb,zaa grown (only_of_below hb _),bp.below hb bp.lt,ba.below hb ba.lt,br.below hb br.lt,Blk.new w _ _,?_,List.nodup_nil,br.lt,hp⟩;rw[OQ];exact ⟨_,_,_,[],[],rfl,World.ownsRow_nil _ _ _ _,World.ownsRow_nil _ _ _ _,World.ownsRow_nil _ _ _ _,by rw[OQL];exact ⟨rfl,rfl⟩,rfl⟩
theorem Fr.done {s:ByteArray} {gp gq above j k:Nat} {w0 w w':World} {q:QT} {us:List Value} {bs:List Nat} (h:Fr s gp w0 gq above j q us bs w) (hg:w.grownBy w' (some (w0.heap.size+2))) (hk:k≤j):(∃us bs,(Value.agg us.toArray) = .agg us.toArray∧OQ w' w0.heap.size q us bs∧bs.Nodup)∧QV w0.heap.size q (.agg us.toArray) w'∧At s gp k w0 (rem s j) w':=by
 have hq:=h.hq;have hp:=h.hp;have h1:OQ w' w0.heap.size q us bs:=OQ.le (by omega) (h.oq.grown hg (fun g hm e=>by injection e with e;have:=(h.oq.mem g hm).1;omega));refine ⟨⟨us,bs,rfl,h1,h.nd⟩,⟨us,bs,rfl,h1,h.nd⟩,⟨hg.os.trans h.grown.os,hg.tape.trans h.grown.tape,hg.output.trans h.grown.output,Nat.le_trans h.grown.size hg.size,fun i hi hne=>(hg.block i (Nat.lt_of_lt_of_le hi h.grown.size) (fun e=>by injection e with e;omega)).trans (h.grown.block i hi hne)⟩,j,hk,⟨h.pa.blk.grown hg (fun e=>by injection e with e;omega),h.pa.le⟩,rfl⟩
theorem ybu (B:Nat) (s:ByteArray) (hs:s.size≤4096) (above:Nat) (ha:above≤6) (n:Int) (r1:R) (gp k:Nat) (w:World) (h:Pa s gp k w) (hB:B≤gp) (hT:PT B w) (hK:zc0 (6 - above) (rem s k) = .ok (n,r1)) (hn:n=1∨n=2) :
 Calls Tryz.prog 51 #[.pointer (some ⟨gp,0,none⟩),.int .i64 above] w (Out s gp k w (.ok (.mk n 0 emp emp emp [] [] 0 0 [],r1)) (QV w.heap.size)):=by
 have HT:=hX hT;have hgp:gp<w.heap.size:=h.blk.lt;have hsz1:(w.alloc (.cells #[.pointer (some ⟨gp,0,none⟩)] 102)).heap.size=w.heap.size+1:=by simp
 have hsz2:((w.alloc (.cells #[.pointer (some ⟨gp,0,none⟩)] 102)).alloc (.cells #[.int .i64 above] 3)).heap.size=w.heap.size+2:=by simp
 have hA:Below w.heap.size w (((w.alloc (.cells #[.pointer (some ⟨gp,0,none⟩)] 102)).alloc (.cells #[.int .i64 above] 3)).alloc (.cells zax 28)):=(((Below.refl _ w).alloc (Nat.le_refl _) _).alloc (by first | (simp;done) | (simp;omega)) _).alloc (by first | (simp;done) | (simp;omega)) _;have HP:=hX (h.keep hA);have hbp:Blk (((w.alloc (.cells #[.pointer (some ⟨gp,0,none⟩)] 102)).alloc (.cells #[.int .i64 above] 3)).alloc (.cells zax 28)) w.heap.size 102 #[.pointer (some ⟨gp,0,none⟩)]:=((Blk.new w _ _).alloc _).alloc _;have hba:Blk (((w.alloc (.cells #[.pointer (some ⟨gp,0,none⟩)] 102)).alloc (.cells #[.int .i64 above] 3)).alloc (.cells zax 28)) (w.heap.size+1) 3 #[.int .i64 above]:=by rw[←hsz1];exact (Blk.new _ _ _).alloc _
 have hbr:Blk (((w.alloc (.cells #[.pointer (some ⟨gp,0,none⟩)] 102)).alloc (.cells #[.int .i64 above] 3)).alloc (.cells zax 28)) (w.heap.size+2) 28 zax:=by rw[←hsz2];exact Blk.new _ _ _
 have HBP:=hX hbp;have HBA:=hX hba;have HBR:=hX hbr;have HG:=hX (only_of_below hA (some gp));have HKD:=hX (zgd above ha s gp k _ HP.out hs);rw[hK] at HKD;clear h hT hA hbp hba hbr hsz1 hsz2 hK;unfold zax at HBR HBA HBP HG HKD HP;go_enter Tryz.func51,Tryz.ntmps51;go_wp2_with fail;refine HKD.out.mono ?_;intro e w4 ho;obtain ⟨v,rfl,⟨rfl,hn1,hn2⟩,hg,j1,hkj,hpa,hr1⟩:=ho;subst hr1;have hbp4:=HBP.out.grown hg (fun e=>by injection e with e;omega);have hba4:=HBA.out.grown hg (fun e=>by injection e with e;omega);have hbr4:=HBR.out.grown hg (fun e=>by injection e with e;omega);have hg4:=zaa HG.out hg;have HF:=hX (Fr.first (k:=n) hpa hg4 hbp4 hba4 hbr4 hgp);have HT5:=hX ((HT.out.grown hg4 hB).next ((Below.refl B w4).alloc (HT.out.grown hg4 hB).1 (.cells #[.int .i64 n,.int .i64 0,.string emp,.string emp,.string emp,.slice none 0 0,.slice none 0 0,.int .i64 0,.int .i64 0,.slice none 0 0] 28)));clear hbp4 hba4 hbr4 hg4 hg hpa HBP HBA HBR HG HKD HP HT;unfold emp at HF HT5;go_upto_region 2 with fail;generalize w4.alloc (.cells #[.int .i64 n,.int .i64 0,.string ⟨#[]⟩,.string ⟨#[]⟩,.string ⟨#[]⟩,.slice none 0 0,.slice none 0 0,.int .i64 0,.int .i64 0,.slice none 0 0] 28)=W at *;generalize w4.heap.size=gq at *;have hq:=HF.out.hq;have hne:gq≠w.heap.size+1+1:=by omega
 rcases hn with rfl | rfl
 ·skip;obtain ⟨q0,q1,q2,q3,q4,q5,q6,q7,q8,q9⟩:=b10 HF.out.bq;obtain ⟨r0,r1,r2,r3,r4,r5,r6,r7,r8,r9⟩:=b10 HF.out.br;obtain ⟨z0,z1,z2,z3,z4,z5,z6,z7,z8,z9⟩:=z10 HF.out.br;have HBK:=hX (zcg (W:=W) (g:=w.heap.size+1+1) HF.out.br (.int .i64 1) (.int .i64 0) (.string ⟨#[]⟩) (.string ⟨#[]⟩) (.string ⟨#[]⟩) (.slice none 0 0) (.slice none 0 0) (.int .i64 0) (.int .i64 0) (.slice none 0 0));have HGR:=hX (zbn W (w.heap.size+1+1) (.int .i64 1) (.int .i64 0) (.string ⟨#[]⟩) (.string ⟨#[]⟩) (.string ⟨#[]⟩) (.slice none 0 0) (.slice none 0 0) (.int .i64 0) (.int .i64 0) (.slice none 0 0));go_wp2_with fail;generalize ((((((((((W.setCell ⟨w.heap.size+1+1,0,none⟩ (.int .i64 1)).setCell ⟨w.heap.size+1+1,1,none⟩ (.int .i64 0)).setCell ⟨w.heap.size+1+1,2,none⟩ (.string ⟨#[]⟩)).setCell ⟨w.heap.size+1+1,3,none⟩ (.string ⟨#[]⟩)).setCell ⟨w.heap.size+1+1,4,none⟩ (.string ⟨#[]⟩)).setCell ⟨w.heap.size+1+1,5,none⟩ (.slice none 0 0)).setCell ⟨w.heap.size+1+1,6,none⟩ (.slice none 0 0)).setCell ⟨w.heap.size+1+1,7,none⟩ (.int .i64 0)).setCell ⟨w.heap.size+1+1,8,none⟩ (.int .i64 0)).setCell ⟨w.heap.size+1+1,9,none⟩ (.slice none 0 0))=W2 at *;clear q0 r0 z0 q1 r1 z1 q2 r2 z2 q3 r3 z3 q4 r4 z4 q5 r5 z5 q6 r6 z6 q7 r7 z7 q8 r8 z8 q9 r9 z9;try simp only[Exit.inBlock,Exit.then]
  refine ⟨rfl,_,results_cell_row rfl _ W2 (w.heap.size+1+1) 28 _ (0,0) _ rfl HBK.out Tryz.underlying28 rfl (by kernel_rfl),?_⟩;obtain ⟨_,hqv,hat⟩:=HF.out.done HGR.out hkj;exact ⟨_,rfl,hqv,hat⟩
 ·skip;obtain ⟨q0,q1,q2,q3,q4,q5,q6,q7,q8,q9⟩:=b10 HF.out.bq;obtain ⟨r0,r1,r2,r3,r4,r5,r6,r7,r8,r9⟩:=b10 HF.out.br;obtain ⟨z0,z1,z2,z3,z4,z5,z6,z7,z8,z9⟩:=z10 HF.out.br;have HBK:=hX (zcg (W:=W) (g:=w.heap.size+1+1) HF.out.br (.int .i64 2) (.int .i64 0) (.string ⟨#[]⟩) (.string ⟨#[]⟩) (.string ⟨#[]⟩) (.slice none 0 0) (.slice none 0 0) (.int .i64 0) (.int .i64 0) (.slice none 0 0));have HGR:=hX (zbn W (w.heap.size+1+1) (.int .i64 2) (.int .i64 0) (.string ⟨#[]⟩) (.string ⟨#[]⟩) (.string ⟨#[]⟩) (.slice none 0 0) (.slice none 0 0) (.int .i64 0) (.int .i64 0) (.slice none 0 0));go_wp2_with fail;generalize ((((((((((W.setCell ⟨w.heap.size+1+1,0,none⟩ (.int .i64 2)).setCell ⟨w.heap.size+1+1,1,none⟩ (.int .i64 0)).setCell ⟨w.heap.size+1+1,2,none⟩ (.string ⟨#[]⟩)).setCell ⟨w.heap.size+1+1,3,none⟩ (.string ⟨#[]⟩)).setCell ⟨w.heap.size+1+1,4,none⟩ (.string ⟨#[]⟩)).setCell ⟨w.heap.size+1+1,5,none⟩ (.slice none 0 0)).setCell ⟨w.heap.size+1+1,6,none⟩ (.slice none 0 0)).setCell ⟨w.heap.size+1+1,7,none⟩ (.int .i64 0)).setCell ⟨w.heap.size+1+1,8,none⟩ (.int .i64 0)).setCell ⟨w.heap.size+1+1,9,none⟩ (.slice none 0 0))=W2 at *;clear q0 r0 z0 q1 r1 z1 q2 r2 z2 q3 r3 z3 q4 r4 z4 q5 r5 z5 q6 r6 z6 q7 r7 z7 q8 r8 z8 q9 r9 z9;try simp only[Exit.inBlock,Exit.then]
  refine ⟨rfl,_,results_cell_row rfl _ W2 (w.heap.size+1+1) 28 _ (0,0) _ rfl HBK.out Tryz.underlying28 rfl (by kernel_rfl),?_⟩;obtain ⟨_,hqv,hat⟩:=HF.out.done HGR.out hkj;exact ⟨_,rfl,hqv,hat⟩
theorem zyz (B:Nat) (n:Int) (hn:3≤n∧n≤7) (s:ByteArray) (gp:Nat) (w0:World) (gq above j:Nat) (f:ByteArray) (us:List Value) (bs:List Nat) (w:World) (h:Fr s gp w0 gq above j (.mk n 0 f emp emp [] [] 0 0 []) us bs w) (hs:s.size≤4096) (hB:B≤gp) (hT:PT B w) :
 Calls Tryz.prog 82 #[.pointer (some ⟨gp,0,none⟩),.pointer (some ⟨gq,0,none⟩)] w (ydq s gp w0 gq above j (zgz n f (rem s j))):=by
 by_cases h7:n=7
 ·subst h7;exact ydt B s gp w0 gq above j f us bs w h hs hB hT
 ·by_cases h6:n=6
  ·subst h6;exact yds s gp w0 gq above j f us bs w h hs
  ·exact ydr n s gp w0 gq above j f us bs w h hs h6 h7
theorem ybv (B:Nat) (s:ByteArray) (hs:s.size≤4096) (above:Nat) (ha:above≤6) (n:Int) (r1:R) (gp k:Nat) (w:World) (h:Pa s gp k w) (hB:B≤gp) (hT:PT B w) (hK:zc0 (6 - above) (rem s k) = .ok (n,r1)) (hn:3≤n∧n≤7) :
 Calls Tryz.prog 51 #[.pointer (some ⟨gp,0,none⟩),.int .i64 above] w (Out s gp k w (zhi (5 - above) n r1) (QV w.heap.size)):=by
 obtain ⟨x,hx⟩:∃x,zhi (5 - above) n r1=x:=⟨_,rfl⟩
 rw[hx]
 have HX:Hid (x=match zaj 40 r1 with | .error e=>.error e | .ok r2=>match zdo r2 with
  | .error e=>.error e
  | .ok (f,r1)=>match zaj 44 r1 with
    | .error e=>.error e
    | .ok r2=>match zgz n f r2 with
     | .error e=>.error e
     | .ok (q,r3)=>match zaj 41 r3 with
       | .error e=>.error e
       | .ok r4=>.ok (q,r4)):=hX (by rw[←hx];unfold zhi;cases zaj 40 r1 with
  | error e=>rfl
  | ok r2=>exact ydv _ _ _ hn)
 clear hx;have dn1:(n == 1)=false:=by rw[beq_eq_false_iff_ne];omega
 have dn2:(n == 2)=false:=by rw[beq_eq_false_iff_ne];omega
 have dn8:(n == 8)=false:=by rw[beq_eq_false_iff_ne];omega
 have dn9:(n == 9)=false:=by rw[beq_eq_false_iff_ne];omega
 have dn10:(n == 10)=false:=by rw[beq_eq_false_iff_ne];omega
 have HT:=hX hT;have hgp:gp<w.heap.size:=h.blk.lt;have hsz1:(w.alloc (.cells #[.pointer (some ⟨gp,0,none⟩)] 102)).heap.size=w.heap.size+1:=by simp
 have hsz2:((w.alloc (.cells #[.pointer (some ⟨gp,0,none⟩)] 102)).alloc (.cells #[.int .i64 above] 3)).heap.size=w.heap.size+2:=by simp
 have hA:Below w.heap.size w (((w.alloc (.cells #[.pointer (some ⟨gp,0,none⟩)] 102)).alloc (.cells #[.int .i64 above] 3)).alloc (.cells zax 28)):=(((Below.refl _ w).alloc (Nat.le_refl _) _).alloc (by first | (simp;done) | (simp;omega)) _).alloc (by first | (simp;done) | (simp;omega)) _;have HP:=hX (h.keep hA);have hbp:Blk (((w.alloc (.cells #[.pointer (some ⟨gp,0,none⟩)] 102)).alloc (.cells #[.int .i64 above] 3)).alloc (.cells zax 28)) w.heap.size 102 #[.pointer (some ⟨gp,0,none⟩)]:=((Blk.new w _ _).alloc _).alloc _;have hba:Blk (((w.alloc (.cells #[.pointer (some ⟨gp,0,none⟩)] 102)).alloc (.cells #[.int .i64 above] 3)).alloc (.cells zax 28)) (w.heap.size+1) 3 #[.int .i64 above]:=by rw[←hsz1];exact (Blk.new _ _ _).alloc _
 have hbr:Blk (((w.alloc (.cells #[.pointer (some ⟨gp,0,none⟩)] 102)).alloc (.cells #[.int .i64 above] 3)).alloc (.cells zax 28)) (w.heap.size+2) 28 zax:=by rw[←hsz2];exact Blk.new _ _ _
 have HBP:=hX hbp;have HBA:=hX hba;have HBR:=hX hbr;have HG:=hX (only_of_below hA (some gp));have HKD:=hX (zgd above ha s gp k _ HP.out hs);rw[hK] at HKD;clear h hT hA hbp hba hbr hsz1 hsz2 hK;unfold zax at HBR HBA HBP HG HKD HP;go_enter Tryz.func51,Tryz.ntmps51;go_wp2_with fail;refine HKD.out.mono ?_;intro e w4 ho;obtain ⟨v,rfl,⟨rfl,hn1,hn2⟩,hg,j1,hkj,hpa,hr1⟩:=ho;subst hr1;have hbp4:=HBP.out.grown hg (fun e=>by injection e with e;omega);have hba4:=HBA.out.grown hg (fun e=>by injection e with e;omega);have hbr4:=HBR.out.grown hg (fun e=>by injection e with e;omega);have hg4:=zaa HG.out hg;have HF:=hX (Fr.first (k:=n) hpa hg4 hbp4 hba4 hbr4 hgp);have HT5:=hX ((HT.out.grown hg4 hB).next ((Below.refl B w4).alloc (HT.out.grown hg4 hB).1 (.cells #[.int .i64 n,.int .i64 0,.string emp,.string emp,.string emp,.slice none 0 0,.slice none 0 0,.int .i64 0,.int .i64 0,.slice none 0 0] 28)));clear hbp4 hba4 hbr4 hg4 hg hpa HBP HBA HBR HG HKD HP HT;unfold emp at HF HT5;go_upto_region 2 with fail;generalize w4.alloc (.cells #[.int .i64 n,.int .i64 0,.string ⟨#[]⟩,.string ⟨#[]⟩,.string ⟨#[]⟩,.slice none 0 0,.slice none 0 0,.int .i64 0,.int .i64 0,.slice none 0 0] 28)=W at *;generalize w4.heap.size=gq at *;have hbq:=HF.out.bq.lt;have H1:=hX (zb9 40 s gp j1 W HF.out.pa hs);have q0:W.cell? ⟨gq,0,none⟩=some (.int .i64 n):=HF.out.bq.cell 0;have cp:W.cell? ⟨w.heap.size,0,none⟩=some (.pointer (some ⟨gp,0,none⟩)):=HF.out.bp.cell 0
 go_wp2_with fail;refine H1.out.mono ?_;clear H1
 obtain ⟨y1,hy1⟩:∃y,zaj 40 (rem s j1)=y:=⟨_,rfl⟩
 rw[hy1] at HX ⊢;clear hy1
 match y1 with
 | .error (p,c)=>
   intro e w9 ho;obtain ⟨rfl,hg⟩:=ho;refine ⟨rfl,?_⟩;rw[HX.out];exact ⟨rfl,zaa HF.out.grown hg⟩
 | .ok r2=>
  intro e w6 ho;obtain ⟨rfl,hg,j2,hj2,hpa,hr⟩:=ho;subst hr;have HF6:=hX (HF.out.same hg hpa);have HT6:=hX (HT5.out.grown hg hB);clear hg hpa q0 cp;have q0:w6.cell? ⟨gq,0,none⟩=some (.int .i64 n):=HF6.out.bq.cell 0;have q2:w6.cell? ⟨gq,2,none⟩=some (.string ⟨#[]⟩):=HF6.out.bq.cell 2;have cp:w6.cell? ⟨w.heap.size,0,none⟩=some (.pointer (some ⟨gp,0,none⟩)):=HF6.out.bp.cell 0;have H2:=hX (zn5 s gp j2 w6 HF6.out.pa hs);go_wp2_with fail;refine H2.out.mono ?_;clear H2
  obtain ⟨y2,hy2⟩:∃y,zdo (rem s j2)=y:=⟨_,rfl⟩
  rw[hy2] at HX ⊢;clear hy2
  match y2 with
  | .error (p,c)=>
    intro e w9 ho;obtain ⟨rfl,hg⟩:=ho;refine ⟨rfl,?_⟩;rw[HX.out];exact ⟨rfl,zaa HF6.out.grown hg⟩
  | .ok (f,r3)=>
    intro e w7 ho;obtain ⟨v,rfl,rfl,hg,j3,hj3,hpa,hr⟩:=ho;subst hr;have HF7:=hX (HF6.out.same hg hpa);have HT7:=hX (HT6.out.grown hg hB);have q2:w7.cell? ⟨gq,2,none⟩=some (.string ⟨#[]⟩):=HF7.out.bq.cell 2;have z2:w7.frozen? ⟨gq,2,none⟩=false:=HF7.out.bq.frozen 2;have HF8:=hX (HF7.out.set 2 (.string f) (HF7.out.oq.field f) HF7.out.nd);have HT8:=hX (HT7.out.next (show Below B w7 (w7.setCell ⟨gq,2,none⟩ (.string f)) from (Below.refl B w7).setCell (by show B≤gq;have:=HF7.out.hq;omega) _));clear hg hpa q0 cp;go_upto_region 9 with fail;generalize w7.setCell ⟨gq,2,none⟩ (.string f)=w8 at *;clear q2 z2;have cp:w8.cell? ⟨w.heap.size,0,none⟩=some (.pointer (some ⟨gp,0,none⟩)):=HF8.out.bp.cell 0;have H3:=hX (zff w.heap.size s gp j3 w8 HF8.out.pa hs cp);go_wp2_with fail;refine H3.out.mono ?_;clear H3
    obtain ⟨y3,hy3⟩:∃y,zaj 44 (rem s j3)=y:=⟨_,rfl⟩
    rw[hy3] at HX ⊢;clear hy3
    match y3 with
    | .error (p,c)=>
      intro e w9 ho;obtain ⟨rfl,hg⟩:=ho;refine ⟨rfl,?_⟩;rw[HX.out];exact ⟨rfl,zaa HF8.out.grown hg⟩
    | .ok r4=>
     intro e w9 ho;obtain ⟨rfl,hg,j4,hj4,hpa,hr⟩:=ho;subst hr;have HF9:=hX (HF8.out.same hg hpa);have HT9:=hX (HT8.out.grown hg hB);clear hg hpa cp;have cp:w9.cell? ⟨w.heap.size,0,none⟩=some (.pointer (some ⟨gp,0,none⟩)):=HF9.out.bp.cell 0;have H4:=hX (zyz B n hn s gp w gq above j4 f _ _ w9 HF9.out hs hB HT9.out);go_wp2_with fail;refine H4.out.mono ?_;clear H4
     obtain ⟨y4,hy4⟩:∃y,zgz n f (rem s j4)=y:=⟨_,rfl⟩
     rw[hy4] at HX ⊢;clear hy4
     match y4 with
     | .error (p,c)=>
       intro e w9 ho;obtain ⟨rfl,hg⟩:=ho;refine ⟨rfl,?_⟩;rw[HX.out];exact ⟨rfl,hg⟩
     | .ok (q,r5)=>
       intro e w10 ho;obtain ⟨rfl,j5,us5,bs5,hj5,hr,hf⟩:=ho;subst hr;have HF10:=hX hf;clear hf cp;have cp:w10.cell? ⟨w.heap.size,0,none⟩=some (.pointer (some ⟨gp,0,none⟩)):=HF10.out.bp.cell 0;have H5:=hX (zb9 41 s gp j5 w10 HF10.out.pa hs);go_wp2_with fail;refine H5.out.mono ?_;clear H5
       obtain ⟨y5,hy5⟩:∃y,zaj 41 (rem s j5)=y:=⟨_,rfl⟩
       rw[hy5] at HX ⊢;clear hy5
       match y5 with
       | .error (p,c)=>
         intro e w9 ho;obtain ⟨rfl,hg⟩:=ho;refine ⟨rfl,?_⟩;rw[HX.out];exact ⟨rfl,zaa HF10.out.grown hg⟩
       | .ok r6=>
        intro e w11 ho;obtain ⟨rfl,hg,j6,hj6,hpa,hr⟩:=ho;subst hr;have HF11:=hX (HF10.out.same hg hpa);clear hg hpa cp;obtain ⟨kq,oq,fq,tq,uq,loq,hiq,bq,opq,ksq⟩:=q;obtain ⟨cl,ch,ck,al,ah,ak,hus⟩:=HF11.out.shape;subst hus;have hq:=HF11.out.hq;have hne:gq≠w.heap.size+1+1:=by omega
        have hkj6:k≤j6:=by omega
        obtain ⟨q0,q1,q2,q3,q4,q5,q6,q7,q8,q9⟩:=b10 HF11.out.bq;obtain ⟨r0,r1,r2,r3,r4,r5,r6,r7,r8,r9⟩:=b10 HF11.out.br;obtain ⟨z0,z1,z2,z3,z4,z5,z6,z7,z8,z9⟩:=z10 HF11.out.br;have HBK:=hX (zcg (W:=w11) (g:=w.heap.size+1+1) HF11.out.br (.int .i64 kq) (.int .i64 oq) (.string fq) (.string tq) (.string uq) (.slice al loq.length cl) (.slice ah hiq.length ch) (.int .i64 bq) (.int .i64 opq) (.slice ak ksq.length ck));have HGR:=hX (zbn w11 (w.heap.size+1+1) (.int .i64 kq) (.int .i64 oq) (.string fq) (.string tq) (.string uq) (.slice al loq.length cl) (.slice ah hiq.length ch) (.int .i64 bq) (.int .i64 opq) (.slice ak ksq.length ck));go_wp2_with fail;generalize ((((((((((w11.setCell ⟨w.heap.size+1+1,0,none⟩ (.int .i64 kq)).setCell ⟨w.heap.size+1+1,1,none⟩ (.int .i64 oq)).setCell ⟨w.heap.size+1+1,2,none⟩ (.string fq)).setCell ⟨w.heap.size+1+1,3,none⟩ (.string tq)).setCell ⟨w.heap.size+1+1,4,none⟩ (.string uq)).setCell ⟨w.heap.size+1+1,5,none⟩ (.slice al loq.length cl)).setCell ⟨w.heap.size+1+1,6,none⟩ (.slice ah hiq.length ch)).setCell ⟨w.heap.size+1+1,7,none⟩ (.int .i64 bq)).setCell ⟨w.heap.size+1+1,8,none⟩ (.int .i64 opq)).setCell ⟨w.heap.size+1+1,9,none⟩ (.slice ak ksq.length ck))=W2 at *;clear q0 r0 z0 q1 r1 z1 q2 r2 z2 q3 r3 z3 q4 r4 z4 q5 r5 z5 q6 r6 z6 q7 r7 z7 q8 r8 z8 q9 r9 z9;try simp only[Exit.inBlock,Exit.then]
        refine ⟨rfl,_,results_cell_row rfl _ W2 (w.heap.size+1+1) 28 _ (0,0) _ rfl HBK.out Tryz.underlying28 rfl (by kernel_rfl),?_⟩;obtain ⟨_,hqv,hat⟩:=HF11.out.done HGR.out hkj6;rw[HX.out];exact ⟨_,rfl,hqv,hat⟩
theorem zy0 (r:R):zgp zan zbm (zaf r)=zgp zan zbm r:=by unfold zgp;rw[zji]
theorem ybw (B:Nat) (s:ByteArray) (hs:s.size≤4096) (above:Nat) (ha:above≤6) (n:Int) (r1:R) (gp k:Nat) (w:World) (h:Pa s gp k w) (hB:B≤gp) (hT:PT B w) (hK:zc0 (6 - above) (rem s k) = .ok (n,r1)) (ha5:above≤5) (hQ:zn8 B s (above+1)) (hn:n=9) :
 Calls Tryz.prog 51 #[.pointer (some ⟨gp,0,none⟩),.int .i64 above] w (Out s gp k w (zhi (5 - above) n r1) (QV w.heap.size)):=by
 subst hn
 obtain ⟨x,hx⟩:∃x,zhi (5 - above) 9 r1=x:=⟨_,rfl⟩
 rw[hx]
 have HX:Hid (x=match zaj 40 r1 with | .error e=>.error e | .ok r2=>match zgp zan zbm (zaf r2) with
  | .error e=>.error e
  | .ok (b,r1)=>if b<0∨1048576<b then .error ((zaf r2).length,180) else match zaj 44 r1 with
    | .error e=>.error e
    | .ok r2=>match zaz zan zbm (6 - (above+1)) r2 with
     | .error e=>.error e
     | .ok (q,r3)=>match zaj 41 r3 with
       | .error e=>.error e
       | .ok r4=>.ok (.mk 9 0 emp emp emp [] [] b 0 [q],r4)):=hX (by rw[←hx,show 6 - (above+1)=5 - above by omega];unfold zhi;cases zaj 40 r1 with
  | error e=>rfl
  | ok r2=>dsimp only;rw[zy0];exact ydw _ _)
 clear hx;have HQ:=hX hQ;clear hQ;have HT:=hX hT;have hgp:gp<w.heap.size:=h.blk.lt;have hsz1:(w.alloc (.cells #[.pointer (some ⟨gp,0,none⟩)] 102)).heap.size=w.heap.size+1:=by simp
 have hsz2:((w.alloc (.cells #[.pointer (some ⟨gp,0,none⟩)] 102)).alloc (.cells #[.int .i64 above] 3)).heap.size=w.heap.size+2:=by simp
 have hA:Below w.heap.size w (((w.alloc (.cells #[.pointer (some ⟨gp,0,none⟩)] 102)).alloc (.cells #[.int .i64 above] 3)).alloc (.cells zax 28)):=(((Below.refl _ w).alloc (Nat.le_refl _) _).alloc (by first | (simp;done) | (simp;omega)) _).alloc (by first | (simp;done) | (simp;omega)) _;have HP:=hX (h.keep hA);have hbp:Blk (((w.alloc (.cells #[.pointer (some ⟨gp,0,none⟩)] 102)).alloc (.cells #[.int .i64 above] 3)).alloc (.cells zax 28)) w.heap.size 102 #[.pointer (some ⟨gp,0,none⟩)]:=((Blk.new w _ _).alloc _).alloc _;have hba:Blk (((w.alloc (.cells #[.pointer (some ⟨gp,0,none⟩)] 102)).alloc (.cells #[.int .i64 above] 3)).alloc (.cells zax 28)) (w.heap.size+1) 3 #[.int .i64 above]:=by rw[←hsz1];exact (Blk.new _ _ _).alloc _
 have hbr:Blk (((w.alloc (.cells #[.pointer (some ⟨gp,0,none⟩)] 102)).alloc (.cells #[.int .i64 above] 3)).alloc (.cells zax 28)) (w.heap.size+2) 28 zax:=by rw[←hsz2];exact Blk.new _ _ _
 have HBP:=hX hbp;have HBA:=hX hba;have HBR:=hX hbr;have HG:=hX (only_of_below hA (some gp));have HKD:=hX (zgd above ha s gp k _ HP.out hs);rw[hK] at HKD;clear h hT hA hbp hba hbr hsz1 hsz2 hK;unfold zax at HBR HBA HBP HG HKD HP;go_enter Tryz.func51,Tryz.ntmps51;go_wp2_with fail;refine HKD.out.mono ?_;intro e w4 ho;obtain ⟨v,rfl,⟨rfl,hn1,hn2⟩,hg,j1,hkj,hpa,hr1⟩:=ho;subst hr1;have hbp4:=HBP.out.grown hg (fun e=>by injection e with e;omega);have hba4:=HBA.out.grown hg (fun e=>by injection e with e;omega);have hbr4:=HBR.out.grown hg (fun e=>by injection e with e;omega);have hg4:=zaa HG.out hg;have HF:=hX (Fr.first (k:=9) hpa hg4 hbp4 hba4 hbr4 hgp);have HT5:=hX ((HT.out.grown hg4 hB).next ((Below.refl B w4).alloc (HT.out.grown hg4 hB).1 (.cells #[.int .i64 9,.int .i64 0,.string emp,.string emp,.string emp,.slice none 0 0,.slice none 0 0,.int .i64 0,.int .i64 0,.slice none 0 0] 28)));clear hbp4 hba4 hbr4 hg4 hg hpa HBP HBA HBR HG HKD HP HT;unfold emp at HF HT5;go_upto_region 2 with fail;generalize w4.alloc (.cells #[.int .i64 9,.int .i64 0,.string ⟨#[]⟩,.string ⟨#[]⟩,.string ⟨#[]⟩,.slice none 0 0,.slice none 0 0,.int .i64 0,.int .i64 0,.slice none 0 0] 28)=W at *;generalize w4.heap.size=gq at *;have hbq:=HF.out.bq.lt;have H1:=hX (zb9 40 s gp j1 W HF.out.pa hs);have q0:W.cell? ⟨gq,0,none⟩=some (.int .i64 9):=HF.out.bq.cell 0;have cp:W.cell? ⟨w.heap.size,0,none⟩=some (.pointer (some ⟨gp,0,none⟩)):=HF.out.bp.cell 0
 go_wp2_with fail;refine H1.out.mono ?_;clear H1
 obtain ⟨y1,hy1⟩:∃y,zaj 40 (rem s j1)=y:=⟨_,rfl⟩
 rw[hy1] at HX ⊢;clear hy1
 match y1 with
 | .error (p,c)=>
   intro e w9 ho;obtain ⟨rfl,hg⟩:=ho;refine ⟨rfl,?_⟩;rw[HX.out];exact ⟨rfl,zaa HF.out.grown hg⟩
 | .ok r2=>
  intro e w6 ho;obtain ⟨rfl,hg,j2,hj2,hpa,hr⟩:=ho;subst hr;have HF6:=hX (HF.out.same hg hpa);have HT6:=hX (HT5.out.grown hg hB);clear hg hpa q0 cp;have q0:w6.cell? ⟨gq,0,none⟩=some (.int .i64 9):=HF6.out.bq.cell 0;have cp:w6.cell? ⟨w.heap.size,0,none⟩=some (.pointer (some ⟨gp,0,none⟩)):=HF6.out.bp.cell 0;have HSK:=hX (zdd s gp j2 w6 HF6.out.pa hs);go_wp2_with fail;refine HSK.out.mono ?_;clear HSK;rintro e w7 ⟨rfl,hg,j3,hj3,hpa,hr⟩;rw[←hr] at HX;clear hr;have HF7:=hX (HF6.out.same hg hpa);have HT7:=hX (HT6.out.grown hg hB);clear hg hpa q0 cp;have cp:w7.cell? ⟨w.heap.size,0,none⟩=some (.pointer (some ⟨gp,0,none⟩)):=HF7.out.bp.cell 0;have c1:w7.cell? ⟨gp,1,none⟩=some (.int .i64 j3):=HF7.out.pa.blk.cell 1;have HFT:Hid (ze3 (j3:Int) 180=ze3 ((s.size - (rem s j3).length:Nat):Int) 180):=hX (zde HF7.out.pa.le 180);have H2:=hX (zgf B s gp j3 w7 HF7.out.pa hs hB HT7.out);go_wp2_with fail;refine H2.out.mono ?_;clear H2
  obtain ⟨y2,hy2⟩:∃y,zgp zan zbm (rem s j3)=y:=⟨_,rfl⟩
  rw[hy2] at HX ⊢;clear hy2
  match y2 with
  | .error (p,c)=>
    intro e w9 ho;obtain ⟨rfl,hg⟩:=ho;refine ⟨rfl,?_⟩;rw[HX.out];exact ⟨rfl,zaa HF7.out.grown hg⟩
  | .ok (b,r3)=>
    intro e w8 ho;obtain ⟨v,rfl,⟨rfl,hb64⟩,hg,j4,hj4,hpa,hr⟩:=ho;subst hr;have HF8:=hX (HF7.out.same hg hpa);have HT8:=hX (HT7.out.grown hg hB);clear hg hpa cp c1 hb64;have q7:w8.cell? ⟨gq,7,none⟩=some (.int .i64 0):=HF8.out.bq.cell 7;have z7:w8.frozen? ⟨gq,7,none⟩=false:=HF8.out.bq.frozen 7;have HF9:=hX (HF8.out.set 7 (.int .i64 b) (HF8.out.oq.boost b) HF8.out.nd);have HT9:=hX (HT8.out.next (show Below B w8 (w8.setCell ⟨gq,7,none⟩ (.int .i64 b)) from (Below.refl B w8).setCell (by show B≤gq;have:=HF8.out.hq;omega) _));go_upto_region 30 with fail;generalize w8.setCell ⟨gq,7,none⟩ (.int .i64 b)=w9 at *;clear q7 z7;have q7:w9.cell? ⟨gq,7,none⟩=some (.int .i64 b):=HF9.out.bq.cell 7;have cp:w9.cell? ⟨w.heap.size,0,none⟩=some (.pointer (some ⟨gp,0,none⟩)):=HF9.out.bp.cell 0;by_cases hbad:b<0∨1048576<b
    ·rw[if_pos hbad] at HX;have HWR:=hX (za1 j3 w9);rcases Int.lt_or_le b 0 with hb0 | hb0
     ·have d0:decide (b<0)=true:=decide_eq_true hb0;clear hbad;go_wp2_with fail;refine HWR.out.mono ?_;rintro e w10 ⟨rfl,rfl⟩;refine ⟨rfl,?_⟩;rw[HX.out];exact ⟨HFT.out,HF9.out.grown⟩
     ·have d0:decide (b<0)=false:=decide_eq_false (by omega);have d1:decide (1048576<b)=true:=decide_eq_true (by omega);clear hbad hb0;go_wp2_with fail;refine HWR.out.mono ?_;rintro e w10 ⟨rfl,rfl⟩;refine ⟨rfl,?_⟩;rw[HX.out];exact ⟨HFT.out,HF9.out.grown⟩
    ·rw[if_neg hbad] at HX;have d0:decide (b<0)=false:=decide_eq_false (by omega);have d1:decide (1048576<b)=false:=decide_eq_false (by omega);clear hbad;have H3:=hX (zff w.heap.size s gp j4 w9 HF9.out.pa hs cp);go_wp2_with fail;refine H3.out.mono ?_;clear H3
     obtain ⟨y3,hy3⟩:∃y,zaj 44 (rem s j4)=y:=⟨_,rfl⟩
     rw[hy3] at HX ⊢;clear hy3
     match y3 with
     | .error (p,c)=>
       intro e w9 ho;obtain ⟨rfl,hg⟩:=ho;refine ⟨rfl,?_⟩;rw[HX.out];exact ⟨rfl,zaa HF9.out.grown hg⟩
     | .ok r4=>
      intro e w10 ho;obtain ⟨rfl,hg,j5,hj5,hpa,hr⟩:=ho;subst hr;have HF10:=hX (HF9.out.same hg hpa);have HT10:=hX (HT9.out.grown hg hB);clear hg hpa cp;have H4:=hX (zp8 B s gp w gq above j5 _ _ _ w10 HF10.out hs hB HT10.out ha5 (Nat.zero_le 4096) HQ.out);go_wp2_with fail;refine H4.out.mono ?_;clear H4
      obtain ⟨y4,hy4⟩:∃y,zaz zan zbm (6 - (above+1)) (rem s j5)=y:=⟨_,rfl⟩
      rw[hy4] at HX ⊢;clear hy4
      match y4 with
      | .error (p,c)=>
        intro e w99 ho;obtain ⟨rfl,hg⟩:=ho;refine ⟨rfl,?_⟩;rw[HX.out];exact ⟨rfl,hg⟩
      | .ok (q,r9)=>
        intro e w11 ho;obtain ⟨rfl,j6,us6,bs6,hj6,hr,hf⟩:=ho;subst hr;generalize hqa:ydu (QT.mk 9 0 ⟨#[]⟩ ⟨#[]⟩ ⟨#[]⟩ [] [] b 0 []) q=qa at hf;have HE:Hid (QT.mk 9 0 emp emp emp [] [] b 0 [q]=qa):=hX hqa;clear hqa;have HF11:=hX hf;clear hf;have cp:w11.cell? ⟨w.heap.size,0,none⟩=some (.pointer (some ⟨gp,0,none⟩)):=HF11.out.bp.cell 0;have H5:=hX (zb9 41 s gp j6 w11 HF11.out.pa hs);go_wp2_with fail;refine H5.out.mono ?_;clear H5
        obtain ⟨y5,hy5⟩:∃y,zaj 41 (rem s j6)=y:=⟨_,rfl⟩
        rw[hy5] at HX ⊢;clear hy5
        match y5 with
        | .error (p,c)=>
          intro e w9 ho;obtain ⟨rfl,hg⟩:=ho;refine ⟨rfl,?_⟩;rw[HX.out];exact ⟨rfl,zaa HF11.out.grown hg⟩
        | .ok r6=>
         intro e w12 ho;obtain ⟨rfl,hg,j7,hj7,hpa,hr⟩:=ho;subst hr;have HF12:=hX (HF11.out.same hg hpa);clear hg hpa cp;obtain ⟨kq,oq,fq,tq,uq,loq,hiq,bq,opq,ksq⟩:=qa;obtain ⟨cl,ch,ck,al,ah,ak,hus⟩:=HF12.out.shape;subst hus;have hq:=HF12.out.hq;have hne:gq≠w.heap.size+1+1:=by omega
         have hkj7:k≤j7:=by omega
         obtain ⟨q0,q1,q2,q3,q4,q5,q6,q7,q8,q9⟩:=b10 HF12.out.bq;obtain ⟨r0,r1,r2,r3,r4,r5,r6,r7,r8,r9⟩:=b10 HF12.out.br;obtain ⟨z0,z1,z2,z3,z4,z5,z6,z7,z8,z9⟩:=z10 HF12.out.br;have HBK:=hX (zcg (W:=w12) (g:=w.heap.size+1+1) HF12.out.br (.int .i64 kq) (.int .i64 oq) (.string fq) (.string tq) (.string uq) (.slice al loq.length cl) (.slice ah hiq.length ch) (.int .i64 bq) (.int .i64 opq) (.slice ak ksq.length ck));have HGR:=hX (zbn w12 (w.heap.size+1+1) (.int .i64 kq) (.int .i64 oq) (.string fq) (.string tq) (.string uq) (.slice al loq.length cl) (.slice ah hiq.length ch) (.int .i64 bq) (.int .i64 opq) (.slice ak ksq.length ck));go_wp2_with fail;generalize ((((((((((w12.setCell ⟨w.heap.size+1+1,0,none⟩ (.int .i64 kq)).setCell ⟨w.heap.size+1+1,1,none⟩ (.int .i64 oq)).setCell ⟨w.heap.size+1+1,2,none⟩ (.string fq)).setCell ⟨w.heap.size+1+1,3,none⟩ (.string tq)).setCell ⟨w.heap.size+1+1,4,none⟩ (.string uq)).setCell ⟨w.heap.size+1+1,5,none⟩ (.slice al loq.length cl)).setCell ⟨w.heap.size+1+1,6,none⟩ (.slice ah hiq.length ch)).setCell ⟨w.heap.size+1+1,7,none⟩ (.int .i64 bq)).setCell ⟨w.heap.size+1+1,8,none⟩ (.int .i64 opq)).setCell ⟨w.heap.size+1+1,9,none⟩ (.slice ak ksq.length ck))=W2 at *;clear q0 r0 z0 q1 r1 z1 q2 r2 z2 q3 r3 z3 q4 r4 z4 q5 r5 z5 q6 r6 z6 q7 r7 z7 q8 r8 z8 q9 r9 z9;try simp only[Exit.inBlock,Exit.then]
         refine ⟨rfl,_,results_cell_row rfl _ W2 (w.heap.size+1+1) 28 _ (0,0) _ rfl HBK.out Tryz.underlying28 rfl (by kernel_rfl),?_⟩;obtain ⟨_,hqv,hat⟩:=HF12.out.done HGR.out hkj7;rw[HX.out,HE.out];exact ⟨_,rfl,hqv,hat⟩
end Go.Proofs.YtplkbdncgkgppaaGreatDoor.Qry
