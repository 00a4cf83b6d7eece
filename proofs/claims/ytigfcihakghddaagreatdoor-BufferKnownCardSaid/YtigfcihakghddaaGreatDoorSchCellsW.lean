/- Lemmas that the last text leans on. -/
import Derived.Test.YtigfcihakghddaaGreatDoorTake
import Derived.Test.YtigfcihakghddaaGreatDoorPack15
import Derived.Test.YtigfcihakghddaaGreatDoorPack44
import Derived.Test.YtigfcihakghddaaGreatDoorPack26
import Derived.Test.YtigfcihakghddaaGreatDoorPack4
import Derived.Test.YtigfcihakghddaaGreatDoorPack12
import Derived.Deep.RegionHeld3
import Derived.Orders
set_option linter.all false
namespace Go.Proofs.YtigfcihakghddaaGreatDoor.Sch
open Go.RowKit Words Tree SchP Kit Owned AnaP
def cpre (c:CT):List Value:=[.int .i64 c.field,.string c.text]
theorem rowN_cells {N:Nat} {w:World} {v:Value} {xs:List CT} (h:RowN 103 2 .i64 cpre CT.nums N w v xs):T.At bare w (fun g=>N≤g∧CellsAt w g) (cellsT xs) v:=rowN_at ccells_len (fun c u S h=>ccells_mk h) h
def CellsRetN (r:Except Int (List CT)) (w:World) (e:Ending) (w':World):Prop:=
 Below w.heap.size w w'∧match r with
 | .error n=>e = .returned (.tuple #[.slice none 0 0,.int .i64 n])
 | .ok cs=>∃v,e = .returned (.tuple #[v,.int .i64 0])∧RowN 103 2 .i64 cpre CT.nums w.heap.size w' v cs
structure MadeW (W:World) (n:Nat) (zs:Array Value) (g1 g2 g3 g4:Nat) (V:World):Prop where
 below:Below W.heap.size W V
 r1:Blk V g1 3 zs
 r2:Blk V g2 3 zs
 b3:Blk V g3 57 #[.slice (some ⟨g1,0,none⟩) n n]
 b4:Blk V g4 57 #[.slice (some ⟨g2,0,none⟩) n n]
 ge:W.heap.size≤g1∧W.heap.size≤g2∧W.heap.size≤g3∧W.heap.size≤g4
 ne:g1≠g2
def CellSt (W2:World) (l:List FT) (d:List ET) (R:Except Int (List (CT × Nat))) (g1 g2 k:Nat) (v:Value) (wr:World):Prop:=
 ∃outs,goF decO runO l outs (d.drop k)=R∧RowN 103 2 .i64 cpre CT.nums W2.heap.size wr v (outs.map (·.1))∧Blk wr g1 3 (seenA l.length outs)∧Blk wr g2 3 (tokA l.length outs)∧
  But (fun g=>g=g1∨g=g2) W2 wr∧outs.length=k∧∀j,sumK j outs≤4096
structure AskSt (W7:World) (f:FT) (i:Nat) (e:ET) (outs:List (CT × Nat)) (gc g2:Nat) (cs:Array Value) (j:Nat) (wq:World):Prop where
 early:j≤3→Below W7.heap.size W7 wq
 kind:2≤j→kindP f e.text e.nums.length=true
 many:3≤j→(f.many || decide ((ofK i outs).length=0))=true
 done:j=4→∃c n,valueF decO runO f i e=some (c,n)∧(f.kind=1→sumK i outs+n≤4096)∧But (fun g=>g=gc∨g=g2) W7 wq∧Blk wq g2 3 (cs.setIfInBounds i (.int .i64 ((sumK i outs+n:Nat):Int)))∧
  ∃v,Blk wq gc 103 #[.int .i64 c.field,.string c.text,v]∧NumsIn 2 .i64 W7.heap.size wq.heap.size wq c.nums v
theorem below_al1 (W:World) (a:Obj):Below W.heap.size W (W.alloc a).drew:=((Below.refl _ _).alloc (Nat.le_refl _) _).drew
theorem below_al2 (W:World) (a b:Obj):Below W.heap.size W ((W.alloc a).alloc b).drew:=(((Below.refl _ _).alloc (Nat.le_refl _) _).alloc (by simp) _).drew
theorem below_al3 (W:World) (a b c:Obj):Below W.heap.size W (((W.alloc a).alloc b).alloc c).drew:=((((Below.refl _ _).alloc (Nat.le_refl _) _).alloc (by simp) _).alloc (by simp;omega) _).drew
theorem below_al4 (W:World) (a b c d:Obj):Below W.heap.size W ((((W.alloc a).alloc b).alloc c).alloc d).drew:=(((((Below.refl _ _).alloc (Nat.le_refl _) _).alloc (by simp) _).alloc (by simp;omega) _).alloc (by simp;omega) _).drew
set_option maxRecDepth 100000 in
set_option maxHeartbeats 8000000 in
theorem cells_anyN (u x:Value) (l:List FT) (d:List ET) (w:World) (hu:T.At bare w (fun g=>g<w.heap.size) (fieldsT l) u) (hl:l.length*72≤140737488351232) (hf:∀f∈l,FOk f)
 (hx:T.At bare w (fun g=>g<w.heap.size) (entriesT d) x) (hd:d.length*56≤140737488351232) (he:∀e∈d,EOk e) (hes:∀e∈d,e.text.size<4294967281) (hT:FoldNext.Tabs w) (hO:OrdLib.OTabs w) :
 Calls Tryz.prog 37 #[.agg #[u],.agg #[x]] w (CellsRetN (cellsF decO runO l d) w):=by
 have HCK:=hX (fun (W:World) (hW:Below w.heap.size w W)=>checkS_any u l W (At.below hu hW (fun g hg=>Nat.lt_of_lt_of_le hg hW.size)) hl hf);have HFI:=hX (fun (s:ByteArray) (W:World) (hW:Below w.heap.size w W)=>find_any u l s W (At.below hu hW (fun g hg=>Nat.lt_of_lt_of_le hg hW.size)) hl);obtain ⟨A,cA,rfl,hcA,hmA,eA⟩:=at_row fcells_len hu;obtain ⟨D,cD,rfl,hcD,hmD,eD⟩:=at_row ecells_len hx;have EA:=hX eA;have ED:=hX eD;have HF:=hX hf;have HE:=hX he;have HES:=hX hes;have HTT:=hX hT;have HOT:=hX hO;clear hu hx eA eD hf he hes hT hO
 cases hck:checkS l with
 | false=>
  rw[hck] at HCK;have HCF:Hid (cellsF decO runO l d = .error 80):=hX (by unfold cellsF;rw[if_pos hck]);have herr:errS false=80:=rfl;rw[herr] at HCK;go_enter Tryz.func37,Tryz.ntmps37;go_wp2_with fail;refine (HCK.out _ (below2 _ _)).mono ?_;rintro e' W1 ⟨rfl,b1⟩;have HB1:=hX ((below2 _ _).trans (b1.mono (by simp;omega)):Below w.heap.size w W1);clear b1;go_wp2_with fail;go_ret2;rw[HCF.out];exact ⟨HB1.out,rfl⟩
 | true=>
 have h16:1≤l.length∧l.length≤16:=(by unfold checkS at hck;simp only[Bool.and_eq_true,decide_eq_true_eq] at hck;omega)
 rw[hck] at HCK;by_cases h64:64<d.length
 ·have HCF:Hid (cellsF decO runO l d = .error 84):=hX (by unfold cellsF;rw[if_neg (by rw[hck];decide),if_pos h64]);have herr:errS true=0:=rfl;rw[herr] at HCK;have h64':decide ((64:Int)<d.length)=true:=decide_eq_true (by omega);go_enter Tryz.func37,Tryz.ntmps37;go_wp2_with fail;refine (HCK.out _ (below2 _ _)).mono ?_;rintro e' W1 ⟨rfl,b1⟩;have HB1:=hX ((below2 _ _).trans (b1.mono (by simp;omega)):Below w.heap.size w W1);have BB:=hX ((blk_b w #[.slice A l.length cA] #[.slice D d.length cD] 24 67).below b1 (by simp));have hD:W1.cell? ⟨w.heap.size+1,0,none⟩=some (.slice D d.length cD):=BB.out.cell 0;clear b1;go_wp2_with fail;go_ret2;rw[HCF.out];exact ⟨HB1.out,rfl⟩
 go_enter Tryz.func37,Tryz.ntmps37;go_wp2_with fail;refine (HCK.out _ (below2 _ _)).mono ?_;rintro e' W1 ⟨rfl,b1⟩;have HB1:=hX ((below2 _ _).trans (b1.mono (by simp;omega)):Below w.heap.size w W1);have BA:=hX ((blk_a w #[.slice A l.length cA] #[.slice D d.length cD] 24 67).below b1 (by simp;omega));have BB:=hX ((blk_b w #[.slice A l.length cA] #[.slice D d.length cD] 24 67).below b1 (by simp));have hz1:w.heap.size+2≤W1.heap.size:=BB.out.lt;have hA:W1.cell? ⟨w.heap.size,0,none⟩=some (.slice A l.length cA):=BA.out.cell 0;have hD:W1.cell? ⟨w.heap.size+1,0,none⟩=some (.slice D d.length cD):=BB.out.cell 0;have h64':decide ((64:Int)<d.length)=false:=by rw[decide_eq_false_iff_not];omega
 have herr:errS true=0:=rfl;rw[herr];clear b1
 obtain ⟨zs,hzs⟩:∃zs,madeCells #[Value.int .i64 0] l.length=zs:=⟨_,rfl⟩
 have hmk:∀V:World,(Instr.makeSlice 57 (.int .i64 l.length) (.int .i64 l.length)).run Tryz.prog V = .ok (.slice (some ⟨V.heap.size,0,none⟩) l.length l.length) (V.alloc (.cells zs 3)):=fun V=>by obtain ⟨i0,hi,hz0,hz1,hz2⟩:=info_parts infoInt;have:=run_make (P:=Tryz.prog) V 57 3 i0 (.int .i64 0) Tryz.underlying57 hi hz0 .i64 .i64 l.length l.length (by omega) (by omega) (by rw[hz2];omega) (by omega);rw[hz1,Int.toNat_natCast,Nat.mul_one] at this;rw[this,←hzs];rfl
 have HZS:=hX hzs;clear hzs;go_upto_region 7 with fail;refine wp_mono (Q:=fun ex a' V=>ex = .normal∧∃g1 g2 g3 g4,MadeW W1 l.length zs g1 g2 g3 g4 V∧a'={ tmps:=#[.agg #[.slice A l.length cA],.agg #[.slice D d.length cD],.pointer (some ⟨w.heap.size,0,none⟩),.pointer (some ⟨w.heap.size+1,0,none⟩),.slice none 0 0,.int .i64 0,.int .i64 0,.slice none 0 0,.pointer (some ⟨g3,0,none⟩),.pointer (some ⟨g4,0,none⟩),undef,undef,undef,undef,undef,undef,undef,undef,undef,.agg #[.slice A l.length cA],.int .i64 0,.int .i64 0,.bool false,undef,.pointer (some ⟨w.heap.size+1,0,none⟩),.slice D d.length cD,.int .i64 d.length,.bool false,.pointer (some ⟨w.heap.size,0,none⟩),.slice A l.length cA,.int .i64 l.length,.slice (some ⟨g1,0,none⟩) l.length l.length,.pointer (some ⟨w.heap.size,0,none⟩),.slice A l.length cA,.int .i64 l.length,.slice (some ⟨g2,0,none⟩) l.length l.length,undef,undef,undef,undef,undef,undef,undef,undef,undef,undef,undef,undef,undef,undef,undef,undef,undef,undef,undef,undef,undef,undef,undef,undef,undef,undef,undef,undef,undef,undef,undef,undef,undef,undef,undef,undef,undef,undef,undef,undef,undef,undef,undef,undef,undef,undef,undef,undef,undef],defers:=[] }) ?region ?rest
 case rest=>
  rintro ex a' W2 ⟨rfl,g1,g2,g3,g4,hM,rfl⟩;have HW2:Hid (Below w.heap.size w W2):=hX (HB1.out.trans (hM.below.mono HB1.out.size));have BA2:=hX (BA.out.below hM.below BA.out.lt);have BB2:=hX (BB.out.below hM.below BB.out.lt);have HM:=hX hM;have hD2:W2.cell? ⟨w.heap.size+1,0,none⟩=some (.slice D d.length cD):=BB2.out.cell 0;have hge:=hM.ge;have hzz:=hM.below.size
  obtain ⟨R,hR⟩:∃R,goF decO runO l [] d=R:=⟨_,rfl⟩
  have HR:=hX hR;have HS0:Hid (CellSt W2 l d R g1 g2 0 (.slice none 0 0) W2):=hX ⟨[],hR,rowN_nil (Nat.le_refl _),(by rw[seenA_nil,HZS.out];exact hM.r1),(by rw[tokA_nil,HZS.out];exact hM.r2),But.refl _ _,rfl,fun j=>by simp[sumK,ofK]⟩;have HCF:Hid (cellsF decO runO l d=R.map fun o=>o.map (·.1)):=hX (by unfold cellsF;rw[if_neg (by rw[hck];decide),if_neg h64,hR]);clear hM hR hmk;go_wp2_with fail;go_loopw [7,39] (fun v i wr=>∃k:Nat,k≤d.length∧i = .int .i64 k∧Hid (CellSt W2 l d R g1 g2 k v wr)) (fun _ i _=>d.length - (intOf i).toNat);case atStart=>exact ⟨0,by omega,rfl,HS0⟩
  case round=>
   obtain ⟨k,hk,rfl,HS⟩:=hrel
   obtain ⟨wo,hwo⟩:∃wo:World,wo=wr:=⟨_,rfl⟩
   subst hwo;by_cases hlt:k<d.length
   ·have HSB:Hid (But (fun g=>g=g1∨g=g2) W2 wo):=hX (by obtain ⟨_,_,_,_,_,h,_⟩:=HS.out;exact h);have HBW:Hid (Below W1.heap.size W1 wo):=hX (HM.out.below.trans (HSB.out.below (by have:=HM.out.below.size;omega) (fun g hg h=>by rcases h with rfl | rfl <;> omega)));have HWR:Hid (Below w.heap.size w wo):=hX (HB1.out.trans (HBW.out.mono HB1.out.size));have hzr:=HSB.out.size;obtain ⟨ad,us,rfl,hba,au,lu,cu⟩:=ED.out k hlt;replace cu:=cu.keep (w':=wo) (fun p hp=>HWR.out.cell (by rw[hp,block_of_add];exact hba));have hab:(ad.add (k*3)).block<wo.heap.size:=by rw[block_of_add];omega
    have HEO:=hX (HE.out _ (List.getElem_mem hlt));have HESO:=hX (HES.out _ (List.getElem_mem hlt));have HGO:Hid (∀outs,goF decO runO l outs (d.drop k)=match stepF decO runO l outs (d[k]'hlt) with | .error n=>.error n | .ok c=>goF decO runO l (outs++[c]) (d.drop (k+1))):=hX (fun outs=>by rw[List.drop_eq_getElem_cons hlt];rfl);have HFZ:=hX (findZ_eq l (d[k]'hlt).field);generalize d[k]=e at *;obtain ⟨vc,rfl,gc⟩:=at_ecells au;obtain ⟨Y,z2,rfl,hz2,hmz2⟩:=at_slice gc;have HEC:=hX gc;have HF1:=hX (fun (V:World) (hV:Below w.heap.size w V)=>HFI.out e.field V hV);obtain ⟨a0,a1,a2⟩:=three cu;have hA':wo.cell? ⟨w.heap.size,0,none⟩=some (.slice A l.length cA):=(BA.out.below HBW.out BA.out.lt).cell 0;have hsl:w.heap.size<wo.heap.size:=by omega
    clear cu au lu gc;go_wp2_with fail;refine (HF1.out _ (HWR.out.alloc HWR.out.size _)).mono ?_;rintro e' W3 ⟨rfl,b3⟩;have HB3:=hX ((Below.refl _ wo).alloc (Nat.le_refl _) _ |>.trans (b3.mono (by simp)):Below wo.heap.size wo W3);have BE:=hX ((Blk.new wo 82 #[.string e.field,.string e.text,.slice Y e.nums.length z2]).below b3 (by simp));have hz3:wo.heap.size+1≤W3.heap.size:=by have:=b3.size;simpa using this
    clear b3 a0 a1 a2 hA';rw[HFZ.out];have HBW3:Hid (Below W1.heap.size W1 W3):=hX (HBW.out.trans (HB3.out.mono (by omega)));have hA3:W3.cell? ⟨w.heap.size,0,none⟩=some (.slice A l.length cA):=(BA.out.below HBW3.out BA.out.lt).cell 0
    cases hfi:findF l e.field with
    | none=>
     obtain ⟨sd,us2,rfl,hbs,asx,ls,cs⟩:=EA.out 0 (by omega);replace cs:=cs.keep (w':=W3) (fun p hp=>(HWR.out.trans (HB3.out.mono HWR.out.size)).cell (by rw[hp,block_of_add];exact hbs))
     have HE81:Hid (R = .error 81):=hX (by
      obtain ⟨outs,hgo,_⟩:=HS.out;rw[HGO.out outs,stepF_none hfi] at hgo
      exact hgo.symm)
     generalize l[0]=f at *;obtain ⟨vs,rfl,gs⟩:=at_fcells asx;obtain ⟨X,z1,rfl,hz1',hmz1⟩:=at_slice gs;obtain ⟨s0,s1,s2,s3,s4,s5,s6⟩:=seven cs;rw[show sd.add (0*7)=sd from rfl] at s0 s1 s2 s3 s4 s5 s6;have hm:max (0:Int) (zOf none)=0:=by decide
     have hz0:decide ((0:Int)≤zOf none)=false:=by decide
     have hl0:(0:Int)<(l.length:Int):=by omega
     have hsb:sd.block<W3.heap.size:=by omega
     rw[hm,hz0];clear hm hz0 hfi cs asx ls gs;have hsl3:w.heap.size<W3.heap.size:=by omega
     go_upto_region 12 with fail;have BI:=hX (blk_a W3 #[.int .i64 0] #[.bool false] 3 4);have BK:=hX (blk_b W3 #[.int .i64 0] #[.bool false] 3 4);have HB4:=hX (below2 (w:=W3) (.cells #[.int .i64 0] 3) (.cells #[.bool false] 4));have hz4:W3.heap.size+2≤((W3.alloc (.cells #[.int .i64 0] 3)).alloc (.cells #[.bool false] 4)).heap.size:=by simp
     generalize (W3.alloc (.cells #[.int .i64 0] 3)).alloc (.cells #[.bool false] 4)=W4 at *;have hA4:W4.cell? ⟨w.heap.size,0,none⟩=some (.slice (some sd) l.length cA):=(HB4.out.cell (p:=⟨w.heap.size,0,none⟩) hsl3).trans hA3;have hI4:W4.cell? ⟨W3.heap.size,0,none⟩=some (.int .i64 0):=BI.out.cell 0;replace s0:=(HB4.out.cell (p:=sd) hsb).trans s0;replace s1:=(HB4.out.cell (p:=⟨sd.block,sd.off+1,none⟩) hsb).trans s1;replace s2:=(HB4.out.cell (p:=⟨sd.block,sd.off+2,none⟩) hsb).trans s2;replace s3:=(HB4.out.cell (p:=⟨sd.block,sd.off+3,none⟩) hsb).trans s3;replace s4:=(HB4.out.cell (p:=⟨sd.block,sd.off+4,none⟩) hsb).trans s4;replace s5:=(HB4.out.cell (p:=⟨sd.block,sd.off+5,none⟩) hsb).trans s5;replace s6:=(HB4.out.cell (p:=⟨sd.block,sd.off+6,none⟩) hsb).trans s6;have hsb4:sd.block<W4.heap.size:=by omega
     clear hA3;go_upto_region 13 with fail;have BF:=hX (Blk.new W4 86 #[.string f.name,.int .i64 f.kind,.slice X f.chain.length z1,.int .i64 f.scale,.int .i64 f.dims,.bool f.many,.bool f.stored]);have HB5:=hX ((Below.refl _ W4).alloc (Nat.le_refl _) (.cells #[.string f.name,.int .i64 f.kind,.slice X f.chain.length z1,.int .i64 f.scale,.int .i64 f.dims,.bool f.many,.bool f.stored] 86));have hz5:W4.heap.size+1≤(W4.alloc (.cells #[.string f.name,.int .i64 f.kind,.slice X f.chain.length z1,.int .i64 f.scale,.int .i64 f.dims,.bool f.many,.bool f.stored] 86)).heap.size:=by simp
     generalize (W4.alloc (.cells #[.string f.name,.int .i64 f.kind,.slice X f.chain.length z1,.int .i64 f.scale,.int .i64 f.dims,.bool f.many,.bool f.stored] 86))=W5 at *;have hI5:W5.cell? ⟨W3.heap.size,0,none⟩=some (.int .i64 0):=(BI.out.below HB5.out (by omega)).cell 0;clear s0 s1 s2 s3 s4 s5 s6 hA4 hI4;go_upto_region 14 with fail;have BC:=hX (Blk.new W5 103 #[.int .i64 0,.string ⟨#[]⟩,.slice none 0 0]);have HB6:=hX ((Below.refl _ W5).alloc (Nat.le_refl _) (.cells #[.int .i64 0,.string ⟨#[]⟩,.slice none 0 0] 103));have hz6:W5.heap.size+1≤(W5.alloc (.cells #[.int .i64 0,.string ⟨#[]⟩,.slice none 0 0] 103)).heap.size:=by simp
     generalize W5.alloc (.cells #[.int .i64 0,.string ⟨#[]⟩,.slice none 0 0] 103)=W6 at *;clear hI5;have hmf:∀(fn:Fn) (first cap:Array Value) (w:World),(Instr.makeFunc fn first cap).run Tryz.prog w = .ok (.func fn first cap) w:=fun _ _ _ _=>rfl;go_wp2_with fail
     have BG:=hX (Blk.new W6 130 #[.func (.func 63) #[] #[.pointer (some ⟨W3.heap.size+1,0,none⟩)],.func (.func 65) #[] #[.pointer (some ⟨W4.heap.size,0,none⟩),.pointer (some ⟨wo.heap.size,0,none⟩)],
      .func (.func 67) #[] #[.pointer (some ⟨W4.heap.size,0,none⟩),.pointer (some ⟨g3,0,none⟩),.pointer (some ⟨W3.heap.size,0,none⟩)],
      .func (.func 68) #[] #[.pointer (some ⟨W4.heap.size,0,none⟩),.pointer (some ⟨wo.heap.size,0,none⟩),.pointer (some ⟨W5.heap.size,0,none⟩),.pointer (some ⟨g4,0,none⟩),.pointer (some ⟨W3.heap.size,0,none⟩)]])
     have hb47:Below W4.heap.size W4 (W6.alloc (.cells #[.func (.func 63) #[] #[.pointer (some ⟨W3.heap.size+1,0,none⟩)],.func (.func 65) #[] #[.pointer (some ⟨W4.heap.size,0,none⟩),.pointer (some ⟨wo.heap.size,0,none⟩)],
      .func (.func 67) #[] #[.pointer (some ⟨W4.heap.size,0,none⟩),.pointer (some ⟨g3,0,none⟩),.pointer (some ⟨W3.heap.size,0,none⟩)],
      .func (.func 68) #[] #[.pointer (some ⟨W4.heap.size,0,none⟩),.pointer (some ⟨wo.heap.size,0,none⟩),.pointer (some ⟨W5.heap.size,0,none⟩),.pointer (some ⟨g4,0,none⟩),.pointer (some ⟨W3.heap.size,0,none⟩)]] 130)):=
      (HB5.out.trans (HB6.out.mono (by omega))).alloc (by omega) _
     have hb57:Below W5.heap.size W5 (W6.alloc (.cells #[.func (.func 63) #[] #[.pointer (some ⟨W3.heap.size+1,0,none⟩)],.func (.func 65) #[] #[.pointer (some ⟨W4.heap.size,0,none⟩),.pointer (some ⟨wo.heap.size,0,none⟩)],
      .func (.func 67) #[] #[.pointer (some ⟨W4.heap.size,0,none⟩),.pointer (some ⟨g3,0,none⟩),.pointer (some ⟨W3.heap.size,0,none⟩)],
      .func (.func 68) #[] #[.pointer (some ⟨W4.heap.size,0,none⟩),.pointer (some ⟨wo.heap.size,0,none⟩),.pointer (some ⟨W5.heap.size,0,none⟩),.pointer (some ⟨g4,0,none⟩),.pointer (some ⟨W3.heap.size,0,none⟩)]] 130)):=
      HB6.out.alloc (by omega) _
     have hb67:Below W6.heap.size W6 (W6.alloc (.cells #[.func (.func 63) #[] #[.pointer (some ⟨W3.heap.size+1,0,none⟩)],.func (.func 65) #[] #[.pointer (some ⟨W4.heap.size,0,none⟩),.pointer (some ⟨wo.heap.size,0,none⟩)],
      .func (.func 67) #[] #[.pointer (some ⟨W4.heap.size,0,none⟩),.pointer (some ⟨g3,0,none⟩),.pointer (some ⟨W3.heap.size,0,none⟩)],
      .func (.func 68) #[] #[.pointer (some ⟨W4.heap.size,0,none⟩),.pointer (some ⟨wo.heap.size,0,none⟩),.pointer (some ⟨W5.heap.size,0,none⟩),.pointer (some ⟨g4,0,none⟩),.pointer (some ⟨W3.heap.size,0,none⟩)]] 130)):=
      (Below.refl _ _).alloc (Nat.le_refl _) _
     have hz7:W6.heap.size+1≤(W6.alloc (.cells #[.func (.func 63) #[] #[.pointer (some ⟨W3.heap.size+1,0,none⟩)],.func (.func 65) #[] #[.pointer (some ⟨W4.heap.size,0,none⟩),.pointer (some ⟨wo.heap.size,0,none⟩)],
      .func (.func 67) #[] #[.pointer (some ⟨W4.heap.size,0,none⟩),.pointer (some ⟨g3,0,none⟩),.pointer (some ⟨W3.heap.size,0,none⟩)],
      .func (.func 68) #[] #[.pointer (some ⟨W4.heap.size,0,none⟩),.pointer (some ⟨wo.heap.size,0,none⟩),.pointer (some ⟨W5.heap.size,0,none⟩),.pointer (some ⟨g4,0,none⟩),.pointer (some ⟨W3.heap.size,0,none⟩)]] 130)).heap.size:=by simp
     generalize W6.alloc (.cells #[.func (.func 63) #[] #[.pointer (some ⟨W3.heap.size+1,0,none⟩)],.func (.func 65) #[] #[.pointer (some ⟨W4.heap.size,0,none⟩),.pointer (some ⟨wo.heap.size,0,none⟩)],
      .func (.func 67) #[] #[.pointer (some ⟨W4.heap.size,0,none⟩),.pointer (some ⟨g3,0,none⟩),.pointer (some ⟨W3.heap.size,0,none⟩)],
      .func (.func 68) #[] #[.pointer (some ⟨W4.heap.size,0,none⟩),.pointer (some ⟨wo.heap.size,0,none⟩),.pointer (some ⟨W5.heap.size,0,none⟩),.pointer (some ⟨g4,0,none⟩),.pointer (some ⟨W3.heap.size,0,none⟩)]] 130)=W7 at *
     have HB7:Hid (Below wo.heap.size wo W7):=hX ((HB3.out.trans (HB4.out.mono (by omega))).trans (hb47.mono (by omega)));have HW7:Hid (Below w.heap.size w W7):=hX (HWR.out.trans (HB7.out.mono HWR.out.size));have BK7:=hX (BK.out.below hb47 BK.out.lt);have HQ1:=hX (ask1_any (W3.heap.size+1) false W7 (BK7.out.cell 0));have cG:W7.cell? ⟨W6.heap.size,0,none⟩=some (.func (.func 63) #[] #[.pointer (some ⟨W3.heap.size+1,0,none⟩)]):=BG.out.cell 0;clear hb47 hb57 hb67;go_loopw [63] (fun iv wq=>iv = .int .i64 0∧wq=W7) (fun _ _=>0);case atStart=>exact ⟨rfl,rfl⟩
     case round=>
      obtain ⟨rfl,rfl⟩:=hrel;go_wp2_with fail;refine HQ1.out.mono ?_;rintro e' V ⟨rfl,q⟩;have HBV:=hX (HW7.out.trans (q.mono HW7.out.size));clear q cG;go_wp2_with fail;go_ret2;rw[HCF.out,HE81.out];exact ⟨HBV.out,rfl⟩
    | some i=>
     obtain ⟨hil,-,-⟩:=findF_some hfi;obtain ⟨sd,us2,rfl,hbs,asx,ls,cs⟩:=EA.out i hil;replace cs:=cs.keep (w':=W3) (fun p hp=>(HWR.out.trans (HB3.out.mono HWR.out.size)).cell (by rw[hp,block_of_add];exact hbs));have hli:l[i]?=some l[i]:=List.getElem?_eq_getElem hil;have HFO:=hX (HF.out _ (List.getElem_mem hil));generalize l[i]=f at *;obtain ⟨vs,rfl,gs⟩:=at_fcells asx;obtain ⟨X,z1,rfl,hz1',hmz1⟩:=at_slice gs;have HFC:=hX gs;obtain ⟨s0,s1,s2,s3,s4,s5,s6⟩:=seven cs;have hm:max (0:Int) (zOf (some i))=i:=by simp only[zOf];omega
     have hz0:decide ((0:Int)≤zOf (some i))=true:=decide_eq_true (by simp only[zOf];omega);have hil2:(i:Int)<(l.length:Int):=by omega
     have hsb:(sd.add (i*7)).block<W3.heap.size:=by rw[block_of_add];omega
     rw[hm,hz0];have HLI:=hX hli;have HFI':=hX hfi;clear hm hz0 hli hfi cs asx ls gs;have hsl3:w.heap.size<W3.heap.size:=by omega
     go_upto_region 12 with fail;have BI:=hX (blk_a W3 #[.int .i64 i] #[.bool true] 3 4);have BK:=hX (blk_b W3 #[.int .i64 i] #[.bool true] 3 4);have HB4:=hX (below2 (w:=W3) (.cells #[.int .i64 i] 3) (.cells #[.bool true] 4));have hz4:W3.heap.size+2≤((W3.alloc (.cells #[.int .i64 i] 3)).alloc (.cells #[.bool true] 4)).heap.size:=by simp
     generalize (W3.alloc (.cells #[.int .i64 i] 3)).alloc (.cells #[.bool true] 4)=W4 at *;have hA4:W4.cell? ⟨w.heap.size,0,none⟩=some (.slice (some sd) l.length cA):=(HB4.out.cell (p:=⟨w.heap.size,0,none⟩) hsl3).trans hA3;have hI4:W4.cell? ⟨W3.heap.size,0,none⟩=some (.int .i64 i):=BI.out.cell 0;replace s0:=(HB4.out.cell (p:=sd.add (i*7)) hsb).trans s0;replace s1:=(HB4.out.cell (p:=⟨(sd.add (i*7)).block,(sd.add (i*7)).off+1,none⟩) hsb).trans s1;replace s2:=(HB4.out.cell (p:=⟨(sd.add (i*7)).block,(sd.add (i*7)).off+2,none⟩) hsb).trans s2;replace s3:=(HB4.out.cell (p:=⟨(sd.add (i*7)).block,(sd.add (i*7)).off+3,none⟩) hsb).trans s3;replace s4:=(HB4.out.cell (p:=⟨(sd.add (i*7)).block,(sd.add (i*7)).off+4,none⟩) hsb).trans s4;replace s5:=(HB4.out.cell (p:=⟨(sd.add (i*7)).block,(sd.add (i*7)).off+5,none⟩) hsb).trans s5;replace s6:=(HB4.out.cell (p:=⟨(sd.add (i*7)).block,(sd.add (i*7)).off+6,none⟩) hsb).trans s6;have hsb4:(sd.add (i*7)).block<W4.heap.size:=by omega
     clear hA3;go_upto_region 13 with fail;have BF:=hX (Blk.new W4 86 #[.string f.name,.int .i64 f.kind,.slice X f.chain.length z1,.int .i64 f.scale,.int .i64 f.dims,.bool f.many,.bool f.stored]);have HB5:=hX ((Below.refl _ W4).alloc (Nat.le_refl _) (.cells #[.string f.name,.int .i64 f.kind,.slice X f.chain.length z1,.int .i64 f.scale,.int .i64 f.dims,.bool f.many,.bool f.stored] 86));have hz5:W4.heap.size+1≤(W4.alloc (.cells #[.string f.name,.int .i64 f.kind,.slice X f.chain.length z1,.int .i64 f.scale,.int .i64 f.dims,.bool f.many,.bool f.stored] 86)).heap.size:=by simp
     generalize (W4.alloc (.cells #[.string f.name,.int .i64 f.kind,.slice X f.chain.length z1,.int .i64 f.scale,.int .i64 f.dims,.bool f.many,.bool f.stored] 86))=W5 at *;have hI5:W5.cell? ⟨W3.heap.size,0,none⟩=some (.int .i64 i):=(BI.out.below HB5.out (by omega)).cell 0;clear s0 s1 s2 s3 s4 s5 s6 hA4 hI4;go_upto_region 14 with fail;have BC:=hX (Blk.new W5 103 #[.int .i64 i,.string ⟨#[]⟩,.slice none 0 0]);have HB6:=hX ((Below.refl _ W5).alloc (Nat.le_refl _) (.cells #[.int .i64 i,.string ⟨#[]⟩,.slice none 0 0] 103));have hz6:W5.heap.size+1≤(W5.alloc (.cells #[.int .i64 i,.string ⟨#[]⟩,.slice none 0 0] 103)).heap.size:=by simp
     generalize W5.alloc (.cells #[.int .i64 i,.string ⟨#[]⟩,.slice none 0 0] 103)=W6 at *;clear hI5;have hmf:∀(fn:Fn) (first cap:Array Value) (w:World),(Instr.makeFunc fn first cap).run Tryz.prog w = .ok (.func fn first cap) w:=fun _ _ _ _=>rfl;go_wp2_with fail
     have BG:=hX (Blk.new W6 130 #[.func (.func 63) #[] #[.pointer (some ⟨W3.heap.size+1,0,none⟩)],.func (.func 65) #[] #[.pointer (some ⟨W4.heap.size,0,none⟩),.pointer (some ⟨wo.heap.size,0,none⟩)],
      .func (.func 67) #[] #[.pointer (some ⟨W4.heap.size,0,none⟩),.pointer (some ⟨g3,0,none⟩),.pointer (some ⟨W3.heap.size,0,none⟩)],
      .func (.func 68) #[] #[.pointer (some ⟨W4.heap.size,0,none⟩),.pointer (some ⟨wo.heap.size,0,none⟩),.pointer (some ⟨W5.heap.size,0,none⟩),.pointer (some ⟨g4,0,none⟩),.pointer (some ⟨W3.heap.size,0,none⟩)]])
     have hb47:Below W4.heap.size W4 (W6.alloc (.cells #[.func (.func 63) #[] #[.pointer (some ⟨W3.heap.size+1,0,none⟩)],.func (.func 65) #[] #[.pointer (some ⟨W4.heap.size,0,none⟩),.pointer (some ⟨wo.heap.size,0,none⟩)],
      .func (.func 67) #[] #[.pointer (some ⟨W4.heap.size,0,none⟩),.pointer (some ⟨g3,0,none⟩),.pointer (some ⟨W3.heap.size,0,none⟩)],
      .func (.func 68) #[] #[.pointer (some ⟨W4.heap.size,0,none⟩),.pointer (some ⟨wo.heap.size,0,none⟩),.pointer (some ⟨W5.heap.size,0,none⟩),.pointer (some ⟨g4,0,none⟩),.pointer (some ⟨W3.heap.size,0,none⟩)]] 130)):=
      (HB5.out.trans (HB6.out.mono (by omega))).alloc (by omega) _
     have hb57:Below W5.heap.size W5 (W6.alloc (.cells #[.func (.func 63) #[] #[.pointer (some ⟨W3.heap.size+1,0,none⟩)],.func (.func 65) #[] #[.pointer (some ⟨W4.heap.size,0,none⟩),.pointer (some ⟨wo.heap.size,0,none⟩)],
      .func (.func 67) #[] #[.pointer (some ⟨W4.heap.size,0,none⟩),.pointer (some ⟨g3,0,none⟩),.pointer (some ⟨W3.heap.size,0,none⟩)],
      .func (.func 68) #[] #[.pointer (some ⟨W4.heap.size,0,none⟩),.pointer (some ⟨wo.heap.size,0,none⟩),.pointer (some ⟨W5.heap.size,0,none⟩),.pointer (some ⟨g4,0,none⟩),.pointer (some ⟨W3.heap.size,0,none⟩)]] 130)):=
      HB6.out.alloc (by omega) _
     have hb67:Below W6.heap.size W6 (W6.alloc (.cells #[.func (.func 63) #[] #[.pointer (some ⟨W3.heap.size+1,0,none⟩)],.func (.func 65) #[] #[.pointer (some ⟨W4.heap.size,0,none⟩),.pointer (some ⟨wo.heap.size,0,none⟩)],
      .func (.func 67) #[] #[.pointer (some ⟨W4.heap.size,0,none⟩),.pointer (some ⟨g3,0,none⟩),.pointer (some ⟨W3.heap.size,0,none⟩)],
      .func (.func 68) #[] #[.pointer (some ⟨W4.heap.size,0,none⟩),.pointer (some ⟨wo.heap.size,0,none⟩),.pointer (some ⟨W5.heap.size,0,none⟩),.pointer (some ⟨g4,0,none⟩),.pointer (some ⟨W3.heap.size,0,none⟩)]] 130)):=
      (Below.refl _ _).alloc (Nat.le_refl _) _
     have hz7:W6.heap.size+1≤(W6.alloc (.cells #[.func (.func 63) #[] #[.pointer (some ⟨W3.heap.size+1,0,none⟩)],.func (.func 65) #[] #[.pointer (some ⟨W4.heap.size,0,none⟩),.pointer (some ⟨wo.heap.size,0,none⟩)],
      .func (.func 67) #[] #[.pointer (some ⟨W4.heap.size,0,none⟩),.pointer (some ⟨g3,0,none⟩),.pointer (some ⟨W3.heap.size,0,none⟩)],
      .func (.func 68) #[] #[.pointer (some ⟨W4.heap.size,0,none⟩),.pointer (some ⟨wo.heap.size,0,none⟩),.pointer (some ⟨W5.heap.size,0,none⟩),.pointer (some ⟨g4,0,none⟩),.pointer (some ⟨W3.heap.size,0,none⟩)]] 130)).heap.size:=by simp
     generalize W6.alloc (.cells #[.func (.func 63) #[] #[.pointer (some ⟨W3.heap.size+1,0,none⟩)],.func (.func 65) #[] #[.pointer (some ⟨W4.heap.size,0,none⟩),.pointer (some ⟨wo.heap.size,0,none⟩)],
      .func (.func 67) #[] #[.pointer (some ⟨W4.heap.size,0,none⟩),.pointer (some ⟨g3,0,none⟩),.pointer (some ⟨W3.heap.size,0,none⟩)],
      .func (.func 68) #[] #[.pointer (some ⟨W4.heap.size,0,none⟩),.pointer (some ⟨wo.heap.size,0,none⟩),.pointer (some ⟨W5.heap.size,0,none⟩),.pointer (some ⟨g4,0,none⟩),.pointer (some ⟨W3.heap.size,0,none⟩)]] 130)=W7 at *
     have HB7:Hid (Below wo.heap.size wo W7):=hX ((HB3.out.trans (HB4.out.mono (by omega))).trans (hb47.mono (by omega)));have HW7:Hid (Below w.heap.size w W7):=hX (HWR.out.trans (HB7.out.mono HWR.out.size));have BI7:=hX (BI.out.below hb47 BI.out.lt);have BK7:=hX (BK.out.below hb47 BK.out.lt);have BF7:=hX (BF.out.below hb57 BF.out.lt);have BE7:=hX (BE.out.below (HB4.out.trans (hb47.mono (by omega))) BE.out.lt);have BC7:=hX (BC.out.below hb67 BC.out.lt);obtain ⟨outs,hgo,hrow,hs1,hs2,hbut,hol,hsum⟩:=HS.out;have hst:(match stepF decO runO l outs e with | .error n=>.error n | .ok c=>goF decO runO l (outs++[c]) (d.drop (k+1)))=R:=by rw[←HGO.out outs];exact hgo
     have hmay:mayB f=true:=may_of hck HLI.out;have HMAY:=hX hmay;have HST:=hX hst;have HROW:=hX hrow;have HSUM:=hX hsum;have hs17:Blk W7 g1 3 (seenA l.length outs):=hs1.below HB7.out hs1.lt;have hs27:Blk W7 g2 3 (tokA l.length outs):=hs2.below HB7.out hs2.lt;have hne3:¬(g3=g1∨g3=g2):=by rintro (h | h);exact Blk.ne_ HM.out.b3 HM.out.r1 (by decide) h;exact Blk.ne_ HM.out.b3 HM.out.r2 (by decide) h
     have hne4:¬(g4=g1∨g4=g2):=by rintro (h | h);exact Blk.ne_ HM.out.b4 HM.out.r1 (by decide) h;exact Blk.ne_ HM.out.b4 HM.out.r2 (by decide) h
     have hb37:Blk W7 g3 57 #[.slice (some ⟨g1,0,none⟩) l.length l.length]:=(HSB.out.blk HM.out.b3 hne3).below HB7.out (HSB.out.blk HM.out.b3 hne3).lt;have hb447:Blk W7 g4 57 #[.slice (some ⟨g2,0,none⟩) l.length l.length]:=(HSB.out.blk HM.out.b4 hne4).below HB7.out (HSB.out.blk HM.out.b4 hne4).lt;have hg1:=HM.out.r1.lt;have hg2:=HM.out.r2.lt;have hg12:=HM.out.ne;have HS17:=hX hs17;have HS27:=hX hs27;have HB37:=hX hb37;have HB47:=hX hb447;have hsl2:(ofK i outs).length≤k:=by rw[←hol];exact List.length_filter_le _ _
     have htb:sumK i outs≤1048576:=by have:=hsum i;omega
     have hfv:∀V,Below W7.heap.size W7 V→T.At bare V (fun g=>g<V.heap.size) (numsT .i64 f.chain) (.slice X f.chain.length z1):=fun V hV=>At.keep (fun p hp=>(hV.cell (by have:=HW7.out.size;omega)).trans (HW7.out.cell hp)) (fun g hg=>by have:=HW7.out.size;have:=hV.size;omega) HFC.out;have hev:∀V,Below W7.heap.size W7 V→T.At bare V (fun g=>g<V.heap.size) (numsT .i64 e.nums) (.slice Y e.nums.length z2):=fun V hV=>At.keep (fun p hp=>(hV.cell (by have:=HW7.out.size;omega)).trans (HW7.out.cell hp)) (fun g hg=>by have:=HW7.out.size;have:=hV.size;omega) HEC.out;have HQ1:=hX (fun (V:World) (hV:Below W7.heap.size W7 V)=>ask1_any (W3.heap.size+1) true V ((BK7.out.below hV BK7.out.lt).cell 0));have HQ2:=hX (fun (V:World) (hV:Below W7.heap.size W7 V)=>ask2_any W4.heap.size wo.heap.size f e X Y z1 z2 V (BF7.out.below hV BF7.out.lt) (BE7.out.below hV BE7.out.lt));have HQ3:=hX (fun (V:World) (hV:Below W7.heap.size W7 V)=>ask3_any W4.heap.size g3 W3.heap.size g1 l.length i (ofK i outs).length f (.slice X f.chain.length z1) l.length V (BF7.out.below hV BF7.out.lt) ((HB37.out.below hV HB37.out.lt).cell 0) ((BI7.out.below hV BI7.out.lt).cell 0) hil (by omega) (((HS17.out.below hV HS17.out.lt).cell i).trans (seenA_get hil outs)))
     have HQ4:=hX (fun (V:World) (hV:Below W7.heap.size W7 V)=>ask4_any W4.heap.size wo.heap.size W5.heap.size g4 W3.heap.size g2 i (sumK i outs) l.length l.length f e i (tokA l.length outs) X Y z1 z2 V (hfv V hV) (hev V hV) HEO.out (BC7.out.below hV BC7.out.lt) (HS27.out.below hV HS27.out.lt) (tokA_get hil outs) htb
      (HTT.out.next (HW7.out.trans (hV.mono HW7.out.size))) HESO.out (HOT.out.next (HW7.out.trans (hV.mono HW7.out.size))) (BF7.out.below hV BF7.out.lt) (BE7.out.below hV BE7.out.lt) (HB47.out.below hV HB47.out.lt) hil (by omega) (BI7.out.below hV BI7.out.lt) (by omega))
     clear hgo hrow hs1 hs2 hbut hsum hst hmay hs17 hs27 hb37 hb447 hfv hev hb47 hb57 hb67;go_loopw [63] (fun iv wq=>∃j:Nat,j≤4∧iv = .int .i64 j∧Hid (AskSt W7 f i e outs W5.heap.size g2 (tokA l.length outs) j wq)) (fun iv _=>4 - (intOf iv).toNat);case atStart=>exact ⟨0,by omega,rfl,hX ⟨fun _=>Below.refl _ _,fun h=>by omega,fun h=>by omega,fun h=>by omega⟩⟩
     case round=>
      obtain ⟨j,hj,rfl,HA⟩:=hrel;rcases (show j=0∨j=1∨j=2∨j=3∨j=4 by omega) with rfl | rfl | rfl | rfl | rfl
      ·have hbq:=HA.out.early (by omega);have cG:wr.cell? ⟨W6.heap.size,0,none⟩=some (.func (.func 63) #[] #[.pointer (some ⟨W3.heap.size+1,0,none⟩)]):=(BG.out.below hbq BG.out.lt).cell 0;have HBQ:=hX hbq;clear hbq;go_wp2_with fail;refine (HQ1.out _ HBQ.out).mono ?_;rintro e' V ⟨rfl,q⟩;have HBV:=hX (HBQ.out.trans (q.mono HBQ.out.size));clear q cG;have hif:(if True then (0:Int) else 81)=0:=rfl;rw[hif];go_wp2_with fail;go_roundw;case rel=>exact ⟨1,by omega,by go_num,hX ⟨fun _=>HBV.out,(fun h=>by omega),(fun h=>by omega),(fun h=>by omega)⟩⟩
       case measure=>simp[intOf]
      ·have hbq:=HA.out.early (by omega);have cG:wr.cell? ⟨W6.heap.size,1,none⟩=some (.func (.func 65) #[] #[.pointer (some ⟨W4.heap.size,0,none⟩),.pointer (some ⟨wo.heap.size,0,none⟩)]):=(BG.out.below hbq BG.out.lt).cell 1;have HBQ:=hX hbq;clear hbq;go_wp2_with fail;have hq2:=HQ2.out _ HBQ.out
       cases hkp:kindP f e.text e.nums.length with
       | true=>
        rw[hkp] at hq2;have HKP:=hX hkp;clear hkp;refine hq2.mono ?_;rintro e' V ⟨rfl,q⟩;have HBV:=hX (HBQ.out.trans (q.mono HBQ.out.size));clear q cG hq2;have hif:(if true=true then (0:Int) else 82)=0:=rfl;rw[hif];go_wp2_with fail;go_roundw;case rel=>exact ⟨2,by omega,by go_num,hX ⟨fun _=>HBV.out,fun _=>HKP.out,(fun h=>by omega),(fun h=>by omega)⟩⟩
        case measure=>simp[intOf]
       | false=>
        rw[hkp] at hq2;have HE82:Hid (R = .error 82):=hX (by have:=HST.out;rw[stepF_82 HFI'.out HLI.out (by rw[←kindP_ok HMAY.out];exact hkp)] at this;exact this.symm);clear hkp;refine hq2.mono ?_;rintro e' V ⟨rfl,q⟩;have HBV:=hX (HBQ.out.trans (q.mono HBQ.out.size));clear q cG hq2;have hif:(if false=true then (0:Int) else 82)=82:=rfl;rw[hif];go_wp2_with fail;go_ret2;rw[HCF.out,HE82.out];exact ⟨HW7.out.trans (HBV.out.mono HW7.out.size),rfl⟩
      ·have hbq:=HA.out.early (by omega);have HKP:=hX (HA.out.kind (by omega));have cG:wr.cell? ⟨W6.heap.size,2,none⟩=some (.func (.func 67) #[] #[.pointer (some ⟨W4.heap.size,0,none⟩),.pointer (some ⟨g3,0,none⟩),.pointer (some ⟨W3.heap.size,0,none⟩)]):=(BG.out.below hbq BG.out.lt).cell 2;have HBQ:=hX hbq;clear hbq;go_wp2_with fail;have hq3:=HQ3.out _ HBQ.out
       cases hkp:(f.many || decide ((ofK i outs).length=0)) with
       | true=>
        rw[hkp] at hq3;have HMN:=hX hkp;clear hkp;refine hq3.mono ?_;rintro e' V ⟨rfl,q⟩;have HBV:=hX (HBQ.out.trans (q.mono HBQ.out.size));clear q cG hq3;have hif:(if true=true then (0:Int) else 84)=0:=rfl;rw[hif];go_wp2_with fail;go_roundw;case rel=>exact ⟨3,by omega,by go_num,hX ⟨fun _=>HBV.out,fun _=>HKP.out,fun _=>HMN.out,(fun h=>by omega)⟩⟩
        case measure=>simp[intOf]
       | false=>
        rw[hkp] at hq3;have HE84:Hid (R = .error 84):=hX (by have:=HST.out;rw[stepF_84 HFI'.out HLI.out (by rw[←kindP_ok HMAY.out];exact HKP.out) hkp] at this;exact this.symm);clear hkp;refine hq3.mono ?_;rintro e' V ⟨rfl,q⟩;have HBV:=hX (HBQ.out.trans (q.mono HBQ.out.size));clear q cG hq3;have hif:(if false=true then (0:Int) else 84)=84:=rfl;rw[hif];go_wp2_with fail;go_ret2;rw[HCF.out,HE84.out];exact ⟨HW7.out.trans (HBV.out.mono HW7.out.size),rfl⟩
      ·have hbq:=HA.out.early (by omega);have HKP:=hX (HA.out.kind (by omega));have HMN:=hX (HA.out.many (by omega));have cG:wr.cell? ⟨W6.heap.size,3,none⟩=some (.func (.func 68) #[] #[.pointer (some ⟨W4.heap.size,0,none⟩),.pointer (some ⟨wo.heap.size,0,none⟩),.pointer (some ⟨W5.heap.size,0,none⟩),.pointer (some ⟨g4,0,none⟩),.pointer (some ⟨W3.heap.size,0,none⟩)]):=(BG.out.below hbq BG.out.lt).cell 3;have HBQ:=hX hbq;clear hbq;go_wp2_with fail;refine (HQ4.out _ HBQ.out).mono ?_;rintro e' V ⟨b,rfl,hvr⟩;replace hvr:=hvr.from_ HBQ.out
       cases b with
       | true=>
        obtain ⟨c,n,h1,h2,h3,v,h4,h5⟩:=hvr.yes rfl;have HDN:Hid (AskSt W7 f i e outs W5.heap.size g2 (tokA l.length outs) 4 V):=hX ⟨(fun h=>by omega),fun _=>HKP.out,fun _=>HMN.out,fun _=>⟨c,n,h1,h2,hvr.but,h3,v,h4,h5⟩⟩;clear hvr h1 h2 h3 h4 h5 cG;have hif:(if true=true then (0:Int) else 83)=0:=rfl;rw[hif];go_wp2_with fail;go_roundw;case rel=>exact ⟨4,by omega,by go_num,HDN⟩
        case measure=>simp[intOf]
       | false=>
        have HE83:Hid (R = .error 83):=hX (by have:=HST.out;rw[stepF_83 HFI'.out HLI.out (by rw[←kindP_ok HMAY.out];exact HKP.out) HMN.out (hvr.no rfl)] at this;exact this.symm);have HBV:Hid (Below w.heap.size W7 V):=hX (hvr.but.below (by have:=HW7.out.size;omega) (fun g hg h=>by rcases h with rfl | rfl <;> omega));clear hvr cG;have hif:(if false=true then (0:Int) else 83)=83:=rfl;rw[hif];go_wp2_with fail;go_ret2;rw[HCF.out,HE83.out];exact ⟨HW7.out.trans HBV.out,rfl⟩
      ·obtain ⟨c,n,hv1,hv2,hv3,hv4,v,hv5,hv6⟩:=HA.out.done rfl;obtain ⟨hcf,hn0⟩:=valueF_field hv1;obtain ⟨VL,vz,rfl,_,_⟩:=at_slice hv6.at_;have HV1:=hX hv1;have HV2:=hX hv2;have HBT:=hX hv3;have HG2:=hX hv4;have HGC:=hX hv5;have HNA:=hX hv6;have HCFI:=hX hcf;have HKP:=hX (HA.out.kind (by omega));have HMN:=hX (HA.out.many (by omega));have HST2:Hid (goF decO runO l (outs++[(c,n)]) (d.drop (k+1))=R):=hX (by have:=HST.out;rw[stepF_ok HFI'.out HLI.out (by rw[←kindP_ok HMAY.out];exact HKP.out) HMN.out HV1.out HV2.out] at this;exact this)
       have hn1:sumK i outs+n≤4096:=by
        by_cases h:f.kind=1
        ·exact hv2 h
        ·have:=hn0 h;have:=HSUM.out i;omega
       have hng1:¬(g1=W5.heap.size∨g1=g2):=by omega
       have hngi:¬(W3.heap.size=W5.heap.size∨W3.heap.size=g2):=by omega
       have hng3:¬(g3=W5.heap.size∨g3=g2):=by
        rintro (h | h)
        ·have:=HM.out.b3.lt;omega
        ·exact hne3 (.inr h)
       have BS:=hX (HBT.out.blk HS17.out hng1);have x0:wr.cell? ⟨g3,0,none⟩=some (.slice (some ⟨g1,0,none⟩) l.length l.length):=(HBT.out.blk HB37.out hng3).cell 0;have x1:wr.cell? ⟨W3.heap.size,0,none⟩=some (.int .i64 i):=(HBT.out.blk BI7.out hngi).cell 0;have x2:wr.cell? ⟨g1,i,none⟩=some (.int .i64 (ofK i outs).length):=(BS.out.cell i).trans (seenA_get hil outs);have x3:wr.frozen? ⟨g1,i,none⟩=false:=BS.out.frozen i;have hz8:=HBT.out.size;clear hv1 hv2 hv3 hv4 hv5 hv6 hcf hn0;go_upto_region 22 with fail;have BS2:Hid (Blk (wr.setCell ⟨g1,i,none⟩ (.int .i64 ((ofK i outs).length+1))) g1 3 ((seenA l.length outs).setIfInBounds i (.int .i64 ((ofK i outs).length+1)))):=hX (BS.out.set_ i _);have HG22:Hid (Blk (wr.setCell ⟨g1,i,none⟩ (.int .i64 ((ofK i outs).length+1))) g2 3 ((tokA l.length outs).setIfInBounds i (.int .i64 ((sumK i outs+n:Nat):Int)))):=hX (HG2.out.far (p:=⟨g1,i,none⟩) (fun h=>hg12 h.symm) _);have HGC2:Hid (Blk (wr.setCell ⟨g1,i,none⟩ (.int .i64 ((ofK i outs).length+1))) W5.heap.size 103 #[.int .i64 c.field,.string c.text,.slice VL c.nums.length vz]):=hX (HGC.out.far (p:=⟨g1,i,none⟩) (by show W5.heap.size≠g1;omega) _)
       have HBA:Hid (But (fun g=>g=g1∨g=g2∨wo.heap.size≤g) wo (wr.setCell ⟨g1,i,none⟩ (.int .i64 ((ofK i outs).length+1)))):=hX (((But.of_below HB7.out).trans (HBT.out.mono (fun g h=>by rcases h with rfl | rfl;exact .inr (.inr (by omega));exact .inr (.inl rfl)))).set (p:=⟨g1,i,none⟩) (.inl (.inl rfl)) _)
       have HNA2:Hid (NumsIn 2 .i64 wo.heap.size (wr.setCell ⟨g1,i,none⟩ (.int .i64 ((ofK i outs).length+1))).heap.size (wr.setCell ⟨g1,i,none⟩ (.int .i64 ((ofK i outs).length+1))) c.nums (.slice VL c.nums.length vz)):=
        hX (((HNA.out.keep fun g h1 _ _=>Below.heap_setCell wr ⟨g1,i,none⟩ _ g (by show g≠g1;omega)).from_ (by omega)).more (by simp[World.setCell]))
       have hz9:wr.heap.size≤(wr.setCell ⟨g1,i,none⟩ (.int .i64 ((ofK i outs).length+1))).heap.size:=by simp[World.setCell]
       clear BS HG2 HGC HNA x0 x1 x2 x3;generalize wr.setCell ⟨g1,i,none⟩ (.int .i64 ((ofK i outs).length+1))=W8 at *;obtain ⟨vs,hro,hrn⟩:=HROW.out;have hco:W8.ownsRow W2.heap.size 103 3 u7 (outs.map (·.1)).length (vals3 cpre (outs.map (·.1)) vs):=own_but hro HBA.out (fun g h=>by have:=(hro.lt g h).1;have:=(hro.lt g h).2;omega);have HCN:Hid (NumL 2 .i64 CT.nums W8 W2.heap.size wo.heap.size (outs.map (·.1)) vs):=hX (hrn.keep fun v _ g h1 h2 _=>HBA.out.block g h2 (by omega));have HCO:=hX hco
       obtain ⟨xs,hxs⟩:∃xs,vals3 cpre (outs.map (·.1)) vs=xs:=⟨_,rfl⟩
       rw[hxs] at hco;have HXS:=hX hxs;rw[List.length_map] at hco;have y0:W8.cell? ⟨W5.heap.size,0,none⟩=some (.int .i64 c.field):=HGC2.out.cell 0;have y1:W8.cell? ⟨W5.heap.size,1,none⟩=some (.string c.text):=HGC2.out.cell 1;have y2:W8.cell? ⟨W5.heap.size,2,none⟩=some (.slice VL c.nums.length vz):=HGC2.out.cell 2;obtain ⟨i0,hi1,hi2,hi3,hi4⟩:=info_parts infoC;clear hro hrn hxs;go_wp2_with (at_builtin;refine wpList_append_any _ rfl (.tmp 79) (.tmp 81) 96 rfl W2.heap.size 103 i0 _ 3 48 Tryz.underlying96 hi1 hi2 hi3 hi4 rfl (by decide) _ _ xs rfl (hco.alloc _) (W8.heap.size+1) (some ⟨W8.heap.size,0,none⟩) 1 1 [.int .i64 c.field,.string c.text,.slice VL c.nums.length vz] rfl ?d1 ?d2 ?d3 ?d4 ?d5 ?_);case d1=>exact ⟨rfl,fun _=>⟨_,rfl,by simp,fun j u hu=>cells_new W8 [.int .i64 c.field,.string c.text,.slice VL c.nums.length vz] _ j u hu⟩⟩
       case d2=>first | (intro u hu;simp only[List.mem_cons,List.not_mem_nil,or_false] at hu;rcases hu with rfl | rfl | rfl <;> rfl) | simp[Value.oneCell']
       case d3=>unfold maxLen;omega
       case d4=>omega
       case d5=>have:=HBA.out.size;simp;omega
       intro v' w9 ho hg hv;have hlt5:∀r,u7.ownBlock=some r→W2.heap.size≤r:=fun r h=>(hco.lt r h).1
       have HRG:Hid (RowN 103 2 .i64 cpre CT.nums W2.heap.size w9 v' ((outs++[(c,n)]).map (·.1))):=hX (by
        rw[List.map_append];have hal:Below W8.heap.size W8 (W8.alloc (.cells #[.int .i64 c.field,.string c.text,.slice VL c.nums.length vz] 103)):=(Below.refl _ _).alloc (Nat.le_refl _) _
        refine rowN_stepM (m:=wo.heap.size) (w3:=W8.alloc (.cells #[.int .i64 c.field,.string c.text,.slice VL c.nums.length vz] 103)) (by decide) (own_below HCO.out hal) (HCN.out.below hal HBA.out.size) ((HNA2.out.below hal (Nat.le_refl _)).more hal.size) (by have:=HBA.out.size;have:=hal.size;omega) (by rw[List.length_map,hol,HXS.out];exact ho) hg)
       have HBF:Hid (But (fun g=>g=g1∨g=g2) W2 w9):=hX (HSB.out.more (N':=fun g=>g=g1∨g=g2∨W2.heap.size≤g) (((HBA.out.mono (fun g h=>by rcases h with h | h | h;exact .inl h;exact .inr (.inl h);exact .inr (.inr (by omega)))).alloc _).trans (But.grown hg (fun r h=>.inr (.inr (hlt5 r h))))) (fun g h=>by rcases h with h | h | h;exact .inl (.inl h);exact .inl (.inr h);exact .inr h));have hne1:some g1≠u7.ownBlock:=fun h=>by have:=hlt5 g1 h.symm;omega
       have hne2:some g2≠u7.ownBlock:=fun h=>by have:=hlt5 g2 h.symm;omega
       have HS2:Hid (CellSt W2 l d R g1 g2 (k+1) v' w9):=hX ⟨outs++[(c,n)],HST2.out,HRG.out,(by rw[seenA_snoc hil outs c n HCFI.out];have:=(BS2.out.alloc _).grown hg hne1;simpa using this),(by rw[tokA_snoc hil outs c n HCFI.out];exact (HG22.out.alloc _).grown hg hne2),HBF.out,(by simp[hol]),fun j=>by
        rw[sumK_snoc];split
        ·rename_i h
         have:j=i:=by rw[HCFI.out] at h;exact_mod_cast h.symm
         subst this;exact hn1
        ·have:=HSUM.out j;omega⟩
       clear ho hg hv hco hi1 hi2 hi3 hi4 y0 y1 y2 hlt5 hne1 hne2;go_wp2_with fail;go_roundw;case rel=>exact ⟨k+1,by omega,by go_num,HS2⟩
       case measure=>simp[intOf];omega
   ·obtain rfl:k=d.length:=by omega
    obtain ⟨outs,hgo,hrow,hs1,hs2,hbut,hol,hsum⟩:=HS.out;have HOK:Hid (R = .ok outs):=hX (by rw[List.drop_length] at hgo;exact hgo.symm);have HRW:=hX hrow;have HFB:Hid (Below w.heap.size w wo):=hX (HW2.out.trans (hbut.below HW2.out.size (fun g hg h=>by rcases h with rfl | rfl <;> omega)));clear hgo hrow hs1 hs2 hbut hsum;go_wp2_with fail;go_ret2;rw[HCF.out,HOK.out];exact ⟨HFB.out,_,rfl,rowN_from HRW.out HW2.out.size⟩
 case region=>
  have hb:∀(X:World) (n:Nat) (t:TypeId) (cs:Array Value),X.heap.size=n→Blk (X.alloc (.cells cs t)) n t cs:=fun X n t cs h=>by subst h;exact Blk.new X t cs
  refine wp_region_held_drew (S:=fun V=>Below W1.heap.size W1 V) (by kernel_rfl) (Below.refl _ _).drew (fun hS0=>?_);refine' wpAnyH_take (i:=0) (v:=_) (by simp only[tkD,tkG];rfl) (by kernel_rfl) (by kernel_rfl) (by kernel_rfl) (by rintro _ _ _ ⟨h,_⟩;cases h) (Or.inl ⟨by rfl,?hm0⟩) hS0 ?rm0;case hm0=>intro V hSw;clear hSw;go_simp;try with_reducible rfl
  try simp only[Act.put,tkA,tkB,tkC]
  refine' wpAnyH_take (i:=1) (v:=_) (by simp only[tkD,tkE,tkG];rfl) (by kernel_rfl) (by kernel_rfl) (by kernel_rfl) (by rintro _ _ _ ⟨h,_⟩;cases h) (Or.inl ⟨by rfl,?hm1⟩) hS0 ?rm1;case hm1=>intro V hSw;have f0:V.cell? ⟨w.heap.size,0,none⟩=some (.slice A l.length cA):=(BA.out.below hSw BA.out.lt).cell 0;clear hSw;go_simp;try with_reducible rfl
  try simp only[Act.put,tkA,tkB,tkC]
  refine' wpAnyH_take (i:=2) (v:=_) (by simp only[tkD,tkE,tkG];rfl) (by kernel_rfl) (by kernel_rfl) (by kernel_rfl) (by rintro _ _ _ ⟨h,_⟩;cases h) (Or.inl ⟨by rfl,?hm2⟩) hS0 ?rm2;case hm2=>intro V hSw;clear hSw;go_simp;try with_reducible rfl
  try simp only[Act.put,tkA,tkB,tkC]
  refine' wpAnyH_take (i:=4) (v:=_) (by simp only[tkD,tkE,tkG];rfl) (by kernel_rfl) (by kernel_rfl) (by kernel_rfl) (by rintro _ _ _ ⟨h,_⟩;cases h) (Or.inl ⟨by rfl,?hm4⟩) hS0 ?rm4;case hm4=>intro V hSw;clear hSw;go_simp;try with_reducible rfl
  try simp only[Act.put,tkA,tkB,tkC]
  refine' wpAnyH_take (i:=5) (v:=_) (by simp only[tkD,tkE,tkG];rfl) (by kernel_rfl) (by kernel_rfl) (by kernel_rfl) (by rintro _ _ _ ⟨h,_⟩;cases h) (Or.inl ⟨by rfl,?hm5⟩) hS0 ?rm5;case hm5=>intro V hSw;have f0:V.cell? ⟨w.heap.size,0,none⟩=some (.slice A l.length cA):=(BA.out.below hSw BA.out.lt).cell 0;clear hSw;go_simp;try with_reducible rfl
  try simp only[Act.put,tkA,tkB,tkC]
  refine' wpAnyH_take (i:=6) (v:=_) (by simp only[tkD,tkE,tkG];rfl) (by kernel_rfl) (by kernel_rfl) (by kernel_rfl) (by rintro _ _ _ ⟨h,_⟩;cases h) (Or.inl ⟨by rfl,?hm6⟩) hS0 ?rm6;case hm6=>intro V hSw;clear hSw;go_simp;try with_reducible rfl
  try simp only[Act.put,tkA,tkB,tkC]
  refine wpAnyH_ready (rs:=[3,7,8,9]) (by kernel_rfl) (by simp) ?_;refine' AllReadyH.cons (by simp only[tkD,tkE,tkG];rfl) (fun K hK=>?_) ?_
  ·go_simp;refine hK.out _ _ (below_al1 _ _) (fun hS1=>?_);try simp only[Act.put,tkA,tkB,tkC]
   refine wpAnyH_ready (rs:=[7,8,9]) (by kernel_rfl) (by simp) ?_;refine' AllReadyH.cons (by simp only[tkD,tkE,tkG];rfl) (fun K hK=>?_) ?_
   ·go_simp;refine hK.out _ _ (below_al2 _ _ _) (fun hS2=>?_);try simp only[Act.put,tkA,tkB,tkC]
    refine wpAnyH_ready (rs:=[8,9]) (by kernel_rfl) (by simp) ?_;refine' AllReadyH.cons (by simp only[tkD,tkE,tkG];rfl) (fun K hK=>?_) ?_
    ·go_simp;refine hK.out _ _ (below_al3 _ _ _ _) (fun hS3=>?_);try simp only[Act.put,tkA,tkB,tkC]
     refine wpAnyH_ready (rs:=[9]) (by kernel_rfl) (by simp) ?_;refine' AllReadyH.cons (by simp only[tkD,tkE,tkG];rfl) (fun K hK=>?_) ?_
     ·go_simp;refine hK.out _ _ (below_al4 _ _ _ _ _) (fun hS4=>?_);try simp only[Act.put,tkA,tkB,tkC]
      refine wpAnyH_ready (rs:=[10]) (by kernel_rfl) (by simp) ?_;refine' AllReadyH.cons (by simp only[tkD,tkE,tkG];rfl) (fun K hK=>?_) ?_
      ·go_simp;refine hK.out _ _ (below_al4 _ _ _ _ _) (fun hS5=>?_);try simp only[Act.put,tkA,tkB,tkC]
       refine wpAnyH_ready (rs:=[11]) (by kernel_rfl) (by simp) ?_;refine' AllReadyH.cons (by simp only[tkD,tkE,tkG];rfl) (fun K hK=>?_) ?_
       ·go_simp;refine hK.out _ _ (below_al4 _ _ _ _ _) (fun hS6=>?_);try simp only[Act.put,tkA,tkB,tkC]
        refine wpAnyH_done (by kernel_rfl) ?_ _;refine ⟨rfl,W1.heap.size,W1.heap.size+1,W1.heap.size+1+1,W1.heap.size+1+1+1,⟨hS6,((((hb _ _ _ _ (by simp)).alloc _).alloc _).alloc _).drew,(((hb _ _ _ _ (by simp)).alloc _).alloc _).drew,((hb _ _ _ _ (by simp)).alloc _).drew,(hb _ _ _ _ (by simp)).drew,by omega,by omega⟩,rfl⟩
       exact AllReadyH.nil
      exact AllReadyH.nil
     exact AllReadyH.nil
    refine' AllReadyH.cons (by simp only[tkD,tkE,tkG];rfl) (fun K hK=>?_) ?_
    ·go_simp;refine hK.out _ _ (below_al3 _ _ _ _) (fun hS3=>?_);try simp only[Act.put,tkA,tkB,tkC]
     refine wpAnyH_ready (rs:=[8]) (by kernel_rfl) (by simp) ?_;refine' AllReadyH.cons (by simp only[tkD,tkE,tkG];rfl) (fun K hK=>?_) ?_
     ·go_simp;refine hK.out _ _ (below_al4 _ _ _ _ _) (fun hS4=>?_);try simp only[Act.put,tkA,tkB,tkC]
      refine wpAnyH_ready (rs:=[10]) (by kernel_rfl) (by simp) ?_;refine' AllReadyH.cons (by simp only[tkD,tkE,tkG];rfl) (fun K hK=>?_) ?_
      ·go_simp;refine hK.out _ _ (below_al4 _ _ _ _ _) (fun hS5=>?_);try simp only[Act.put,tkA,tkB,tkC]
       refine wpAnyH_ready (rs:=[11]) (by kernel_rfl) (by simp) ?_;refine' AllReadyH.cons (by simp only[tkD,tkE,tkG];rfl) (fun K hK=>?_) ?_
       ·go_simp;refine hK.out _ _ (below_al4 _ _ _ _ _) (fun hS6=>?_);try simp only[Act.put,tkA,tkB,tkC]
        refine wpAnyH_done (by kernel_rfl) ?_ _;refine ⟨rfl,W1.heap.size,W1.heap.size+1,W1.heap.size+1+1+1,W1.heap.size+1+1,⟨hS6,((((hb _ _ _ _ (by simp)).alloc _).alloc _).alloc _).drew,(((hb _ _ _ _ (by simp)).alloc _).alloc _).drew,(hb _ _ _ _ (by simp)).drew,((hb _ _ _ _ (by simp)).alloc _).drew,by omega,by omega⟩,rfl⟩
       exact AllReadyH.nil
      exact AllReadyH.nil
     exact AllReadyH.nil
    exact AllReadyH.nil
   refine' AllReadyH.cons (by simp only[tkD,tkE,tkG];rfl) (fun K hK=>?_) ?_
   ·go_simp;refine hK.out _ _ (below_al2 _ _ _) (fun hS2=>?_);try simp only[Act.put,tkA,tkB,tkC]
    refine wpAnyH_ready (rs:=[7,9]) (by kernel_rfl) (by simp) ?_;refine' AllReadyH.cons (by simp only[tkD,tkE,tkG];rfl) (fun K hK=>?_) ?_
    ·go_simp;refine hK.out _ _ (below_al3 _ _ _ _) (fun hS3=>?_);try simp only[Act.put,tkA,tkB,tkC]
     refine wpAnyH_ready (rs:=[9]) (by kernel_rfl) (by simp) ?_;refine' AllReadyH.cons (by simp only[tkD,tkE,tkG];rfl) (fun K hK=>?_) ?_
     ·go_simp;refine hK.out _ _ (below_al4 _ _ _ _ _) (fun hS4=>?_);try simp only[Act.put,tkA,tkB,tkC]
      refine wpAnyH_ready (rs:=[10]) (by kernel_rfl) (by simp) ?_;refine' AllReadyH.cons (by simp only[tkD,tkE,tkG];rfl) (fun K hK=>?_) ?_
      ·go_simp;refine hK.out _ _ (below_al4 _ _ _ _ _) (fun hS5=>?_);try simp only[Act.put,tkA,tkB,tkC]
       refine wpAnyH_ready (rs:=[11]) (by kernel_rfl) (by simp) ?_;refine' AllReadyH.cons (by simp only[tkD,tkE,tkG];rfl) (fun K hK=>?_) ?_
       ·go_simp;refine hK.out _ _ (below_al4 _ _ _ _ _) (fun hS6=>?_);try simp only[Act.put,tkA,tkB,tkC]
        refine wpAnyH_done (by kernel_rfl) ?_ _;refine ⟨rfl,W1.heap.size,W1.heap.size+1+1,W1.heap.size+1,W1.heap.size+1+1+1,⟨hS6,((((hb _ _ _ _ (by simp)).alloc _).alloc _).alloc _).drew,((hb _ _ _ _ (by simp)).alloc _).drew,(((hb _ _ _ _ (by simp)).alloc _).alloc _).drew,(hb _ _ _ _ (by simp)).drew,by omega,by omega⟩,rfl⟩
       exact AllReadyH.nil
      exact AllReadyH.nil
     exact AllReadyH.nil
    refine' AllReadyH.cons (by simp only[tkD,tkE,tkG];rfl) (fun K hK=>?_) ?_
    ·go_simp;refine hK.out _ _ (below_al3 _ _ _ _) (fun hS3=>?_);try simp only[Act.put,tkA,tkB,tkC]
     refine wpAnyH_ready (rs:=[7,10]) (by kernel_rfl) (by simp) ?_;refine' AllReadyH.cons (by simp only[tkD,tkE,tkG];rfl) (fun K hK=>?_) ?_
     ·go_simp;refine hK.out _ _ (below_al4 _ _ _ _ _) (fun hS4=>?_);try simp only[Act.put,tkA,tkB,tkC]
      refine wpAnyH_ready (rs:=[10]) (by kernel_rfl) (by simp) ?_;refine' AllReadyH.cons (by simp only[tkD,tkE,tkG];rfl) (fun K hK=>?_) ?_
      ·go_simp;refine hK.out _ _ (below_al4 _ _ _ _ _) (fun hS5=>?_);try simp only[Act.put,tkA,tkB,tkC]
       refine wpAnyH_ready (rs:=[11]) (by kernel_rfl) (by simp) ?_;refine' AllReadyH.cons (by simp only[tkD,tkE,tkG];rfl) (fun K hK=>?_) ?_
       ·go_simp;refine hK.out _ _ (below_al4 _ _ _ _ _) (fun hS6=>?_);try simp only[Act.put,tkA,tkB,tkC]
        refine wpAnyH_done (by kernel_rfl) ?_ _;refine ⟨rfl,W1.heap.size,W1.heap.size+1+1+1,W1.heap.size+1,W1.heap.size+1+1,⟨hS6,((((hb _ _ _ _ (by simp)).alloc _).alloc _).alloc _).drew,(hb _ _ _ _ (by simp)).drew,(((hb _ _ _ _ (by simp)).alloc _).alloc _).drew,((hb _ _ _ _ (by simp)).alloc _).drew,by omega,by omega⟩,rfl⟩
       exact AllReadyH.nil
      exact AllReadyH.nil
     refine' AllReadyH.cons (by simp only[tkD,tkE,tkG];rfl) (fun K hK=>?_) ?_
     ·go_simp;refine hK.out _ _ (below_al3 _ _ _ _) (fun hS4=>?_);try simp only[Act.put,tkA,tkB,tkC]
      refine wpAnyH_ready (rs:=[7]) (by kernel_rfl) (by simp) ?_;refine' AllReadyH.cons (by simp only[tkD,tkE,tkG];rfl) (fun K hK=>?_) ?_
      ·go_simp;refine hK.out _ _ (below_al4 _ _ _ _ _) (fun hS5=>?_);try simp only[Act.put,tkA,tkB,tkC]
       refine wpAnyH_ready (rs:=[11]) (by kernel_rfl) (by simp) ?_;refine' AllReadyH.cons (by simp only[tkD,tkE,tkG];rfl) (fun K hK=>?_) ?_
       ·go_simp;refine hK.out _ _ (below_al4 _ _ _ _ _) (fun hS6=>?_);try simp only[Act.put,tkA,tkB,tkC]
        refine wpAnyH_done (by kernel_rfl) ?_ _;refine ⟨rfl,W1.heap.size,W1.heap.size+1+1+1,W1.heap.size+1,W1.heap.size+1+1,⟨hS6,((((hb _ _ _ _ (by simp)).alloc _).alloc _).alloc _).drew,(hb _ _ _ _ (by simp)).drew,(((hb _ _ _ _ (by simp)).alloc _).alloc _).drew,((hb _ _ _ _ (by simp)).alloc _).drew,by omega,by omega⟩,rfl⟩
       exact AllReadyH.nil
      exact AllReadyH.nil
     exact AllReadyH.nil
    exact AllReadyH.nil
   refine' AllReadyH.cons (by simp only[tkD,tkE,tkG];rfl) (fun K hK=>?_) ?_
   ·go_simp;refine hK.out _ _ (below_al2 _ _ _) (fun hS2=>?_);try simp only[Act.put,tkA,tkB,tkC]
    refine wpAnyH_ready (rs:=[7,8]) (by kernel_rfl) (by simp) ?_;refine' AllReadyH.cons (by simp only[tkD,tkE,tkG];rfl) (fun K hK=>?_) ?_
    ·go_simp;refine hK.out _ _ (below_al3 _ _ _ _) (fun hS3=>?_);try simp only[Act.put,tkA,tkB,tkC]
     refine wpAnyH_ready (rs:=[8]) (by kernel_rfl) (by simp) ?_;refine' AllReadyH.cons (by simp only[tkD,tkE,tkG];rfl) (fun K hK=>?_) ?_
     ·go_simp;refine hK.out _ _ (below_al4 _ _ _ _ _) (fun hS4=>?_);try simp only[Act.put,tkA,tkB,tkC]
      refine wpAnyH_ready (rs:=[10]) (by kernel_rfl) (by simp) ?_;refine' AllReadyH.cons (by simp only[tkD,tkE,tkG];rfl) (fun K hK=>?_) ?_
      ·go_simp;refine hK.out _ _ (below_al4 _ _ _ _ _) (fun hS5=>?_);try simp only[Act.put,tkA,tkB,tkC]
       refine wpAnyH_ready (rs:=[11]) (by kernel_rfl) (by simp) ?_;refine' AllReadyH.cons (by simp only[tkD,tkE,tkG];rfl) (fun K hK=>?_) ?_
       ·go_simp;refine hK.out _ _ (below_al4 _ _ _ _ _) (fun hS6=>?_);try simp only[Act.put,tkA,tkB,tkC]
        refine wpAnyH_done (by kernel_rfl) ?_ _;refine ⟨rfl,W1.heap.size,W1.heap.size+1+1,W1.heap.size+1+1+1,W1.heap.size+1,⟨hS6,((((hb _ _ _ _ (by simp)).alloc _).alloc _).alloc _).drew,((hb _ _ _ _ (by simp)).alloc _).drew,(hb _ _ _ _ (by simp)).drew,(((hb _ _ _ _ (by simp)).alloc _).alloc _).drew,by omega,by omega⟩,rfl⟩
       exact AllReadyH.nil
      exact AllReadyH.nil
     exact AllReadyH.nil
    refine' AllReadyH.cons (by simp only[tkD,tkE,tkG];rfl) (fun K hK=>?_) ?_
    ·go_simp;refine hK.out _ _ (below_al3 _ _ _ _) (fun hS3=>?_);try simp only[Act.put,tkA,tkB,tkC]
     refine wpAnyH_ready (rs:=[7,10]) (by kernel_rfl) (by simp) ?_;refine' AllReadyH.cons (by simp only[tkD,tkE,tkG];rfl) (fun K hK=>?_) ?_
     ·go_simp;refine hK.out _ _ (below_al4 _ _ _ _ _) (fun hS4=>?_);try simp only[Act.put,tkA,tkB,tkC]
      refine wpAnyH_ready (rs:=[10]) (by kernel_rfl) (by simp) ?_;refine' AllReadyH.cons (by simp only[tkD,tkE,tkG];rfl) (fun K hK=>?_) ?_
      ·go_simp;refine hK.out _ _ (below_al4 _ _ _ _ _) (fun hS5=>?_);try simp only[Act.put,tkA,tkB,tkC]
       refine wpAnyH_ready (rs:=[11]) (by kernel_rfl) (by simp) ?_;refine' AllReadyH.cons (by simp only[tkD,tkE,tkG];rfl) (fun K hK=>?_) ?_
       ·go_simp;refine hK.out _ _ (below_al4 _ _ _ _ _) (fun hS6=>?_);try simp only[Act.put,tkA,tkB,tkC]
        refine wpAnyH_done (by kernel_rfl) ?_ _;refine ⟨rfl,W1.heap.size,W1.heap.size+1+1+1,W1.heap.size+1+1,W1.heap.size+1,⟨hS6,((((hb _ _ _ _ (by simp)).alloc _).alloc _).alloc _).drew,(hb _ _ _ _ (by simp)).drew,((hb _ _ _ _ (by simp)).alloc _).drew,(((hb _ _ _ _ (by simp)).alloc _).alloc _).drew,by omega,by omega⟩,rfl⟩
       exact AllReadyH.nil
      exact AllReadyH.nil
     refine' AllReadyH.cons (by simp only[tkD,tkE,tkG];rfl) (fun K hK=>?_) ?_
     ·go_simp;refine hK.out _ _ (below_al3 _ _ _ _) (fun hS4=>?_);try simp only[Act.put,tkA,tkB,tkC]
      refine wpAnyH_ready (rs:=[7]) (by kernel_rfl) (by simp) ?_;refine' AllReadyH.cons (by simp only[tkD,tkE,tkG];rfl) (fun K hK=>?_) ?_
      ·go_simp;refine hK.out _ _ (below_al4 _ _ _ _ _) (fun hS5=>?_);try simp only[Act.put,tkA,tkB,tkC]
       refine wpAnyH_ready (rs:=[11]) (by kernel_rfl) (by simp) ?_;refine' AllReadyH.cons (by simp only[tkD,tkE,tkG];rfl) (fun K hK=>?_) ?_
       ·go_simp;refine hK.out _ _ (below_al4 _ _ _ _ _) (fun hS6=>?_);try simp only[Act.put,tkA,tkB,tkC]
        refine wpAnyH_done (by kernel_rfl) ?_ _;refine ⟨rfl,W1.heap.size,W1.heap.size+1+1+1,W1.heap.size+1+1,W1.heap.size+1,⟨hS6,((((hb _ _ _ _ (by simp)).alloc _).alloc _).alloc _).drew,(hb _ _ _ _ (by simp)).drew,((hb _ _ _ _ (by simp)).alloc _).drew,(((hb _ _ _ _ (by simp)).alloc _).alloc _).drew,by omega,by omega⟩,rfl⟩
       exact AllReadyH.nil
      exact AllReadyH.nil
     exact AllReadyH.nil
    exact AllReadyH.nil
   exact AllReadyH.nil
  refine' AllReadyH.cons (by simp only[tkD,tkE,tkG];rfl) (fun K hK=>?_) ?_
  ·go_simp;refine hK.out _ _ (below_al1 _ _) (fun hS1=>?_);try simp only[Act.put,tkA,tkB,tkC]
   refine wpAnyH_ready (rs:=[3,8,9]) (by kernel_rfl) (by simp) ?_;refine' AllReadyH.cons (by simp only[tkD,tkE,tkG];rfl) (fun K hK=>?_) ?_
   ·go_simp;refine hK.out _ _ (below_al2 _ _ _) (fun hS2=>?_);try simp only[Act.put,tkA,tkB,tkC]
    refine wpAnyH_ready (rs:=[8,9]) (by kernel_rfl) (by simp) ?_;refine' AllReadyH.cons (by simp only[tkD,tkE,tkG];rfl) (fun K hK=>?_) ?_
    ·go_simp;refine hK.out _ _ (below_al3 _ _ _ _) (fun hS3=>?_);try simp only[Act.put,tkA,tkB,tkC]
     refine wpAnyH_ready (rs:=[9]) (by kernel_rfl) (by simp) ?_;refine' AllReadyH.cons (by simp only[tkD,tkE,tkG];rfl) (fun K hK=>?_) ?_
     ·go_simp;refine hK.out _ _ (below_al4 _ _ _ _ _) (fun hS4=>?_);try simp only[Act.put,tkA,tkB,tkC]
      refine wpAnyH_ready (rs:=[10]) (by kernel_rfl) (by simp) ?_;refine' AllReadyH.cons (by simp only[tkD,tkE,tkG];rfl) (fun K hK=>?_) ?_
      ·go_simp;refine hK.out _ _ (below_al4 _ _ _ _ _) (fun hS5=>?_);try simp only[Act.put,tkA,tkB,tkC]
       refine wpAnyH_ready (rs:=[11]) (by kernel_rfl) (by simp) ?_;refine' AllReadyH.cons (by simp only[tkD,tkE,tkG];rfl) (fun K hK=>?_) ?_
       ·go_simp;refine hK.out _ _ (below_al4 _ _ _ _ _) (fun hS6=>?_);try simp only[Act.put,tkA,tkB,tkC]
        refine wpAnyH_done (by kernel_rfl) ?_ _;refine ⟨rfl,W1.heap.size+1,W1.heap.size,W1.heap.size+1+1,W1.heap.size+1+1+1,⟨hS6,(((hb _ _ _ _ (by simp)).alloc _).alloc _).drew,((((hb _ _ _ _ (by simp)).alloc _).alloc _).alloc _).drew,((hb _ _ _ _ (by simp)).alloc _).drew,(hb _ _ _ _ (by simp)).drew,by omega,by omega⟩,rfl⟩
       exact AllReadyH.nil
      exact AllReadyH.nil
     exact AllReadyH.nil
    refine' AllReadyH.cons (by simp only[tkD,tkE,tkG];rfl) (fun K hK=>?_) ?_
    ·go_simp;refine hK.out _ _ (below_al3 _ _ _ _) (fun hS3=>?_);try simp only[Act.put,tkA,tkB,tkC]
     refine wpAnyH_ready (rs:=[8]) (by kernel_rfl) (by simp) ?_;refine' AllReadyH.cons (by simp only[tkD,tkE,tkG];rfl) (fun K hK=>?_) ?_
     ·go_simp;refine hK.out _ _ (below_al4 _ _ _ _ _) (fun hS4=>?_);try simp only[Act.put,tkA,tkB,tkC]
      refine wpAnyH_ready (rs:=[10]) (by kernel_rfl) (by simp) ?_;refine' AllReadyH.cons (by simp only[tkD,tkE,tkG];rfl) (fun K hK=>?_) ?_
      ·go_simp;refine hK.out _ _ (below_al4 _ _ _ _ _) (fun hS5=>?_);try simp only[Act.put,tkA,tkB,tkC]
       refine wpAnyH_ready (rs:=[11]) (by kernel_rfl) (by simp) ?_;refine' AllReadyH.cons (by simp only[tkD,tkE,tkG];rfl) (fun K hK=>?_) ?_
       ·go_simp;refine hK.out _ _ (below_al4 _ _ _ _ _) (fun hS6=>?_);try simp only[Act.put,tkA,tkB,tkC]
        refine wpAnyH_done (by kernel_rfl) ?_ _;refine ⟨rfl,W1.heap.size+1,W1.heap.size,W1.heap.size+1+1+1,W1.heap.size+1+1,⟨hS6,(((hb _ _ _ _ (by simp)).alloc _).alloc _).drew,((((hb _ _ _ _ (by simp)).alloc _).alloc _).alloc _).drew,(hb _ _ _ _ (by simp)).drew,((hb _ _ _ _ (by simp)).alloc _).drew,by omega,by omega⟩,rfl⟩
       exact AllReadyH.nil
      exact AllReadyH.nil
     exact AllReadyH.nil
    exact AllReadyH.nil
   refine' AllReadyH.cons (by simp only[tkD,tkE,tkG];rfl) (fun K hK=>?_) ?_
   ·go_simp;refine hK.out _ _ (below_al2 _ _ _) (fun hS2=>?_);try simp only[Act.put,tkA,tkB,tkC]
    refine wpAnyH_ready (rs:=[3,9]) (by kernel_rfl) (by simp) ?_;refine' AllReadyH.cons (by simp only[tkD,tkE,tkG];rfl) (fun K hK=>?_) ?_
    ·go_simp;refine hK.out _ _ (below_al3 _ _ _ _) (fun hS3=>?_);try simp only[Act.put,tkA,tkB,tkC]
     refine wpAnyH_ready (rs:=[9]) (by kernel_rfl) (by simp) ?_;refine' AllReadyH.cons (by simp only[tkD,tkE,tkG];rfl) (fun K hK=>?_) ?_
     ·go_simp;refine hK.out _ _ (below_al4 _ _ _ _ _) (fun hS4=>?_);try simp only[Act.put,tkA,tkB,tkC]
      refine wpAnyH_ready (rs:=[10]) (by kernel_rfl) (by simp) ?_;refine' AllReadyH.cons (by simp only[tkD,tkE,tkG];rfl) (fun K hK=>?_) ?_
      ·go_simp;refine hK.out _ _ (below_al4 _ _ _ _ _) (fun hS5=>?_);try simp only[Act.put,tkA,tkB,tkC]
       refine wpAnyH_ready (rs:=[11]) (by kernel_rfl) (by simp) ?_;refine' AllReadyH.cons (by simp only[tkD,tkE,tkG];rfl) (fun K hK=>?_) ?_
       ·go_simp;refine hK.out _ _ (below_al4 _ _ _ _ _) (fun hS6=>?_);try simp only[Act.put,tkA,tkB,tkC]
        refine wpAnyH_done (by kernel_rfl) ?_ _;refine ⟨rfl,W1.heap.size+1+1,W1.heap.size,W1.heap.size+1,W1.heap.size+1+1+1,⟨hS6,((hb _ _ _ _ (by simp)).alloc _).drew,((((hb _ _ _ _ (by simp)).alloc _).alloc _).alloc _).drew,(((hb _ _ _ _ (by simp)).alloc _).alloc _).drew,(hb _ _ _ _ (by simp)).drew,by omega,by omega⟩,rfl⟩
       exact AllReadyH.nil
      exact AllReadyH.nil
     exact AllReadyH.nil
    refine' AllReadyH.cons (by simp only[tkD,tkE,tkG];rfl) (fun K hK=>?_) ?_
    ·go_simp;refine hK.out _ _ (below_al3 _ _ _ _) (fun hS3=>?_);try simp only[Act.put,tkA,tkB,tkC]
     refine wpAnyH_ready (rs:=[3]) (by kernel_rfl) (by simp) ?_;refine' AllReadyH.cons (by simp only[tkD,tkE,tkG];rfl) (fun K hK=>?_) ?_
     ·go_simp;refine hK.out _ _ (below_al4 _ _ _ _ _) (fun hS4=>?_);try simp only[Act.put,tkA,tkB,tkC]
      refine wpAnyH_ready (rs:=[10]) (by kernel_rfl) (by simp) ?_;refine' AllReadyH.cons (by simp only[tkD,tkE,tkG];rfl) (fun K hK=>?_) ?_
      ·go_simp;refine hK.out _ _ (below_al4 _ _ _ _ _) (fun hS5=>?_);try simp only[Act.put,tkA,tkB,tkC]
       refine wpAnyH_ready (rs:=[11]) (by kernel_rfl) (by simp) ?_;refine' AllReadyH.cons (by simp only[tkD,tkE,tkG];rfl) (fun K hK=>?_) ?_
       ·go_simp;refine hK.out _ _ (below_al4 _ _ _ _ _) (fun hS6=>?_);try simp only[Act.put,tkA,tkB,tkC]
        refine wpAnyH_done (by kernel_rfl) ?_ _;refine ⟨rfl,W1.heap.size+1+1+1,W1.heap.size,W1.heap.size+1,W1.heap.size+1+1,⟨hS6,(hb _ _ _ _ (by simp)).drew,((((hb _ _ _ _ (by simp)).alloc _).alloc _).alloc _).drew,(((hb _ _ _ _ (by simp)).alloc _).alloc _).drew,((hb _ _ _ _ (by simp)).alloc _).drew,by omega,by omega⟩,rfl⟩
       exact AllReadyH.nil
      exact AllReadyH.nil
     exact AllReadyH.nil
    exact AllReadyH.nil
   refine' AllReadyH.cons (by simp only[tkD,tkE,tkG];rfl) (fun K hK=>?_) ?_
   ·go_simp;refine hK.out _ _ (below_al2 _ _ _) (fun hS2=>?_);try simp only[Act.put,tkA,tkB,tkC]
    refine wpAnyH_ready (rs:=[3,8]) (by kernel_rfl) (by simp) ?_;refine' AllReadyH.cons (by simp only[tkD,tkE,tkG];rfl) (fun K hK=>?_) ?_
    ·go_simp;refine hK.out _ _ (below_al3 _ _ _ _) (fun hS3=>?_);try simp only[Act.put,tkA,tkB,tkC]
     refine wpAnyH_ready (rs:=[8]) (by kernel_rfl) (by simp) ?_;refine' AllReadyH.cons (by simp only[tkD,tkE,tkG];rfl) (fun K hK=>?_) ?_
     ·go_simp;refine hK.out _ _ (below_al4 _ _ _ _ _) (fun hS4=>?_);try simp only[Act.put,tkA,tkB,tkC]
      refine wpAnyH_ready (rs:=[10]) (by kernel_rfl) (by simp) ?_;refine' AllReadyH.cons (by simp only[tkD,tkE,tkG];rfl) (fun K hK=>?_) ?_
      ·go_simp;refine hK.out _ _ (below_al4 _ _ _ _ _) (fun hS5=>?_);try simp only[Act.put,tkA,tkB,tkC]
       refine wpAnyH_ready (rs:=[11]) (by kernel_rfl) (by simp) ?_;refine' AllReadyH.cons (by simp only[tkD,tkE,tkG];rfl) (fun K hK=>?_) ?_
       ·go_simp;refine hK.out _ _ (below_al4 _ _ _ _ _) (fun hS6=>?_);try simp only[Act.put,tkA,tkB,tkC]
        refine wpAnyH_done (by kernel_rfl) ?_ _;refine ⟨rfl,W1.heap.size+1+1,W1.heap.size,W1.heap.size+1+1+1,W1.heap.size+1,⟨hS6,((hb _ _ _ _ (by simp)).alloc _).drew,((((hb _ _ _ _ (by simp)).alloc _).alloc _).alloc _).drew,(hb _ _ _ _ (by simp)).drew,(((hb _ _ _ _ (by simp)).alloc _).alloc _).drew,by omega,by omega⟩,rfl⟩
       exact AllReadyH.nil
      exact AllReadyH.nil
     exact AllReadyH.nil
    refine' AllReadyH.cons (by simp only[tkD,tkE,tkG];rfl) (fun K hK=>?_) ?_
    ·go_simp;refine hK.out _ _ (below_al3 _ _ _ _) (fun hS3=>?_);try simp only[Act.put,tkA,tkB,tkC]
     refine wpAnyH_ready (rs:=[3]) (by kernel_rfl) (by simp) ?_;refine' AllReadyH.cons (by simp only[tkD,tkE,tkG];rfl) (fun K hK=>?_) ?_
     ·go_simp;refine hK.out _ _ (below_al4 _ _ _ _ _) (fun hS4=>?_);try simp only[Act.put,tkA,tkB,tkC]
      refine wpAnyH_ready (rs:=[10]) (by kernel_rfl) (by simp) ?_;refine' AllReadyH.cons (by simp only[tkD,tkE,tkG];rfl) (fun K hK=>?_) ?_
      ·go_simp;refine hK.out _ _ (below_al4 _ _ _ _ _) (fun hS5=>?_);try simp only[Act.put,tkA,tkB,tkC]
       refine wpAnyH_ready (rs:=[11]) (by kernel_rfl) (by simp) ?_;refine' AllReadyH.cons (by simp only[tkD,tkE,tkG];rfl) (fun K hK=>?_) ?_
       ·go_simp;refine hK.out _ _ (below_al4 _ _ _ _ _) (fun hS6=>?_);try simp only[Act.put,tkA,tkB,tkC]
        refine wpAnyH_done (by kernel_rfl) ?_ _;refine ⟨rfl,W1.heap.size+1+1+1,W1.heap.size,W1.heap.size+1+1,W1.heap.size+1,⟨hS6,(hb _ _ _ _ (by simp)).drew,((((hb _ _ _ _ (by simp)).alloc _).alloc _).alloc _).drew,((hb _ _ _ _ (by simp)).alloc _).drew,(((hb _ _ _ _ (by simp)).alloc _).alloc _).drew,by omega,by omega⟩,rfl⟩
       exact AllReadyH.nil
      exact AllReadyH.nil
     exact AllReadyH.nil
    exact AllReadyH.nil
   exact AllReadyH.nil
  refine' AllReadyH.cons (by simp only[tkD,tkE,tkG];rfl) (fun K hK=>?_) ?_
  ·go_simp;refine hK.out _ _ (below_al1 _ _) (fun hS1=>?_);try simp only[Act.put,tkA,tkB,tkC]
   refine wpAnyH_ready (rs:=[3,7,9]) (by kernel_rfl) (by simp) ?_;refine' AllReadyH.cons (by simp only[tkD,tkE,tkG];rfl) (fun K hK=>?_) ?_
   ·go_simp;refine hK.out _ _ (below_al2 _ _ _) (fun hS2=>?_);try simp only[Act.put,tkA,tkB,tkC]
    refine wpAnyH_ready (rs:=[7,9]) (by kernel_rfl) (by simp) ?_;refine' AllReadyH.cons (by simp only[tkD,tkE,tkG];rfl) (fun K hK=>?_) ?_
    ·go_simp;refine hK.out _ _ (below_al3 _ _ _ _) (fun hS3=>?_);try simp only[Act.put,tkA,tkB,tkC]
     refine wpAnyH_ready (rs:=[9]) (by kernel_rfl) (by simp) ?_;refine' AllReadyH.cons (by simp only[tkD,tkE,tkG];rfl) (fun K hK=>?_) ?_
     ·go_simp;refine hK.out _ _ (below_al4 _ _ _ _ _) (fun hS4=>?_);try simp only[Act.put,tkA,tkB,tkC]
      refine wpAnyH_ready (rs:=[10]) (by kernel_rfl) (by simp) ?_;refine' AllReadyH.cons (by simp only[tkD,tkE,tkG];rfl) (fun K hK=>?_) ?_
      ·go_simp;refine hK.out _ _ (below_al4 _ _ _ _ _) (fun hS5=>?_);try simp only[Act.put,tkA,tkB,tkC]
       refine wpAnyH_ready (rs:=[11]) (by kernel_rfl) (by simp) ?_;refine' AllReadyH.cons (by simp only[tkD,tkE,tkG];rfl) (fun K hK=>?_) ?_
       ·go_simp;refine hK.out _ _ (below_al4 _ _ _ _ _) (fun hS6=>?_);try simp only[Act.put,tkA,tkB,tkC]
        refine wpAnyH_done (by kernel_rfl) ?_ _;refine ⟨rfl,W1.heap.size+1,W1.heap.size+1+1,W1.heap.size,W1.heap.size+1+1+1,⟨hS6,(((hb _ _ _ _ (by simp)).alloc _).alloc _).drew,((hb _ _ _ _ (by simp)).alloc _).drew,((((hb _ _ _ _ (by simp)).alloc _).alloc _).alloc _).drew,(hb _ _ _ _ (by simp)).drew,by omega,by omega⟩,rfl⟩
       exact AllReadyH.nil
      exact AllReadyH.nil
     exact AllReadyH.nil
    refine' AllReadyH.cons (by simp only[tkD,tkE,tkG];rfl) (fun K hK=>?_) ?_
    ·go_simp;refine hK.out _ _ (below_al3 _ _ _ _) (fun hS3=>?_);try simp only[Act.put,tkA,tkB,tkC]
     refine wpAnyH_ready (rs:=[7,10]) (by kernel_rfl) (by simp) ?_;refine' AllReadyH.cons (by simp only[tkD,tkE,tkG];rfl) (fun K hK=>?_) ?_
     ·go_simp;refine hK.out _ _ (below_al4 _ _ _ _ _) (fun hS4=>?_);try simp only[Act.put,tkA,tkB,tkC]
      refine wpAnyH_ready (rs:=[10]) (by kernel_rfl) (by simp) ?_;refine' AllReadyH.cons (by simp only[tkD,tkE,tkG];rfl) (fun K hK=>?_) ?_
      ·go_simp;refine hK.out _ _ (below_al4 _ _ _ _ _) (fun hS5=>?_);try simp only[Act.put,tkA,tkB,tkC]
       refine wpAnyH_ready (rs:=[11]) (by kernel_rfl) (by simp) ?_;refine' AllReadyH.cons (by simp only[tkD,tkE,tkG];rfl) (fun K hK=>?_) ?_
       ·go_simp;refine hK.out _ _ (below_al4 _ _ _ _ _) (fun hS6=>?_);try simp only[Act.put,tkA,tkB,tkC]
        refine wpAnyH_done (by kernel_rfl) ?_ _;refine ⟨rfl,W1.heap.size+1,W1.heap.size+1+1+1,W1.heap.size,W1.heap.size+1+1,⟨hS6,(((hb _ _ _ _ (by simp)).alloc _).alloc _).drew,(hb _ _ _ _ (by simp)).drew,((((hb _ _ _ _ (by simp)).alloc _).alloc _).alloc _).drew,((hb _ _ _ _ (by simp)).alloc _).drew,by omega,by omega⟩,rfl⟩
       exact AllReadyH.nil
      exact AllReadyH.nil
     refine' AllReadyH.cons (by simp only[tkD,tkE,tkG];rfl) (fun K hK=>?_) ?_
     ·go_simp;refine hK.out _ _ (below_al3 _ _ _ _) (fun hS4=>?_);try simp only[Act.put,tkA,tkB,tkC]
      refine wpAnyH_ready (rs:=[7]) (by kernel_rfl) (by simp) ?_;refine' AllReadyH.cons (by simp only[tkD,tkE,tkG];rfl) (fun K hK=>?_) ?_
      ·go_simp;refine hK.out _ _ (below_al4 _ _ _ _ _) (fun hS5=>?_);try simp only[Act.put,tkA,tkB,tkC]
       refine wpAnyH_ready (rs:=[11]) (by kernel_rfl) (by simp) ?_;refine' AllReadyH.cons (by simp only[tkD,tkE,tkG];rfl) (fun K hK=>?_) ?_
       ·go_simp;refine hK.out _ _ (below_al4 _ _ _ _ _) (fun hS6=>?_);try simp only[Act.put,tkA,tkB,tkC]
        refine wpAnyH_done (by kernel_rfl) ?_ _;refine ⟨rfl,W1.heap.size+1,W1.heap.size+1+1+1,W1.heap.size,W1.heap.size+1+1,⟨hS6,(((hb _ _ _ _ (by simp)).alloc _).alloc _).drew,(hb _ _ _ _ (by simp)).drew,((((hb _ _ _ _ (by simp)).alloc _).alloc _).alloc _).drew,((hb _ _ _ _ (by simp)).alloc _).drew,by omega,by omega⟩,rfl⟩
       exact AllReadyH.nil
      exact AllReadyH.nil
     exact AllReadyH.nil
    exact AllReadyH.nil
   refine' AllReadyH.cons (by simp only[tkD,tkE,tkG];rfl) (fun K hK=>?_) ?_
   ·go_simp;refine hK.out _ _ (below_al2 _ _ _) (fun hS2=>?_);try simp only[Act.put,tkA,tkB,tkC]
    refine wpAnyH_ready (rs:=[3,9]) (by kernel_rfl) (by simp) ?_;refine' AllReadyH.cons (by simp only[tkD,tkE,tkG];rfl) (fun K hK=>?_) ?_
    ·go_simp;refine hK.out _ _ (below_al3 _ _ _ _) (fun hS3=>?_);try simp only[Act.put,tkA,tkB,tkC]
     refine wpAnyH_ready (rs:=[9]) (by kernel_rfl) (by simp) ?_;refine' AllReadyH.cons (by simp only[tkD,tkE,tkG];rfl) (fun K hK=>?_) ?_
     ·go_simp;refine hK.out _ _ (below_al4 _ _ _ _ _) (fun hS4=>?_);try simp only[Act.put,tkA,tkB,tkC]
      refine wpAnyH_ready (rs:=[10]) (by kernel_rfl) (by simp) ?_;refine' AllReadyH.cons (by simp only[tkD,tkE,tkG];rfl) (fun K hK=>?_) ?_
      ·go_simp;refine hK.out _ _ (below_al4 _ _ _ _ _) (fun hS5=>?_);try simp only[Act.put,tkA,tkB,tkC]
       refine wpAnyH_ready (rs:=[11]) (by kernel_rfl) (by simp) ?_;refine' AllReadyH.cons (by simp only[tkD,tkE,tkG];rfl) (fun K hK=>?_) ?_
       ·go_simp;refine hK.out _ _ (below_al4 _ _ _ _ _) (fun hS6=>?_);try simp only[Act.put,tkA,tkB,tkC]
        refine wpAnyH_done (by kernel_rfl) ?_ _;refine ⟨rfl,W1.heap.size+1+1,W1.heap.size+1,W1.heap.size,W1.heap.size+1+1+1,⟨hS6,((hb _ _ _ _ (by simp)).alloc _).drew,(((hb _ _ _ _ (by simp)).alloc _).alloc _).drew,((((hb _ _ _ _ (by simp)).alloc _).alloc _).alloc _).drew,(hb _ _ _ _ (by simp)).drew,by omega,by omega⟩,rfl⟩
       exact AllReadyH.nil
      exact AllReadyH.nil
     exact AllReadyH.nil
    refine' AllReadyH.cons (by simp only[tkD,tkE,tkG];rfl) (fun K hK=>?_) ?_
    ·go_simp;refine hK.out _ _ (below_al3 _ _ _ _) (fun hS3=>?_);try simp only[Act.put,tkA,tkB,tkC]
     refine wpAnyH_ready (rs:=[3]) (by kernel_rfl) (by simp) ?_;refine' AllReadyH.cons (by simp only[tkD,tkE,tkG];rfl) (fun K hK=>?_) ?_
     ·go_simp;refine hK.out _ _ (below_al4 _ _ _ _ _) (fun hS4=>?_);try simp only[Act.put,tkA,tkB,tkC]
      refine wpAnyH_ready (rs:=[10]) (by kernel_rfl) (by simp) ?_;refine' AllReadyH.cons (by simp only[tkD,tkE,tkG];rfl) (fun K hK=>?_) ?_
      ·go_simp;refine hK.out _ _ (below_al4 _ _ _ _ _) (fun hS5=>?_);try simp only[Act.put,tkA,tkB,tkC]
       refine wpAnyH_ready (rs:=[11]) (by kernel_rfl) (by simp) ?_;refine' AllReadyH.cons (by simp only[tkD,tkE,tkG];rfl) (fun K hK=>?_) ?_
       ·go_simp;refine hK.out _ _ (below_al4 _ _ _ _ _) (fun hS6=>?_);try simp only[Act.put,tkA,tkB,tkC]
        refine wpAnyH_done (by kernel_rfl) ?_ _;refine ⟨rfl,W1.heap.size+1+1+1,W1.heap.size+1,W1.heap.size,W1.heap.size+1+1,⟨hS6,(hb _ _ _ _ (by simp)).drew,(((hb _ _ _ _ (by simp)).alloc _).alloc _).drew,((((hb _ _ _ _ (by simp)).alloc _).alloc _).alloc _).drew,((hb _ _ _ _ (by simp)).alloc _).drew,by omega,by omega⟩,rfl⟩
       exact AllReadyH.nil
      exact AllReadyH.nil
     exact AllReadyH.nil
    exact AllReadyH.nil
   refine' AllReadyH.cons (by simp only[tkD,tkE,tkG];rfl) (fun K hK=>?_) ?_
   ·go_simp;refine hK.out _ _ (below_al2 _ _ _) (fun hS2=>?_);try simp only[Act.put,tkA,tkB,tkC]
    refine wpAnyH_ready (rs:=[3,7]) (by kernel_rfl) (by simp) ?_;refine' AllReadyH.cons (by simp only[tkD,tkE,tkG];rfl) (fun K hK=>?_) ?_
    ·go_simp;refine hK.out _ _ (below_al3 _ _ _ _) (fun hS3=>?_);try simp only[Act.put,tkA,tkB,tkC]
     refine wpAnyH_ready (rs:=[7,10]) (by kernel_rfl) (by simp) ?_;refine' AllReadyH.cons (by simp only[tkD,tkE,tkG];rfl) (fun K hK=>?_) ?_
     ·go_simp;refine hK.out _ _ (below_al4 _ _ _ _ _) (fun hS4=>?_);try simp only[Act.put,tkA,tkB,tkC]
      refine wpAnyH_ready (rs:=[10]) (by kernel_rfl) (by simp) ?_;refine' AllReadyH.cons (by simp only[tkD,tkE,tkG];rfl) (fun K hK=>?_) ?_
      ·go_simp;refine hK.out _ _ (below_al4 _ _ _ _ _) (fun hS5=>?_);try simp only[Act.put,tkA,tkB,tkC]
       refine wpAnyH_ready (rs:=[11]) (by kernel_rfl) (by simp) ?_;refine' AllReadyH.cons (by simp only[tkD,tkE,tkG];rfl) (fun K hK=>?_) ?_
       ·go_simp;refine hK.out _ _ (below_al4 _ _ _ _ _) (fun hS6=>?_);try simp only[Act.put,tkA,tkB,tkC]
        refine wpAnyH_done (by kernel_rfl) ?_ _;refine ⟨rfl,W1.heap.size+1+1,W1.heap.size+1+1+1,W1.heap.size,W1.heap.size+1,⟨hS6,((hb _ _ _ _ (by simp)).alloc _).drew,(hb _ _ _ _ (by simp)).drew,((((hb _ _ _ _ (by simp)).alloc _).alloc _).alloc _).drew,(((hb _ _ _ _ (by simp)).alloc _).alloc _).drew,by omega,by omega⟩,rfl⟩
       exact AllReadyH.nil
      exact AllReadyH.nil
     refine' AllReadyH.cons (by simp only[tkD,tkE,tkG];rfl) (fun K hK=>?_) ?_
     ·go_simp;refine hK.out _ _ (below_al3 _ _ _ _) (fun hS4=>?_);try simp only[Act.put,tkA,tkB,tkC]
      refine wpAnyH_ready (rs:=[7]) (by kernel_rfl) (by simp) ?_;refine' AllReadyH.cons (by simp only[tkD,tkE,tkG];rfl) (fun K hK=>?_) ?_
      ·go_simp;refine hK.out _ _ (below_al4 _ _ _ _ _) (fun hS5=>?_);try simp only[Act.put,tkA,tkB,tkC]
       refine wpAnyH_ready (rs:=[11]) (by kernel_rfl) (by simp) ?_;refine' AllReadyH.cons (by simp only[tkD,tkE,tkG];rfl) (fun K hK=>?_) ?_
       ·go_simp;refine hK.out _ _ (below_al4 _ _ _ _ _) (fun hS6=>?_);try simp only[Act.put,tkA,tkB,tkC]
        refine wpAnyH_done (by kernel_rfl) ?_ _;refine ⟨rfl,W1.heap.size+1+1,W1.heap.size+1+1+1,W1.heap.size,W1.heap.size+1,⟨hS6,((hb _ _ _ _ (by simp)).alloc _).drew,(hb _ _ _ _ (by simp)).drew,((((hb _ _ _ _ (by simp)).alloc _).alloc _).alloc _).drew,(((hb _ _ _ _ (by simp)).alloc _).alloc _).drew,by omega,by omega⟩,rfl⟩
       exact AllReadyH.nil
      exact AllReadyH.nil
     exact AllReadyH.nil
    refine' AllReadyH.cons (by simp only[tkD,tkE,tkG];rfl) (fun K hK=>?_) ?_
    ·go_simp;refine hK.out _ _ (below_al3 _ _ _ _) (fun hS3=>?_);try simp only[Act.put,tkA,tkB,tkC]
     refine wpAnyH_ready (rs:=[3]) (by kernel_rfl) (by simp) ?_;refine' AllReadyH.cons (by simp only[tkD,tkE,tkG];rfl) (fun K hK=>?_) ?_
     ·go_simp;refine hK.out _ _ (below_al4 _ _ _ _ _) (fun hS4=>?_);try simp only[Act.put,tkA,tkB,tkC]
      refine wpAnyH_ready (rs:=[10]) (by kernel_rfl) (by simp) ?_;refine' AllReadyH.cons (by simp only[tkD,tkE,tkG];rfl) (fun K hK=>?_) ?_
      ·go_simp;refine hK.out _ _ (below_al4 _ _ _ _ _) (fun hS5=>?_);try simp only[Act.put,tkA,tkB,tkC]
       refine wpAnyH_ready (rs:=[11]) (by kernel_rfl) (by simp) ?_;refine' AllReadyH.cons (by simp only[tkD,tkE,tkG];rfl) (fun K hK=>?_) ?_
       ·go_simp;refine hK.out _ _ (below_al4 _ _ _ _ _) (fun hS6=>?_);try simp only[Act.put,tkA,tkB,tkC]
        refine wpAnyH_done (by kernel_rfl) ?_ _;refine ⟨rfl,W1.heap.size+1+1+1,W1.heap.size+1+1,W1.heap.size,W1.heap.size+1,⟨hS6,(hb _ _ _ _ (by simp)).drew,((hb _ _ _ _ (by simp)).alloc _).drew,((((hb _ _ _ _ (by simp)).alloc _).alloc _).alloc _).drew,(((hb _ _ _ _ (by simp)).alloc _).alloc _).drew,by omega,by omega⟩,rfl⟩
       exact AllReadyH.nil
      exact AllReadyH.nil
     exact AllReadyH.nil
    exact AllReadyH.nil
   exact AllReadyH.nil
  refine' AllReadyH.cons (by simp only[tkD,tkE,tkG];rfl) (fun K hK=>?_) ?_
  ·go_simp;refine hK.out _ _ (below_al1 _ _) (fun hS1=>?_);try simp only[Act.put,tkA,tkB,tkC]
   refine wpAnyH_ready (rs:=[3,7,8]) (by kernel_rfl) (by simp) ?_;refine' AllReadyH.cons (by simp only[tkD,tkE,tkG];rfl) (fun K hK=>?_) ?_
   ·go_simp;refine hK.out _ _ (below_al2 _ _ _) (fun hS2=>?_);try simp only[Act.put,tkA,tkB,tkC]
    refine wpAnyH_ready (rs:=[7,8]) (by kernel_rfl) (by simp) ?_;refine' AllReadyH.cons (by simp only[tkD,tkE,tkG];rfl) (fun K hK=>?_) ?_
    ·go_simp;refine hK.out _ _ (below_al3 _ _ _ _) (fun hS3=>?_);try simp only[Act.put,tkA,tkB,tkC]
     refine wpAnyH_ready (rs:=[8]) (by kernel_rfl) (by simp) ?_;refine' AllReadyH.cons (by simp only[tkD,tkE,tkG];rfl) (fun K hK=>?_) ?_
     ·go_simp;refine hK.out _ _ (below_al4 _ _ _ _ _) (fun hS4=>?_);try simp only[Act.put,tkA,tkB,tkC]
      refine wpAnyH_ready (rs:=[10]) (by kernel_rfl) (by simp) ?_;refine' AllReadyH.cons (by simp only[tkD,tkE,tkG];rfl) (fun K hK=>?_) ?_
      ·go_simp;refine hK.out _ _ (below_al4 _ _ _ _ _) (fun hS5=>?_);try simp only[Act.put,tkA,tkB,tkC]
       refine wpAnyH_ready (rs:=[11]) (by kernel_rfl) (by simp) ?_;refine' AllReadyH.cons (by simp only[tkD,tkE,tkG];rfl) (fun K hK=>?_) ?_
       ·go_simp;refine hK.out _ _ (below_al4 _ _ _ _ _) (fun hS6=>?_);try simp only[Act.put,tkA,tkB,tkC]
        refine wpAnyH_done (by kernel_rfl) ?_ _;refine ⟨rfl,W1.heap.size+1,W1.heap.size+1+1,W1.heap.size+1+1+1,W1.heap.size,⟨hS6,(((hb _ _ _ _ (by simp)).alloc _).alloc _).drew,((hb _ _ _ _ (by simp)).alloc _).drew,(hb _ _ _ _ (by simp)).drew,((((hb _ _ _ _ (by simp)).alloc _).alloc _).alloc _).drew,by omega,by omega⟩,rfl⟩
       exact AllReadyH.nil
      exact AllReadyH.nil
     exact AllReadyH.nil
    refine' AllReadyH.cons (by simp only[tkD,tkE,tkG];rfl) (fun K hK=>?_) ?_
    ·go_simp;refine hK.out _ _ (below_al3 _ _ _ _) (fun hS3=>?_);try simp only[Act.put,tkA,tkB,tkC]
     refine wpAnyH_ready (rs:=[7,10]) (by kernel_rfl) (by simp) ?_;refine' AllReadyH.cons (by simp only[tkD,tkE,tkG];rfl) (fun K hK=>?_) ?_
     ·go_simp;refine hK.out _ _ (below_al4 _ _ _ _ _) (fun hS4=>?_);try simp only[Act.put,tkA,tkB,tkC]
      refine wpAnyH_ready (rs:=[10]) (by kernel_rfl) (by simp) ?_;refine' AllReadyH.cons (by simp only[tkD,tkE,tkG];rfl) (fun K hK=>?_) ?_
      ·go_simp;refine hK.out _ _ (below_al4 _ _ _ _ _) (fun hS5=>?_);try simp only[Act.put,tkA,tkB,tkC]
       refine wpAnyH_ready (rs:=[11]) (by kernel_rfl) (by simp) ?_;refine' AllReadyH.cons (by simp only[tkD,tkE,tkG];rfl) (fun K hK=>?_) ?_
       ·go_simp;refine hK.out _ _ (below_al4 _ _ _ _ _) (fun hS6=>?_);try simp only[Act.put,tkA,tkB,tkC]
        refine wpAnyH_done (by kernel_rfl) ?_ _;refine ⟨rfl,W1.heap.size+1,W1.heap.size+1+1+1,W1.heap.size+1+1,W1.heap.size,⟨hS6,(((hb _ _ _ _ (by simp)).alloc _).alloc _).drew,(hb _ _ _ _ (by simp)).drew,((hb _ _ _ _ (by simp)).alloc _).drew,((((hb _ _ _ _ (by simp)).alloc _).alloc _).alloc _).drew,by omega,by omega⟩,rfl⟩
       exact AllReadyH.nil
      exact AllReadyH.nil
     refine' AllReadyH.cons (by simp only[tkD,tkE,tkG];rfl) (fun K hK=>?_) ?_
     ·go_simp;refine hK.out _ _ (below_al3 _ _ _ _) (fun hS4=>?_);try simp only[Act.put,tkA,tkB,tkC]
      refine wpAnyH_ready (rs:=[7]) (by kernel_rfl) (by simp) ?_;refine' AllReadyH.cons (by simp only[tkD,tkE,tkG];rfl) (fun K hK=>?_) ?_
      ·go_simp;refine hK.out _ _ (below_al4 _ _ _ _ _) (fun hS5=>?_);try simp only[Act.put,tkA,tkB,tkC]
       refine wpAnyH_ready (rs:=[11]) (by kernel_rfl) (by simp) ?_;refine' AllReadyH.cons (by simp only[tkD,tkE,tkG];rfl) (fun K hK=>?_) ?_
       ·go_simp;refine hK.out _ _ (below_al4 _ _ _ _ _) (fun hS6=>?_);try simp only[Act.put,tkA,tkB,tkC]
        refine wpAnyH_done (by kernel_rfl) ?_ _;refine ⟨rfl,W1.heap.size+1,W1.heap.size+1+1+1,W1.heap.size+1+1,W1.heap.size,⟨hS6,(((hb _ _ _ _ (by simp)).alloc _).alloc _).drew,(hb _ _ _ _ (by simp)).drew,((hb _ _ _ _ (by simp)).alloc _).drew,((((hb _ _ _ _ (by simp)).alloc _).alloc _).alloc _).drew,by omega,by omega⟩,rfl⟩
       exact AllReadyH.nil
      exact AllReadyH.nil
     exact AllReadyH.nil
    exact AllReadyH.nil
   refine' AllReadyH.cons (by simp only[tkD,tkE,tkG];rfl) (fun K hK=>?_) ?_
   ·go_simp;refine hK.out _ _ (below_al2 _ _ _) (fun hS2=>?_);try simp only[Act.put,tkA,tkB,tkC]
    refine wpAnyH_ready (rs:=[3,8]) (by kernel_rfl) (by simp) ?_;refine' AllReadyH.cons (by simp only[tkD,tkE,tkG];rfl) (fun K hK=>?_) ?_
    ·go_simp;refine hK.out _ _ (below_al3 _ _ _ _) (fun hS3=>?_);try simp only[Act.put,tkA,tkB,tkC]
     refine wpAnyH_ready (rs:=[8]) (by kernel_rfl) (by simp) ?_;refine' AllReadyH.cons (by simp only[tkD,tkE,tkG];rfl) (fun K hK=>?_) ?_
     ·go_simp;refine hK.out _ _ (below_al4 _ _ _ _ _) (fun hS4=>?_);try simp only[Act.put,tkA,tkB,tkC]
      refine wpAnyH_ready (rs:=[10]) (by kernel_rfl) (by simp) ?_;refine' AllReadyH.cons (by simp only[tkD,tkE,tkG];rfl) (fun K hK=>?_) ?_
      ·go_simp;refine hK.out _ _ (below_al4 _ _ _ _ _) (fun hS5=>?_);try simp only[Act.put,tkA,tkB,tkC]
       refine wpAnyH_ready (rs:=[11]) (by kernel_rfl) (by simp) ?_;refine' AllReadyH.cons (by simp only[tkD,tkE,tkG];rfl) (fun K hK=>?_) ?_
       ·go_simp;refine hK.out _ _ (below_al4 _ _ _ _ _) (fun hS6=>?_);try simp only[Act.put,tkA,tkB,tkC]
        refine wpAnyH_done (by kernel_rfl) ?_ _;refine ⟨rfl,W1.heap.size+1+1,W1.heap.size+1,W1.heap.size+1+1+1,W1.heap.size,⟨hS6,((hb _ _ _ _ (by simp)).alloc _).drew,(((hb _ _ _ _ (by simp)).alloc _).alloc _).drew,(hb _ _ _ _ (by simp)).drew,((((hb _ _ _ _ (by simp)).alloc _).alloc _).alloc _).drew,by omega,by omega⟩,rfl⟩
       exact AllReadyH.nil
      exact AllReadyH.nil
     exact AllReadyH.nil
    refine' AllReadyH.cons (by simp only[tkD,tkE,tkG];rfl) (fun K hK=>?_) ?_
    ·go_simp;refine hK.out _ _ (below_al3 _ _ _ _) (fun hS3=>?_);try simp only[Act.put,tkA,tkB,tkC]
     refine wpAnyH_ready (rs:=[3]) (by kernel_rfl) (by simp) ?_;refine' AllReadyH.cons (by simp only[tkD,tkE,tkG];rfl) (fun K hK=>?_) ?_
     ·go_simp;refine hK.out _ _ (below_al4 _ _ _ _ _) (fun hS4=>?_);try simp only[Act.put,tkA,tkB,tkC]
      refine wpAnyH_ready (rs:=[10]) (by kernel_rfl) (by simp) ?_;refine' AllReadyH.cons (by simp only[tkD,tkE,tkG];rfl) (fun K hK=>?_) ?_
      ·go_simp;refine hK.out _ _ (below_al4 _ _ _ _ _) (fun hS5=>?_);try simp only[Act.put,tkA,tkB,tkC]
       refine wpAnyH_ready (rs:=[11]) (by kernel_rfl) (by simp) ?_;refine' AllReadyH.cons (by simp only[tkD,tkE,tkG];rfl) (fun K hK=>?_) ?_
       ·go_simp;refine hK.out _ _ (below_al4 _ _ _ _ _) (fun hS6=>?_);try simp only[Act.put,tkA,tkB,tkC]
        refine wpAnyH_done (by kernel_rfl) ?_ _;refine ⟨rfl,W1.heap.size+1+1+1,W1.heap.size+1,W1.heap.size+1+1,W1.heap.size,⟨hS6,(hb _ _ _ _ (by simp)).drew,(((hb _ _ _ _ (by simp)).alloc _).alloc _).drew,((hb _ _ _ _ (by simp)).alloc _).drew,((((hb _ _ _ _ (by simp)).alloc _).alloc _).alloc _).drew,by omega,by omega⟩,rfl⟩
       exact AllReadyH.nil
      exact AllReadyH.nil
     exact AllReadyH.nil
    exact AllReadyH.nil
   refine' AllReadyH.cons (by simp only[tkD,tkE,tkG];rfl) (fun K hK=>?_) ?_
   ·go_simp;refine hK.out _ _ (below_al2 _ _ _) (fun hS2=>?_);try simp only[Act.put,tkA,tkB,tkC]
    refine wpAnyH_ready (rs:=[3,7]) (by kernel_rfl) (by simp) ?_;refine' AllReadyH.cons (by simp only[tkD,tkE,tkG];rfl) (fun K hK=>?_) ?_
    ·go_simp;refine hK.out _ _ (below_al3 _ _ _ _) (fun hS3=>?_);try simp only[Act.put,tkA,tkB,tkC]
     refine wpAnyH_ready (rs:=[7,10]) (by kernel_rfl) (by simp) ?_;refine' AllReadyH.cons (by simp only[tkD,tkE,tkG];rfl) (fun K hK=>?_) ?_
     ·go_simp;refine hK.out _ _ (below_al4 _ _ _ _ _) (fun hS4=>?_);try simp only[Act.put,tkA,tkB,tkC]
      refine wpAnyH_ready (rs:=[10]) (by kernel_rfl) (by simp) ?_;refine' AllReadyH.cons (by simp only[tkD,tkE,tkG];rfl) (fun K hK=>?_) ?_
      ·go_simp;refine hK.out _ _ (below_al4 _ _ _ _ _) (fun hS5=>?_);try simp only[Act.put,tkA,tkB,tkC]
       refine wpAnyH_ready (rs:=[11]) (by kernel_rfl) (by simp) ?_;refine' AllReadyH.cons (by simp only[tkD,tkE,tkG];rfl) (fun K hK=>?_) ?_
       ·go_simp;refine hK.out _ _ (below_al4 _ _ _ _ _) (fun hS6=>?_);try simp only[Act.put,tkA,tkB,tkC]
        refine wpAnyH_done (by kernel_rfl) ?_ _;refine ⟨rfl,W1.heap.size+1+1,W1.heap.size+1+1+1,W1.heap.size+1,W1.heap.size,⟨hS6,((hb _ _ _ _ (by simp)).alloc _).drew,(hb _ _ _ _ (by simp)).drew,(((hb _ _ _ _ (by simp)).alloc _).alloc _).drew,((((hb _ _ _ _ (by simp)).alloc _).alloc _).alloc _).drew,by omega,by omega⟩,rfl⟩
       exact AllReadyH.nil
      exact AllReadyH.nil
     refine' AllReadyH.cons (by simp only[tkD,tkE,tkG];rfl) (fun K hK=>?_) ?_
     ·go_simp;refine hK.out _ _ (below_al3 _ _ _ _) (fun hS4=>?_);try simp only[Act.put,tkA,tkB,tkC]
      refine wpAnyH_ready (rs:=[7]) (by kernel_rfl) (by simp) ?_;refine' AllReadyH.cons (by simp only[tkD,tkE,tkG];rfl) (fun K hK=>?_) ?_
      ·go_simp;refine hK.out _ _ (below_al4 _ _ _ _ _) (fun hS5=>?_);try simp only[Act.put,tkA,tkB,tkC]
       refine wpAnyH_ready (rs:=[11]) (by kernel_rfl) (by simp) ?_;refine' AllReadyH.cons (by simp only[tkD,tkE,tkG];rfl) (fun K hK=>?_) ?_
       ·go_simp;refine hK.out _ _ (below_al4 _ _ _ _ _) (fun hS6=>?_);try simp only[Act.put,tkA,tkB,tkC]
        refine wpAnyH_done (by kernel_rfl) ?_ _;refine ⟨rfl,W1.heap.size+1+1,W1.heap.size+1+1+1,W1.heap.size+1,W1.heap.size,⟨hS6,((hb _ _ _ _ (by simp)).alloc _).drew,(hb _ _ _ _ (by simp)).drew,(((hb _ _ _ _ (by simp)).alloc _).alloc _).drew,((((hb _ _ _ _ (by simp)).alloc _).alloc _).alloc _).drew,by omega,by omega⟩,rfl⟩
       exact AllReadyH.nil
      exact AllReadyH.nil
     exact AllReadyH.nil
    refine' AllReadyH.cons (by simp only[tkD,tkE,tkG];rfl) (fun K hK=>?_) ?_
    ·go_simp;refine hK.out _ _ (below_al3 _ _ _ _) (fun hS3=>?_);try simp only[Act.put,tkA,tkB,tkC]
     refine wpAnyH_ready (rs:=[3]) (by kernel_rfl) (by simp) ?_;refine' AllReadyH.cons (by simp only[tkD,tkE,tkG];rfl) (fun K hK=>?_) ?_
     ·go_simp;refine hK.out _ _ (below_al4 _ _ _ _ _) (fun hS4=>?_);try simp only[Act.put,tkA,tkB,tkC]
      refine wpAnyH_ready (rs:=[10]) (by kernel_rfl) (by simp) ?_;refine' AllReadyH.cons (by simp only[tkD,tkE,tkG];rfl) (fun K hK=>?_) ?_
      ·go_simp;refine hK.out _ _ (below_al4 _ _ _ _ _) (fun hS5=>?_);try simp only[Act.put,tkA,tkB,tkC]
       refine wpAnyH_ready (rs:=[11]) (by kernel_rfl) (by simp) ?_;refine' AllReadyH.cons (by simp only[tkD,tkE,tkG];rfl) (fun K hK=>?_) ?_
       ·go_simp;refine hK.out _ _ (below_al4 _ _ _ _ _) (fun hS6=>?_);try simp only[Act.put,tkA,tkB,tkC]
        refine wpAnyH_done (by kernel_rfl) ?_ _;refine ⟨rfl,W1.heap.size+1+1+1,W1.heap.size+1+1,W1.heap.size+1,W1.heap.size,⟨hS6,(hb _ _ _ _ (by simp)).drew,((hb _ _ _ _ (by simp)).alloc _).drew,(((hb _ _ _ _ (by simp)).alloc _).alloc _).drew,((((hb _ _ _ _ (by simp)).alloc _).alloc _).alloc _).drew,by omega,by omega⟩,rfl⟩
       exact AllReadyH.nil
      exact AllReadyH.nil
     exact AllReadyH.nil
    exact AllReadyH.nil
   exact AllReadyH.nil
  exact AllReadyH.nil
theorem cells_any (u x:Value) (l:List FT) (d:List ET) (w:World) (hu:T.At bare w (fun g=>g<w.heap.size) (fieldsT l) u) (hl:l.length*72≤140737488351232) (hf:∀f∈l,FOk f)
 (hx:T.At bare w (fun g=>g<w.heap.size) (entriesT d) x) (hd:d.length*56≤140737488351232) (he:∀e∈d,EOk e) (hes:∀e∈d,e.text.size<4294967281) (hT:FoldNext.Tabs w) (hO:OrdLib.OTabs w) :
 Calls Tryz.prog 37 #[.agg #[u],.agg #[x]] w (CellsRet (cellsF decO runO l d) w):=
 (cells_anyN u x l d w hu hl hf hx hd he hes hT hO).mono fun e w' ⟨h1,h2⟩=>⟨h1,by
   revert h2
   cases cellsF decO runO l d with
   | error n=>exact id
   | ok cs=>rintro ⟨v,h3,h4⟩;exact ⟨v,h3,rowN_cells h4⟩⟩
end Go.Proofs.YtigfcihakghddaaGreatDoor.Sch
