/- Lemmas that the last text leans on. -/
import Derived.Test.YtigfcihakghddaaGreatDoorTake
import Derived.Test.YtigfcihakghddaaGreatDoorAnaStop
import Derived.Test.YtigfcihakghddaaGreatDoorPack21
import Derived.Test.YtigfcihakghddaaGreatDoorPack22
import Derived.StillTailTactics
import Derived.Outline
import Derived.IntWalk
set_option linter.all false
set_option maxRecDepth 100000
set_option maxHeartbeats 2000000
section
namespace Go.Proofs.YtigfcihakghddaaGreatDoor.Ana
open Go.RowKit Go.Lib FoldP FoldNext FoldRefFold FoldFold AnaP Words Tree Kit Owned
def TokRow (ts:List TokD) (w:World) (e:Ending) (w':World):Prop:=∃ao c,e = .returned (.slice ao ts.length c)∧Reads w' w'.heap.size 4 ao ts.length (tokCells ts)∧Below w.heap.size w w'
theorem row_one (W:World) (tx:ByteArray) (ps fr tl:Int):Reads (W.alloc (.cells #[.string tx,.int .i64 ps,.int .i64 fr,.int .i64 tl] 179)) (W.alloc (.cells #[.string tx,.int .i64 ps,.int .i64 fr,.int .i64 tl] 179)).heap.size 4 (some ⟨W.heap.size,0,none⟩) 1 (tokCells [⟨tx,ps,fr,tl⟩]):=
 ⟨rfl,fun _=>⟨_,rfl,by simp,fun j u hu=>cells_new W [.string tx,.int .i64 ps,.int .i64 fr,.int .i64 tl] _ j u hu⟩⟩
theorem tokRow_one {w W:World} {e:Ending} (tx:ByteArray) (ps fr tl:Int) {g:Nat} (h:Below w.heap.size w W) (hg:g=W.heap.size) (he:e = .returned (.slice (some ⟨g,0,none⟩) 1 1)):TokRow [⟨tx,ps,fr,tl⟩] w e (W.alloc (.cells #[.string tx,.int .i64 ps,.int .i64 fr,.int .i64 tl] 179)):=by
 subst hg;exact ⟨_,_,he,row_one W tx ps fr tl,h.alloc h.size _⟩
theorem tokRow_nil {w w':World} (h:Below w.heap.size w w'):TokRow [] w (.returned (.slice none 0 0)) w':=⟨none,0,rfl,Reads.none_,h⟩
theorem blk4 {w:World} {g:Nat} {t:TypeId} {v0 v1 v2 v3:Value} (h:Blk w g t #[v0,v1,v2,v3]):w.cell? ⟨g,0,none⟩=some v0∧w.cell? ⟨g,1,none⟩=some v1∧w.cell? ⟨g,2,none⟩=some v2∧w.cell? ⟨g,3,none⟩=some v3:=⟨h.cell 0,h.cell 1,h.cell 2,h.cell 3⟩
theorem lowerT_any (t:TokD) (w:World) (hs:t.text.size≤17592186044415) (hT:Tabs w) :
 Calls Tryz.prog 139 #[.agg #[.string t.text,.int .i64 t.pos,.int .i64 t.frm,.int .i64 t.til]] w (TokRow (oneT 10 t) w):=by
 obtain ⟨tx,ps,fr,tl⟩:=t;dsimp only at hs ⊢;have e:oneT 10 ⟨tx,ps,fr,tl⟩=[⟨str (foldL tx.data.toList),ps,fr,tl⟩]:=rfl;rw[e];have HC:Hid (∀W,Below w.heap.size w W→Calls Tryz.prog 199 #[.string tx] W (StrBelow (foldL tx.data.toList) W)):=hX (fun W hW=>callsIn_wide.1 (fold_in tx W (by omega) (hT.next hW)));clear hT;go_enter Tryz.func139,Tryz.ntmps139;go_wp2_with fail;refine (HC.out _ ((Below.refl _ _).alloc (Nat.le_refl _) _)).mono ?_;rintro e w1 ⟨rfl,b1⟩;have HB1:=hX (((Below.refl _ w).alloc (Nat.le_refl _) _).trans (b1.mono (by simp)));have BK:=hX ((Blk.new w 179 #[.string tx,.int .i64 ps,.int .i64 fr,.int .i64 tl]).below b1 (by simp));obtain ⟨c0,c1,c2,c3⟩:=blk4 BK.out;have f0:w1.frozen? ⟨w.heap.size,0,none⟩=false:=BK.out.frozen 0;clear b1;go_wp2_with fail;go_ret;exact tokRow_one (str (foldL tx.data.toList)) ps fr tl (HB1.out.setCell (p:=⟨w.heap.size,0,none⟩) (Nat.le_refl _) _) (by simp[World.setCell]) rfl
theorem stopT_any (t:TokD) (w:World) :
 Calls Tryz.prog 140 #[.agg #[.string t.text,.int .i64 t.pos,.int .i64 t.frm,.int .i64 t.til]] w (TokRow (oneT 11 t) w):=by
 obtain ⟨tx,ps,fr,tl⟩:=t;dsimp only
 have e:oneT 11 ⟨tx,ps,fr,tl⟩=if stopF tx then [] else [⟨tx,ps,fr,tl⟩]:=(by unfold oneT oneF;rw[if_neg (by omega),if_pos rfl];dsimp only;split <;> rfl)
 rw[e];have HC:Hid (∀W,Calls Tryz.prog 200 #[.string tx] W (PureB (stopF tx) W)):=hX (fun W=>stop_any tx W)
 cases hq:stopF tx with
 | true=>
  rw[hq] at HC;have HQ:=hX hq;clear hq;rw[if_pos rfl];go_enter Tryz.func140,Tryz.ntmps140;go_wp2_with fail;refine (HC.out _).mono ?_;rintro e w1 ⟨rfl,rfl⟩;go_wp2_with fail;go_ret;exact tokRow_nil ((Below.refl _ w).alloc (Nat.le_refl _) _)
 | false=>
  rw[hq] at HC;have HQ:=hX hq;clear hq;rw[if_neg (by decide)];go_enter Tryz.func140,Tryz.ntmps140;go_wp2_with fail;refine (HC.out _).mono ?_;rintro e w1 ⟨rfl,rfl⟩;go_wp2_with fail;go_ret;exact tokRow_one tx ps fr tl ((Below.refl _ w).alloc (Nat.le_refl _) _) (by simp) rfl
theorem ints_cell {w:World} {B n:Nat} {v:Value} {l:List Nat} (h:w.ownsRow B 3 1 v n (l.map cellN)) (hn:0<n):∃g cap,v = .slice (some ⟨g,0,none⟩) n cap∧B≤g∧g<w.heap.size∧n≤cap∧cap≤maxLen∧∀(i p:Nat),l[i]?=some p→w.cell? ⟨g,i,none⟩=some (.int .i64 (p:Int)):=by
 rcases h.2 with ⟨_,h0⟩ | ⟨g,cap,cur,rfl,hb,hg,hc,hm,_⟩
 ·omega
 ·refine ⟨g,cap,rfl,hb,(Array.getElem?_eq_some_iff.1 hg).1,hc,hm,fun i p hp=>?_⟩;have:=h.cells (g:=g) rfl i (cellN p) (by rw[List.getElem?_map,hp];rfl);have hadd:(⟨g,0,none⟩:Addr).add i=⟨g,i,none⟩:=by unfold Addr.add;split <;> simp_all
  rwa [hadd] at this
theorem shortT_any (t:TokD) (w:World) (hs:t.text.size≤17592186044415) (hT:Tabs w) :
 Calls Tryz.prog 142 #[.agg #[.string t.text,.int .i64 t.pos,.int .i64 t.frm,.int .i64 t.til]] w (TokRow (oneT 14 t) w):=by
 obtain ⟨tx,ps,fr,tl⟩:=t;dsimp only at hs ⊢
 have e:oneT 14 ⟨tx,ps,fr,tl⟩=if 16<nR tx.data.toList then [⟨tx.extract 0 (posAt tx.data.toList 16),ps,fr,tl⟩] else [⟨tx,ps,fr,tl⟩]:=(by unfold oneT oneF;rw[if_neg (by omega),if_neg (by omega),if_neg (by omega),if_neg (by omega),if_pos rfl];dsimp only;unfold shortF;split <;> rfl)
 rw[e];have hnr:=nR_le tx.data.toList;have hlen:tx.data.toList.length=tx.size:=by simp
 rw[hlen] at hnr;have HC:Hid (∀W,Below w.heap.size w W→Calls Tryz.prog 151 #[.string tx] W (OwnInts (posL tx.data.toList) W)):=hX (fun W hW=>places_any tx W hs (hT.next hW));have hpe:posAt tx.data.toList 16≤tx.size:=by rw[←hlen];exact posAt_le _ _
 have HG:Hid (16<nR tx.data.toList→(posL tx.data.toList)[16]?=some (posAt tx.data.toList 16)):=hX (fun h=>posAt_get _ 16 (by omega));have HPL:=hX (posL_len tx.data.toList);clear hT hlen e;generalize nR tx.data.toList=n at *;generalize posAt tx.data.toList 16=p16 at *;generalize posL tx.data.toList=pl at *;by_cases hlt:16<n
 ·rw[if_pos hlt];have h16:=HG.out hlt;have H16:=hX h16;clear h16;go_enter Tryz.func142,Tryz.ntmps142;go_wp2_with fail;refine (HC.out _ ((Below.refl _ _).alloc (Nat.le_refl _) _)).mono ?_;rintro e w1 ⟨v,rfl,hv,b1⟩;obtain ⟨g,cap,rfl,hg1,hg2,hc1,hc2,hcell⟩:=ints_cell hv (by rw[HPL.out];omega);have HB1:=hX (((Below.refl _ w).alloc (Nat.le_refl _) _).trans (b1.mono (by simp)));have BK:=hX ((Blk.new w 179 #[.string tx,.int .i64 ps,.int .i64 fr,.int .i64 tl]).below b1 (by simp));rw[HPL.out] at hc1 ⊢;have HCE:=hX hcell;clear b1 hv hcell;have h16:w1.cell? ⟨g,16,none⟩=some (.int .i64 (p16:Int)):=HCE.out 16 p16 H16.out;obtain ⟨c0,c1,c2,c3⟩:=blk4 BK.out;have f0:w1.frozen? ⟨w.heap.size,0,none⟩=false:=BK.out.frozen 0;go_upto_region 3 with fail;change ({ w1 with drawn:=w1.drawn+1 }:World).cell? _=_ at c0 c1 c2 c3 h16;change ({ w1 with drawn:=w1.drawn+1 }:World).frozen? _=_ at f0;have HB2:Hid (Below w.heap.size w ({ w1 with drawn:=w1.drawn+1 }:World)):=hX (HB1.out.trans ⟨rfl,rfl,rfl,Nat.le_refl _,fun _ _=>rfl⟩);refine wp_region_still_tail 7 (by kernel_rfl) (by kernel_rfl) ?_;simp only[List.take_succ_cons,List.take_zero,List.drop_succ_cons,List.drop_zero];clear BK HB1 HCE hg2;generalize ({ w1 with drawn:=w1.drawn+1 }:World)=W at *;have hi1:(16:Int)<((n+1:Nat):Int):=by omega
  have hi2:(16:Int)<(n:Int)+1:=by omega
  have hi3:(p16:Int)≤(tx.size:Int):=by omega
  repeat still_step
  refine wpStill_nil ?_;change wpList _ _ _ _ _ _;go_wp2_with fail;go_ret;exact tokRow_one (tx.extract 0 p16) ps fr tl (HB2.out.setCell (p:=⟨w.heap.size,0,none⟩) (Nat.le_refl _) _) (by simp[World.setCell]) rfl
 ·rw[if_neg hlt];go_enter Tryz.func142,Tryz.ntmps142;go_wp2_with fail;refine (HC.out _ ((Below.refl _ _).alloc (Nat.le_refl _) _)).mono ?_;rintro e w1 ⟨v,rfl,hv,b1⟩;obtain ⟨g,cap,rfl,hg1,hg2,hc1,hc2,hcell⟩:=ints_cell hv (by rw[HPL.out];omega);have HB1:=hX (((Below.refl _ w).alloc (Nat.le_refl _) _).trans (b1.mono (by simp)));have BK:=hX ((Blk.new w 179 #[.string tx,.int .i64 ps,.int .i64 fr,.int .i64 tl]).below b1 (by simp));rw[HPL.out] at hc1 ⊢;have HCE:=hX hcell;clear b1 hv hcell;obtain ⟨c0,c1,c2,c3⟩:=blk4 BK.out;go_wp2_with fail;go_ret;exact tokRow_one tx ps fr tl HB1.out rfl rfl
end Go.Proofs.YtigfcihakghddaaGreatDoor.Ana
end
section
namespace Go.Proofs.YtigfcihakghddaaGreatDoor.Ana
open Go.RowKit Go.Lib FoldP FoldNext AnaP Words Tree Kit Owned
def gramT (t:TokD) (k i:Nat):TokD:={ t with text:=t.text.extract (posAt t.text.data.toList i) (posAt t.text.data.toList (i+k)) }
theorem grams_eq (t:TokD) (k:Nat):(gramsF k t.text).map (fun x=>({ t with text:=x }:TokD))=if nR t.text.data.toList≤k then [t] else (List.range (nR t.text.data.toList+1 - k)).map (gramT t k):=by
 unfold gramsF;split
 ·rfl
 ·rw[List.map_map];rfl
theorem range_cells (t:TokD) (k j:Nat):tokCells ((List.range (j+1)).map (gramT t k))=tokCells ((List.range j).map (gramT t k))++(gramT t k j).cells:=by
 rw[List.range_succ,List.map_append,tokCells_append];simp[tokCells]
theorem gramsT_any (k:Nat) (hk:k=2∨k=3) (t:TokD) (w:World) (bn:Nat) (hs:t.text.size≤1099511627776) (hc:w.cell? ⟨bn,0,none⟩=some (.int .i64 (k:Int))) (hbn:bn<w.heap.size) (hT:Tabs w) :
 Calls Tryz.prog 201 #[.agg #[.string t.text,.int .i64 t.pos,.int .i64 t.frm,.int .i64 t.til],.pointer (some ⟨bn,0,none⟩)] w (TokRow ((gramsF k t.text).map (fun x=>({ t with text:=x }:TokD))) w):=by
 obtain ⟨i0,hi,hz0,hz1,hz2⟩:=info_parts infoTok;rw[grams_eq];have hnr:=nR_le t.text.data.toList;have hlen:t.text.data.toList.length=t.text.size:=by simp
 rw[hlen] at hnr;have HC:Hid (∀W,Below w.heap.size w W→Calls Tryz.prog 151 #[.string t.text] W (OwnInts (posL t.text.data.toList) W)):=hX (fun W hW=>places_any t.text W (by omega) (hT.next hW));have HPG:Hid (∀i,i≤nR t.text.data.toList→(posL t.text.data.toList)[i]?=some (posAt t.text.data.toList i)):=hX (fun i h=>posAt_get _ i h);have HPM:Hid (∀i,i+k≤nR t.text.data.toList→posAt t.text.data.toList i≤posAt t.text.data.toList (i+k)∧posAt t.text.data.toList (i+k)≤t.text.size):=hX (fun i h=>⟨posAt_mono _ _ _ (by omega) h,by rw[←hlen];exact posAt_le _ _⟩);have HPL:=hX (posL_len t.text.data.toList);have HRC:=hX (range_cells t k);have HGT:Hid (∀i,gramT t k i=⟨t.text.extract (posAt t.text.data.toList i) (posAt t.text.data.toList (i+k)),t.pos,t.frm,t.til⟩):=hX (fun i=>rfl);have HI1:=hX hi;have HI2:=hX hz0;have HI3:=hX hz1;have HI4:=hX hz2;clear hT hlen hi hz0 hz1 hz2;obtain ⟨tx,ps,fr,tl⟩:=t;dsimp only at *;generalize gramT ⟨tx,ps,fr,tl⟩ k=G at *;generalize nR tx.data.toList=n at *;generalize posAt tx.data.toList=P at *;generalize posL tx.data.toList=pl at *;by_cases hnk:n≤k
 ·rw[if_pos hnk];go_enter Tryz.func201,Tryz.ntmps201;go_wp2_with fail;refine (HC.out _ ((Below.refl _ _).alloc (Nat.le_refl _) _)).mono ?_;rintro e w1 ⟨v,rfl,hv,b1⟩;obtain ⟨g,cap,rfl,hg1,hg2,hc1,hc2,hcell⟩:=ints_cell hv (by rw[HPL.out];omega);have HB1:=hX (((Below.refl _ w).alloc (Nat.le_refl _) _).trans (b1.mono (by simp)));have BK:=hX ((Blk.new w 179 #[.string tx,.int .i64 ps,.int .i64 fr,.int .i64 tl]).below b1 (by simp));have hcn:w1.cell? ⟨bn,0,none⟩=some (.int .i64 (k:Int)):=(HB1.out.cell (p:=⟨bn,0,none⟩) hbn).trans hc;rw[HPL.out] at hc1 ⊢;obtain ⟨c0,c1,c2,c3⟩:=blk4 BK.out;clear b1 hv hcell;go_wp2_with fail;go_ret;exact tokRow_one tx ps fr tl HB1.out rfl rfl
 ·rw[if_neg hnk];go_enter Tryz.func201,Tryz.ntmps201;go_wp2_with fail;refine (HC.out _ ((Below.refl _ _).alloc (Nat.le_refl _) _)).mono ?_;rintro e w1 ⟨v,rfl,hv,b1⟩;obtain ⟨g,cap,rfl,hg1,hg2,hc1,hc2,hcell⟩:=ints_cell hv (by rw[HPL.out];omega);have HB1:=hX (((Below.refl _ w).alloc (Nat.le_refl _) _).trans (b1.mono (by simp)));have BK:=hX ((Blk.new w 179 #[.string tx,.int .i64 ps,.int .i64 fr,.int .i64 tl]).below b1 (by simp));have hcn:w1.cell? ⟨bn,0,none⟩=some (.int .i64 (k:Int)):=(HB1.out.cell (p:=⟨bn,0,none⟩) hbn).trans hc;have HCN:=hX hcn;have HCE:=hX hcell;rw[HPL.out] at hc1 ⊢;have hw1:w.heap.size+1≤w1.heap.size:=by have:=b1.size;simpa using this
  unfold maxLen at hc2;clear b1 hv hcell;go_wp2_with fail;clear hcn;go_loopw [5,6,7] (fun o i _ wr=>∃j:Nat,j≤n+1 - k∧i = .int .i64 j∧Hid (wr.ownsRow w1.heap.size 179 4 o j (tokCells ((List.range j).map G)))∧Hid (Below w1.heap.size w1 wr)) (fun _ i _ _=>n+1 - k - (RowKit.intOf i).toNat);case atStart=>exact ⟨0,by omega,rfl,hX (World.ownsRow_nil _ _ _ _),hX (Below.refl _ _)⟩
  case round=>
   obtain ⟨j,hj,rfl,HO,HW⟩:=hrel;have hzr:=HW.out.size;have hcn:wr.cell? ⟨bn,0,none⟩=some (.int .i64 (k:Int)):=(HW.out.cell (p:=⟨bn,0,none⟩) (by show bn<_;omega)).trans HCN.out;by_cases hlt:j<n+1 - k
   ·obtain ⟨c0,c1,c2,c3⟩:=blk4 (BK.out.below HW.out (by omega));have hp1:wr.cell? ⟨g,j,none⟩=some (.int .i64 (P j:Int)):=(HW.out.cell (p:=⟨g,j,none⟩) hg2).trans (HCE.out j _ (HPG.out j (by omega)));have hp2:wr.cell? ⟨g,j+k,none⟩=some (.int .i64 (P (j+k):Int)):=(HW.out.cell (p:=⟨g,j+k,none⟩) hg2).trans (HCE.out (j+k) _ (HPG.out (j+k) (by omega)));have hpm:=HPM.out j (by omega);have hglt:g<wr.heap.size:=by omega
    have hblt:bn<wr.heap.size:=by omega
    have hnlt:w.heap.size<wr.heap.size:=by omega
    go_upto_region 9 with fail;have hBA:Below wr.heap.size wr (wr.alloc (.cells #[.string tx,.int .i64 ps,.int .i64 fr,.int .i64 tl] 179)):=(Below.refl _ _).alloc (Nat.le_refl _) _;have BN:=hX (Blk.new wr 179 #[.string tx,.int .i64 ps,.int .i64 fr,.int .i64 tl]);have hd0:=(hBA.cell (p:=⟨w.heap.size,0,none⟩) hnlt).trans c0;have hd1:=(hBA.cell (p:=⟨g,j,none⟩) hglt).trans hp1;have hd2:=(hBA.cell (p:=⟨g,j+k,none⟩) hglt).trans hp2;have hd3:=(hBA.cell (p:=⟨bn,0,none⟩) hblt).trans hcn;have HOA:=hX (HO.out.alloc (.cells #[.string tx,.int .i64 ps,.int .i64 fr,.int .i64 tl] 179));have HWA:=hX (HW.out.alloc hzr (.cells #[.string tx,.int .i64 ps,.int .i64 fr,.int .i64 tl] 179));have hsa:(wr.alloc (.cells #[.string tx,.int .i64 ps,.int .i64 fr,.int .i64 tl] 179)).heap.size=wr.heap.size+1:=by simp
    have HSA:=hX hsa;clear hBA hsa c0 c1 c2 c3 hp1 hp2 hcn;generalize wr.alloc (.cells #[.string tx,.int .i64 ps,.int .i64 fr,.int .i64 tl] 179)=WA at *;change ({ WA with drawn:=WA.drawn+1 }:World).cell? _=_ at hd0 hd1 hd2 hd3;have BN2:Hid (Blk ({ WA with drawn:=WA.drawn+1 }:World) wr.heap.size 179 #[.string tx,.int .i64 ps,.int .i64 fr,.int .i64 tl]):=BN;have HO2:Hid (({ WA with drawn:=WA.drawn+1 }:World).ownsRow w1.heap.size 179 4 u5 j (tokCells ((List.range j).map G))):=HOA;have HW2:Hid (Below w1.heap.size w1 ({ WA with drawn:=WA.drawn+1 }:World)):=hX (HWA.out.trans ⟨rfl,rfl,rfl,Nat.le_refl _,fun _ _=>rfl⟩);have HS2:Hid (({ WA with drawn:=WA.drawn+1 }:World).heap.size=wr.heap.size+1):=HSA;clear BN HOA HWA HSA;obtain ⟨hpm1,hpm2⟩:=hpm;have hx1:(j:Int)<(n:Int)+1:=by omega
    have hx2:(j:Int)+(k:Int)<(n:Int)+1:=by omega
    have hx3:(P j:Int)≤(P (j+k):Int):=by omega
    have hx4:(P (j+k):Int)≤(tx.size:Int):=by omega
    refine wp_region_still_tail 14 (by kernel_rfl) (by kernel_rfl) ?_;simp only[List.take_succ_cons,List.take_zero,List.drop_succ_cons,List.drop_zero];generalize ({ WA with drawn:=WA.drawn+1 }:World)=W at *;have hy3:((j:Int)+(k:Int)).toNat=j+k:=by omega
    have hy2:0≤(j:Int)+(k:Int):=by omega
    have hy1:IntKind.i64.wrap ((j:Int)+(k:Int))=(j:Int)+(k:Int):=IntWalk.i64_in _ (by omega);repeat still_step
    clear hy1 hy2 hy3;refine wpStill_nil ?_;change wpList _ _ _ _ _ _;have e0:W.cell? ⟨wr.heap.size,0,none⟩=some (.string tx):=BN2.out.cell 0;have f0:W.frozen? ⟨wr.heap.size,0,none⟩=false:=BN2.out.frozen 0;clear hd0 hd1 hd2 hd3;go_upto_region 10 with fail;have BN3:Hid (Blk (W.setCell ⟨wr.heap.size,0,none⟩ (.string (tx.extract (P j) (P (j+k))))) wr.heap.size 179 #[.string (tx.extract (P j) (P (j+k))),.int .i64 ps,.int .i64 fr,.int .i64 tl]):=hX (BN2.out.set_ 0 _)
    have HO3:Hid ((W.setCell ⟨wr.heap.size,0,none⟩ (.string (tx.extract (P j) (P (j+k))))).ownsRow w1.heap.size 179 4 u5 j (tokCells ((List.range j).map G))):=
     hX (own_setCell_ne HO2.out (a:=⟨wr.heap.size,0,none⟩) (fun e=>absurd (HO.out.lt _ e).2 (Nat.lt_irrefl _)) _)
    have HW3:Hid (Below w1.heap.size w1 (W.setCell ⟨wr.heap.size,0,none⟩ (.string (tx.extract (P j) (P (j+k)))))):=hX (HW2.out.setCell (p:=⟨wr.heap.size,0,none⟩) hzr _);clear e0 f0 BN2 HO2 HW2 HS2;generalize W.setCell ⟨wr.heap.size,0,none⟩ (.string (tx.extract (P j) (P (j+k))))=W3 at *;obtain ⟨c0,c1,c2,c3⟩:=blk4 BN3.out;have ho:=HO3.out;have hi:=HI1.out;have hz0:=HI2.out;have hz1:=HI3.out;have hz2:=HI4.out;have hz3:=HW3.out.size;go_wp2_with (at_builtin;refine wpList_append_own _ rfl (.tmp 41) (.tmp 43) 156 rfl w1.heap.size 179 i0 (.agg #[.string ⟨#[]⟩,.int .i64 0,.int .i64 0,.int .i64 0]) 4 40 Tryz.underlying156 hi hz0 hz1 hz2 rfl (by decide) _ j (tokCells ((List.range j).map G)) rfl (ho.alloc _) ⟨W3.heap.size,0,none⟩ 1 1 [.string (tx.extract (P j) (P (j+k))),.int .i64 ps,.int .i64 fr,.int .i64 tl] rfl rfl ?d1 ?d2 ?d3 ?d4 ?d5 ?_);case d1=>intro q u hu;exact cells_new W3 [.string (tx.extract (P j) (P (j+k))),.int .i64 ps,.int .i64 fr,.int .i64 tl] _ q u hu
    case d2=>intro u hu;exact tok_one (ts:=[⟨tx.extract (P j) (P (j+k)),ps,fr,tl⟩]) hu
    case d3=>unfold maxLen;omega
    case d4=>omega
    case d5=>simp;omega
    intro v' w4 ho4 hg4 _;have hb4:Below w1.heap.size w1 w4:=(HW3.out.alloc hz3 _).grown hg4 (by simp;omega) (fun r e=>(ho.lt r e).1);have HO4:Hid (w4.ownsRow w1.heap.size 179 4 v' (j+1) (tokCells ((List.range (j+1)).map G))):=hX (by rw[HRC.out,HGT.out];exact ho4);have HB4:=hX hb4;clear ho ho4 hg4 hb4 c0 c1 c2 c3 hi hz0 hz1 hz2;go_wp2_with fail;go_roundw;case rel=>exact ⟨j+1,by omega,by go_num,HO4,HB4⟩
    case measure=>simp[RowKit.intOf];omega
   ·obtain rfl:j=n+1 - k:=by omega
    have HB:Hid (Below w.heap.size w wr):=hX (HB1.out.trans (HW.out.mono HB1.out.size))
    obtain ⟨ao,cp,rfl⟩:∃ao cp,u5 = .slice ao (n+1 - k) cp:=by
     rcases HO.out.2 with ⟨rfl,h0⟩ | ⟨g',cap',cur,rfl,_⟩
     ·exact ⟨none,0,by rw[h0]⟩
     ·exact ⟨_,_,rfl⟩
    have HOW:=hX (Reads.of_own HO.out);go_wp2_with fail;go_ret;refine ⟨ao,cp,?_,?_,HB.out⟩
    ·simp
    ·have:=HOW.out;simpa using this
end Go.Proofs.YtigfcihakghddaaGreatDoor.Ana
end
