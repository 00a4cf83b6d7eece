/- Lemmas that the last text leans on. -/
import Derived.Test.YtplkbdncgkgppaaGreatDoorTake
import Derived.Test.YtplkbdncgkgppaaGreatDoorAnaStop
import Derived.Test.YtplkbdncgkgppaaGreatDoorPack38
import Derived.StillTailTactics
import Derived.Outline
import Derived.IntWalk
import Derived.Test.YtplkbdncgkgppaaGreatDoorPack5
import Derived.Deep.RegionHeld3
set_option linter.all false
set_option maxRecDepth 100000
set_option maxHeartbeats 2000000
section
namespace Go.Proofs.YtplkbdncgkgppaaGreatDoor.Ana
open Go.RowKit Go.Lib FoldP FoldNext FoldRefFold FoldFold AnaP Words Tree Kit Owned
def zi9 (ts:List TokD) (w:World) (e:Ending) (w':World):Prop:=∃ao c,e = .returned (.slice ao ts.length c)∧Reads w' w'.heap.size 4 ao ts.length (zah ts)∧Below w.heap.size w w'
theorem yc2 (W:World) (tx:ByteArray) (ps fr tl:Int):Reads (W.alloc (.cells #[.string tx,.int .i64 ps,.int .i64 fr,.int .i64 tl] 98)) (W.alloc (.cells #[.string tx,.int .i64 ps,.int .i64 fr,.int .i64 tl] 98)).heap.size 4 (some ⟨W.heap.size,0,none⟩) 1 (zah [⟨tx,ps,fr,tl⟩]):=
 ⟨rfl,fun _=>⟨_,rfl,by simp,fun j u hu=>cells_new W [.string tx,.int .i64 ps,.int .i64 fr,.int .i64 tl] _ j u hu⟩⟩
theorem zdm {w W:World} {e:Ending} (tx:ByteArray) (ps fr tl:Int) {g:Nat} (h:Below w.heap.size w W) (hg:g=W.heap.size) (he:e = .returned (.slice (some ⟨g,0,none⟩) 1 1)):zi9 [⟨tx,ps,fr,tl⟩] w e (W.alloc (.cells #[.string tx,.int .i64 ps,.int .i64 fr,.int .i64 tl] 98)):=by
 subst hg;exact ⟨_,_,he,yc2 W tx ps fr tl,h.alloc h.size _⟩
theorem zl9 {w w':World} (h:Below w.heap.size w w'):zi9 [] w (.returned (.slice none 0 0)) w':=⟨none,0,rfl,Reads.none_,h⟩
theorem str_eq (l:List UInt8):str l=⟨l.toArray⟩:=rfl
theorem yc3 {w:World} {g:Nat} {t:TypeId} {v0 v1 v2 v3:Value} (h:Blk w g t #[v0,v1,v2,v3]):w.cell? ⟨g,0,none⟩=some v0∧w.cell? ⟨g,1,none⟩=some v1∧w.cell? ⟨g,2,none⟩=some v2∧w.cell? ⟨g,3,none⟩=some v3:=⟨h.cell 0,h.cell 1,h.cell 2,h.cell 3⟩
theorem zt0 (t:TokD) (w:World) (hs:t.text.size≤17592186044415) (hT:zdi w) :
 Calls Tryz.prog 130 #[.agg #[.string t.text,.int .i64 t.pos,.int .i64 t.frm,.int .i64 t.til]] w (zi9 (znn 10 t) w):=by
 obtain ⟨tx,ps,fr,tl⟩:=t;dsimp only at hs ⊢;have e:znn 10 ⟨tx,ps,fr,tl⟩=[⟨str (zej tx.data.toList),ps,fr,tl⟩]:=rfl;rw[e];have HC:Hid (∀W,Below w.heap.size w W→Calls Tryz.prog 160 #[.string tx] W (zsj (zej tx.data.toList) W)):=hX (fun W hW=>callsIn_wide.1 (yc1 tx W (by omega) (hT.next hW)));clear hT;go_enter Tryz.func130,Tryz.ntmps130;go_wp2_with fail;refine (HC.out _ ((Below.refl _ _).alloc (Nat.le_refl _) _)).mono ?_;rintro e w1 ⟨rfl,b1⟩;have HB1:=hX (((Below.refl _ w).alloc (Nat.le_refl _) _).trans (b1.mono (by simp)));have BK:=hX ((Blk.new w 98 #[.string tx,.int .i64 ps,.int .i64 fr,.int .i64 tl]).below b1 (by simp));obtain ⟨c0,c1,c2,c3⟩:=yc3 BK.out;have f0:w1.frozen? ⟨w.heap.size,0,none⟩=false:=BK.out.frozen 0;clear b1;go_wp2_with fail;go_ret;exact zdm (str (zej tx.data.toList)) ps fr tl (HB1.out.setCell (p:=⟨w.heap.size,0,none⟩) (Nat.le_refl _) _) (by simp[World.setCell]) rfl
theorem zxn (t:TokD) (w:World) :
 Calls Tryz.prog 131 #[.agg #[.string t.text,.int .i64 t.pos,.int .i64 t.frm,.int .i64 t.til]] w (zi9 (znn 11 t) w):=by
 obtain ⟨tx,ps,fr,tl⟩:=t;dsimp only
 have e:znn 11 ⟨tx,ps,fr,tl⟩=if zke tx then [] else [⟨tx,ps,fr,tl⟩]:=(by unfold znn zzb;rw[if_neg (by omega),if_pos rfl];dsimp only;split <;> rfl)
 rw[e];have HC:Hid (∀W,Calls Tryz.prog 161 #[.string tx] W (zdc (zke tx) W)):=hX (fun W=>zz5 tx W)
 cases hq:zke tx with
 | true=>
  rw[hq] at HC;have HQ:=hX hq;clear hq;rw[if_pos rfl];go_enter Tryz.func131,Tryz.ntmps131;go_wp2_with fail;refine (HC.out _).mono ?_;rintro e w1 ⟨rfl,rfl⟩;go_wp2_with fail;go_ret;exact zl9 ((Below.refl _ w).alloc (Nat.le_refl _) _)
 | false=>
  rw[hq] at HC;have HQ:=hX hq;clear hq;rw[if_neg (by decide)];go_enter Tryz.func131,Tryz.ntmps131;go_wp2_with fail;refine (HC.out _).mono ?_;rintro e w1 ⟨rfl,rfl⟩;go_wp2_with fail;go_ret;exact zdm tx ps fr tl ((Below.refl _ w).alloc (Nat.le_refl _) _) (by simp) rfl
theorem zhx {w:World} {B n:Nat} {v:Value} {l:List Nat} (h:w.ownsRow B 3 1 v n (l.map znh)) (hn:0<n):∃g cap,v = .slice (some ⟨g,0,none⟩) n cap∧B≤g∧g<w.heap.size∧n≤cap∧cap≤maxLen∧∀(i p:Nat),l[i]?=some p→w.cell? ⟨g,i,none⟩=some (.int .i64 (p:Int)):=by
 rcases h.2 with ⟨_,h0⟩ | ⟨g,cap,cur,rfl,hb,hg,hc,hm,_⟩
 ·omega
 ·refine ⟨g,cap,rfl,hb,(Array.getElem?_eq_some_iff.1 hg).1,hc,hm,fun i p hp=>?_⟩;have:=h.cells (g:=g) rfl i (znh p) (by rw[List.getElem?_map,hp];rfl);have hadd:(⟨g,0,none⟩:Addr).add i=⟨g,i,none⟩:=by unfold Addr.add;split <;> simp_all
  rwa [hadd] at this
theorem zt1 (t:TokD) (w:World) (hs:t.text.size≤17592186044415) (hT:zdi w) :
 Calls Tryz.prog 133 #[.agg #[.string t.text,.int .i64 t.pos,.int .i64 t.frm,.int .i64 t.til]] w (zi9 (znn 14 t) w):=by
 obtain ⟨tx,ps,fr,tl⟩:=t;dsimp only at hs ⊢
 have e:znn 14 ⟨tx,ps,fr,tl⟩=if 16<nR tx.data.toList then [⟨tx.extract 0 (zae tx.data.toList 16),ps,fr,tl⟩] else [⟨tx,ps,fr,tl⟩]:=(by unfold znn zzb;rw[if_neg (by omega),if_neg (by omega),if_neg (by omega),if_neg (by omega),if_pos rfl];dsimp only;unfold zr9;split <;> rfl)
 rw[e];have hnr:=zol tx.data.toList;have hlen:tx.data.toList.length=tx.size:=by simp
 rw[hlen] at hnr;have HC:Hid (∀W,Below w.heap.size w W→Calls Tryz.prog 122 #[.string tx] W (zk0 (zk6 tx.data.toList) W)):=hX (fun W hW=>zgm tx W hs (hT.next hW));have hpe:zae tx.data.toList 16≤tx.size:=by rw[←hlen];exact zd2 _ _
 have HG:Hid (16<nR tx.data.toList→(zk6 tx.data.toList)[16]?=some (zae tx.data.toList 16)):=hX (fun h=>zc2 _ 16 (by omega));have HPL:=hX (zet tx.data.toList);clear hT hlen e;generalize nR tx.data.toList=n at *;generalize zae tx.data.toList 16=p16 at *;generalize zk6 tx.data.toList=pl at *;by_cases hlt:16<n
 ·rw[if_pos hlt];have h16:=HG.out hlt;have H16:=hX h16;clear h16;go_enter Tryz.func133,Tryz.ntmps133;go_wp2_with fail;refine (HC.out _ ((Below.refl _ _).alloc (Nat.le_refl _) _)).mono ?_;rintro e w1 ⟨v,rfl,hv,b1⟩;obtain ⟨g,cap,rfl,hg1,hg2,hc1,hc2,hcell⟩:=zhx hv (by rw[HPL.out];omega);have HB1:=hX (((Below.refl _ w).alloc (Nat.le_refl _) _).trans (b1.mono (by simp)));have BK:=hX ((Blk.new w 98 #[.string tx,.int .i64 ps,.int .i64 fr,.int .i64 tl]).below b1 (by simp));rw[HPL.out] at hc1 ⊢;have HCE:=hX hcell;clear b1 hv hcell;have h16:w1.cell? ⟨g,16,none⟩=some (.int .i64 (p16:Int)):=HCE.out 16 p16 H16.out;obtain ⟨c0,c1,c2,c3⟩:=yc3 BK.out;have f0:w1.frozen? ⟨w.heap.size,0,none⟩=false:=BK.out.frozen 0;go_upto_region 3 with fail;change ({ w1 with drawn:=w1.drawn+1 }:World).cell? _=_ at c0 c1 c2 c3 h16;change ({ w1 with drawn:=w1.drawn+1 }:World).frozen? _=_ at f0;have HB2:Hid (Below w.heap.size w ({ w1 with drawn:=w1.drawn+1 }:World)):=hX (HB1.out.trans ⟨rfl,rfl,rfl,Nat.le_refl _,fun _ _=>rfl⟩);refine wp_region_still_tail 7 (by kernel_rfl) (by kernel_rfl) ?_;simp only[List.take_succ_cons,List.take_zero,List.drop_succ_cons,List.drop_zero];clear BK HB1 HCE hg2;generalize ({ w1 with drawn:=w1.drawn+1 }:World)=W at *;have hi1:(16:Int)<((n+1:Nat):Int):=by omega
  have hi2:(16:Int)<(n:Int)+1:=by omega
  have hi3:(p16:Int)≤(tx.size:Int):=by omega
  repeat still_step
  refine wpStill_nil ?_;change wpList _ _ _ _ _ _;go_wp2_with fail;go_ret;exact zdm (tx.extract 0 p16) ps fr tl (HB2.out.setCell (p:=⟨w.heap.size,0,none⟩) (Nat.le_refl _) _) (by simp[World.setCell]) rfl
 ·rw[if_neg hlt];go_enter Tryz.func133,Tryz.ntmps133;go_wp2_with fail;refine (HC.out _ ((Below.refl _ _).alloc (Nat.le_refl _) _)).mono ?_;rintro e w1 ⟨v,rfl,hv,b1⟩;obtain ⟨g,cap,rfl,hg1,hg2,hc1,hc2,hcell⟩:=zhx hv (by rw[HPL.out];omega);have HB1:=hX (((Below.refl _ w).alloc (Nat.le_refl _) _).trans (b1.mono (by simp)));have BK:=hX ((Blk.new w 98 #[.string tx,.int .i64 ps,.int .i64 fr,.int .i64 tl]).below b1 (by simp));rw[HPL.out] at hc1 ⊢;have HCE:=hX hcell;clear b1 hv hcell;obtain ⟨c0,c1,c2,c3⟩:=yc3 BK.out;go_wp2_with fail;go_ret;exact zdm tx ps fr tl HB1.out rfl rfl
end Go.Proofs.YtplkbdncgkgppaaGreatDoor.Ana
end
section
namespace Go.Proofs.YtplkbdncgkgppaaGreatDoor.Ana
open Go.RowKit Go.Lib FoldP FoldNext AnaP Words Tree Kit Owned
def zt2 (t:TokD) (k i:Nat):TokD:={ t with text:=t.text.extract (zae t.text.data.toList i) (zae t.text.data.toList (i+k)) }
theorem zz8 (t:TokD) (k:Nat):(zgs k t.text).map (fun x=>({ t with text:=x }:TokD))=if nR t.text.data.toList≤k then [t] else (List.range (nR t.text.data.toList+1 - k)).map (zt2 t k):=by
 unfold zgs;split
 ·rfl
 ·rw[List.map_map];rfl
theorem zq4 (t:TokD) (k j:Nat):zah ((List.range (j+1)).map (zt2 t k))=zah ((List.range j).map (zt2 t k))++(zt2 t k j).cells:=by
 rw[List.range_succ,List.map_append,zdy];simp[zah]
theorem zt3 (k:Nat) (hk:k=2∨k=3) (t:TokD) (w:World) (bn:Nat) (hs:t.text.size≤1099511627776) (hc:w.cell? ⟨bn,0,none⟩=some (.int .i64 (k:Int))) (hbn:bn<w.heap.size) (hT:zdi w) :
 Calls Tryz.prog 162 #[.agg #[.string t.text,.int .i64 t.pos,.int .i64 t.frm,.int .i64 t.til],.pointer (some ⟨bn,0,none⟩)] w (zi9 ((zgs k t.text).map (fun x=>({ t with text:=x }:TokD))) w):=by
 obtain ⟨i0,hi,hz0,hz1,hz2⟩:=info_parts zm9;rw[zz8];have hnr:=zol t.text.data.toList;have hlen:t.text.data.toList.length=t.text.size:=by simp
 rw[hlen] at hnr;have HC:Hid (∀W,Below w.heap.size w W→Calls Tryz.prog 122 #[.string t.text] W (zk0 (zk6 t.text.data.toList) W)):=hX (fun W hW=>zgm t.text W (by omega) (hT.next hW));have HPG:Hid (∀i,i≤nR t.text.data.toList→(zk6 t.text.data.toList)[i]?=some (zae t.text.data.toList i)):=hX (fun i h=>zc2 _ i h);have HPM:Hid (∀i,i+k≤nR t.text.data.toList→zae t.text.data.toList i≤zae t.text.data.toList (i+k)∧zae t.text.data.toList (i+k)≤t.text.size):=hX (fun i h=>⟨zb3 _ _ _ (by omega) h,by rw[←hlen];exact zd2 _ _⟩);have HPL:=hX (zet t.text.data.toList);have HRC:=hX (zq4 t k);have HGT:Hid (∀i,zt2 t k i=⟨t.text.extract (zae t.text.data.toList i) (zae t.text.data.toList (i+k)),t.pos,t.frm,t.til⟩):=hX (fun i=>rfl);have HI1:=hX hi;have HI2:=hX hz0;have HI3:=hX hz1;have HI4:=hX hz2;clear hT hlen hi hz0 hz1 hz2;obtain ⟨tx,ps,fr,tl⟩:=t;dsimp only at *;generalize zt2 ⟨tx,ps,fr,tl⟩ k=G at *;generalize nR tx.data.toList=n at *;generalize zae tx.data.toList=P at *;generalize zk6 tx.data.toList=pl at *;by_cases hnk:n≤k
 ·rw[if_pos hnk];go_enter Tryz.func162,Tryz.ntmps162;go_wp2_with fail;refine (HC.out _ ((Below.refl _ _).alloc (Nat.le_refl _) _)).mono ?_;rintro e w1 ⟨v,rfl,hv,b1⟩;obtain ⟨g,cap,rfl,hg1,hg2,hc1,hc2,hcell⟩:=zhx hv (by rw[HPL.out];omega);have HB1:=hX (((Below.refl _ w).alloc (Nat.le_refl _) _).trans (b1.mono (by simp)));have BK:=hX ((Blk.new w 98 #[.string tx,.int .i64 ps,.int .i64 fr,.int .i64 tl]).below b1 (by simp));have hcn:w1.cell? ⟨bn,0,none⟩=some (.int .i64 (k:Int)):=(HB1.out.cell (p:=⟨bn,0,none⟩) hbn).trans hc;rw[HPL.out] at hc1 ⊢;obtain ⟨c0,c1,c2,c3⟩:=yc3 BK.out;clear b1 hv hcell;go_wp2_with fail;go_ret;exact zdm tx ps fr tl HB1.out rfl rfl
 ·rw[if_neg hnk];go_enter Tryz.func162,Tryz.ntmps162;go_wp2_with fail;refine (HC.out _ ((Below.refl _ _).alloc (Nat.le_refl _) _)).mono ?_;rintro e w1 ⟨v,rfl,hv,b1⟩;obtain ⟨g,cap,rfl,hg1,hg2,hc1,hc2,hcell⟩:=zhx hv (by rw[HPL.out];omega);have HB1:=hX (((Below.refl _ w).alloc (Nat.le_refl _) _).trans (b1.mono (by simp)));have BK:=hX ((Blk.new w 98 #[.string tx,.int .i64 ps,.int .i64 fr,.int .i64 tl]).below b1 (by simp));have hcn:w1.cell? ⟨bn,0,none⟩=some (.int .i64 (k:Int)):=(HB1.out.cell (p:=⟨bn,0,none⟩) hbn).trans hc;have HCN:=hX hcn;have HCE:=hX hcell;rw[HPL.out] at hc1 ⊢;have hw1:w.heap.size+1≤w1.heap.size:=by have:=b1.size;simpa using this
  unfold maxLen at hc2;clear b1 hv hcell;go_wp2_with fail;clear hcn;go_loopw [5,6,7] (fun o i _ wr=>∃j:Nat,j≤n+1 - k∧i = .int .i64 j∧Hid (wr.ownsRow w1.heap.size 98 4 o j (zah ((List.range j).map G)))∧Hid (Below w1.heap.size w1 wr)) (fun _ i _ _=>n+1 - k - (RowKit.intOf i).toNat);case atStart=>exact ⟨0,by omega,rfl,hX (World.ownsRow_nil _ _ _ _),hX (Below.refl _ _)⟩
  case round=>
   obtain ⟨j,hj,rfl,HO,HW⟩:=hrel;have hzr:=HW.out.size;have hcn:wr.cell? ⟨bn,0,none⟩=some (.int .i64 (k:Int)):=(HW.out.cell (p:=⟨bn,0,none⟩) (by show bn<_;omega)).trans HCN.out;by_cases hlt:j<n+1 - k
   ·obtain ⟨c0,c1,c2,c3⟩:=yc3 (BK.out.below HW.out (by omega));have hp1:wr.cell? ⟨g,j,none⟩=some (.int .i64 (P j:Int)):=(HW.out.cell (p:=⟨g,j,none⟩) hg2).trans (HCE.out j _ (HPG.out j (by omega)));have hp2:wr.cell? ⟨g,j+k,none⟩=some (.int .i64 (P (j+k):Int)):=(HW.out.cell (p:=⟨g,j+k,none⟩) hg2).trans (HCE.out (j+k) _ (HPG.out (j+k) (by omega)));have hpm:=HPM.out j (by omega);have hglt:g<wr.heap.size:=by omega
    have hblt:bn<wr.heap.size:=by omega
    have hnlt:w.heap.size<wr.heap.size:=by omega
    go_upto_region 9 with fail;have hBA:Below wr.heap.size wr (wr.alloc (.cells #[.string tx,.int .i64 ps,.int .i64 fr,.int .i64 tl] 98)):=(Below.refl _ _).alloc (Nat.le_refl _) _;have BN:=hX (Blk.new wr 98 #[.string tx,.int .i64 ps,.int .i64 fr,.int .i64 tl]);have hd0:=(hBA.cell (p:=⟨w.heap.size,0,none⟩) hnlt).trans c0;have hd1:=(hBA.cell (p:=⟨g,j,none⟩) hglt).trans hp1;have hd2:=(hBA.cell (p:=⟨g,j+k,none⟩) hglt).trans hp2;have hd3:=(hBA.cell (p:=⟨bn,0,none⟩) hblt).trans hcn;have HOA:=hX (HO.out.alloc (.cells #[.string tx,.int .i64 ps,.int .i64 fr,.int .i64 tl] 98));have HWA:=hX (HW.out.alloc hzr (.cells #[.string tx,.int .i64 ps,.int .i64 fr,.int .i64 tl] 98));have hsa:(wr.alloc (.cells #[.string tx,.int .i64 ps,.int .i64 fr,.int .i64 tl] 98)).heap.size=wr.heap.size+1:=by simp
    have HSA:=hX hsa;clear hBA hsa c0 c1 c2 c3 hp1 hp2 hcn;generalize wr.alloc (.cells #[.string tx,.int .i64 ps,.int .i64 fr,.int .i64 tl] 98)=WA at *;change ({ WA with drawn:=WA.drawn+1 }:World).cell? _=_ at hd0 hd1 hd2 hd3;have BN2:Hid (Blk ({ WA with drawn:=WA.drawn+1 }:World) wr.heap.size 98 #[.string tx,.int .i64 ps,.int .i64 fr,.int .i64 tl]):=BN;have HO2:Hid (({ WA with drawn:=WA.drawn+1 }:World).ownsRow w1.heap.size 98 4 u5 j (zah ((List.range j).map G))):=HOA;have HW2:Hid (Below w1.heap.size w1 ({ WA with drawn:=WA.drawn+1 }:World)):=hX (HWA.out.trans ⟨rfl,rfl,rfl,Nat.le_refl _,fun _ _=>rfl⟩);have HS2:Hid (({ WA with drawn:=WA.drawn+1 }:World).heap.size=wr.heap.size+1):=HSA;clear BN HOA HWA HSA;obtain ⟨hpm1,hpm2⟩:=hpm;have hx1:(j:Int)<(n:Int)+1:=by omega
    have hx2:(j:Int)+(k:Int)<(n:Int)+1:=by omega
    have hx3:(P j:Int)≤(P (j+k):Int):=by omega
    have hx4:(P (j+k):Int)≤(tx.size:Int):=by omega
    refine wp_region_still_tail 14 (by kernel_rfl) (by kernel_rfl) ?_;simp only[List.take_succ_cons,List.take_zero,List.drop_succ_cons,List.drop_zero];generalize ({ WA with drawn:=WA.drawn+1 }:World)=W at *;have hy3:((j:Int)+(k:Int)).toNat=j+k:=by omega
    have hy2:0≤(j:Int)+(k:Int):=by omega
    have hy1:IntKind.i64.wrap ((j:Int)+(k:Int))=(j:Int)+(k:Int):=IntWalk.i64_in _ (by omega);repeat still_step
    clear hy1 hy2 hy3;refine wpStill_nil ?_;change wpList _ _ _ _ _ _;have e0:W.cell? ⟨wr.heap.size,0,none⟩=some (.string tx):=BN2.out.cell 0;have f0:W.frozen? ⟨wr.heap.size,0,none⟩=false:=BN2.out.frozen 0;clear hd0 hd1 hd2 hd3;go_upto_region 10 with fail;have BN3:Hid (Blk (W.setCell ⟨wr.heap.size,0,none⟩ (.string (tx.extract (P j) (P (j+k))))) wr.heap.size 98 #[.string (tx.extract (P j) (P (j+k))),.int .i64 ps,.int .i64 fr,.int .i64 tl]):=hX (BN2.out.set_ 0 _)
    have HO3:Hid ((W.setCell ⟨wr.heap.size,0,none⟩ (.string (tx.extract (P j) (P (j+k))))).ownsRow w1.heap.size 98 4 u5 j (zah ((List.range j).map G))):=
     hX (zb6 HO2.out (a:=⟨wr.heap.size,0,none⟩) (fun e=>absurd (HO.out.lt _ e).2 (Nat.lt_irrefl _)) _)
    have HW3:Hid (Below w1.heap.size w1 (W.setCell ⟨wr.heap.size,0,none⟩ (.string (tx.extract (P j) (P (j+k)))))):=hX (HW2.out.setCell (p:=⟨wr.heap.size,0,none⟩) hzr _);clear e0 f0 BN2 HO2 HW2 HS2;generalize W.setCell ⟨wr.heap.size,0,none⟩ (.string (tx.extract (P j) (P (j+k))))=W3 at *;obtain ⟨c0,c1,c2,c3⟩:=yc3 BN3.out;have ho:=HO3.out;have hi:=HI1.out;have hz0:=HI2.out;have hz1:=HI3.out;have hz2:=HI4.out;have hz3:=HW3.out.size;go_wp2_with (at_builtin;refine wpList_append_own _ rfl (.tmp 41) (.tmp 43) 94 rfl w1.heap.size 98 i0 (.agg #[.string ⟨#[]⟩,.int .i64 0,.int .i64 0,.int .i64 0]) 4 40 Tryz.underlying94 hi hz0 hz1 hz2 rfl (by decide) _ j (zah ((List.range j).map G)) rfl (ho.alloc _) ⟨W3.heap.size,0,none⟩ 1 1 [.string (tx.extract (P j) (P (j+k))),.int .i64 ps,.int .i64 fr,.int .i64 tl] rfl rfl ?d1 ?d2 ?d3 ?d4 ?d5 ?_);case d1=>intro q u hu;exact cells_new W3 [.string (tx.extract (P j) (P (j+k))),.int .i64 ps,.int .i64 fr,.int .i64 tl] _ q u hu
    case d2=>intro u hu;exact zq1 (ts:=[⟨tx.extract (P j) (P (j+k)),ps,fr,tl⟩]) hu
    case d3=>unfold maxLen;omega
    case d4=>omega
    case d5=>simp;omega
    intro v' w4 ho4 hg4 _;have hb4:Below w1.heap.size w1 w4:=(HW3.out.alloc hz3 _).grown hg4 (by simp;omega) (fun r e=>(ho.lt r e).1);have HO4:Hid (w4.ownsRow w1.heap.size 98 4 v' (j+1) (zah ((List.range (j+1)).map G))):=hX (by rw[HRC.out,HGT.out];exact ho4);have HB4:=hX hb4;clear ho ho4 hg4 hb4 c0 c1 c2 c3 hi hz0 hz1 hz2;go_wp2_with fail;go_roundw;case rel=>exact ⟨j+1,by omega,by go_num,HO4,HB4⟩
    case measure=>simp[RowKit.intOf];omega
   ·obtain rfl:j=n+1 - k:=by omega
    have HB:Hid (Below w.heap.size w wr):=hX (HB1.out.trans (HW.out.mono HB1.out.size))
    obtain ⟨ao,cp,rfl⟩:∃ao cp,u5 = .slice ao (n+1 - k) cp:=by
     rcases HO.out.2 with ⟨rfl,h0⟩ | ⟨g',cap',cur,rfl,_⟩
     ·exact ⟨none,0,by rw[h0]⟩
     ·exact ⟨_,_,rfl⟩
    have HOW:=hX (Reads.of_own HO.out);go_wp2_with fail;go_ret;refine ⟨ao,cp,?_,?_,HB.out⟩
    ·simp
    ·have:=HOW.out;simpa using this
end Go.Proofs.YtplkbdncgkgppaaGreatDoor.Ana
end
section
namespace Go.Proofs.YtplkbdncgkgppaaGreatDoor.Ana
open Go.RowKit Go.Lib FoldP FoldInts FoldForms FoldNext FoldIter FoldValid AnaP Words Tree Kit Owned SBuilder
theorem zsk {w:World} {B n:Nat} {v:Value} {l:List Nat} (h:w.ownsRow B 3 1 v n (l.map znh)) (hn:0<n):∃g cap cur,v = .slice (some ⟨g,0,none⟩) n cap∧B≤g∧Blk w g 3 cur∧n≤cap∧cap≤maxLen∧∀(i p:Nat),l[i]?=some p→cur[i]?=some (.int .i64 (p:Int)):=by
 rcases h.2 with ⟨_,h0⟩ | ⟨g,cap,cur,rfl,hb,hg,hc,hm,hs,ht⟩
 ·omega
 ·refine ⟨g,cap,cur,rfl,hb,hg,hc,hm,fun i p hp=>?_⟩;have:=h.cells (g:=g) rfl i (znh p) (by rw[List.getElem?_map,hp];rfl);have hadd:(⟨g,0,none⟩:Addr).add i=⟨g,i,none⟩:=by unfold Addr.add;split <;> simp_all
  rw[hadd,show w.cell? ⟨g,i,none⟩=cur[i]? from Blk.cell hg i] at this;exact this
theorem zec {w w':World} {b g:Nat} {t:TypeId} {cs:Array Value} (h:Lib.OthersKept 5 (some b) w w') (hg:Blk w g t cs) (hn:g≠b) (ht:t≠5):Blk w' g t cs:=
 h g _ hg (by simpa using hn) (by intro c fz e;injection e with _ e _;exact ht e)
def zlf (w:World) (g:Nat) (cur:Array Value) (tx:ByteArray) (ps fr tl:Int) (l:List UInt8) (W:World):Prop:=
 Lib.IsBuilderF 110 5 w.heap.size (w.heap.size+1) (byteCells l) W∧Blk W w.heap.size 98 #[.string tx,.int .i64 ps,.int .i64 fr,.int .i64 tl]∧Blk W g 3 cur∧Below w.heap.size w W
theorem zlf.next {w W W':World} {g:Nat} {cur:Array Value} {tx:ByteArray} {ps fr tl:Int} {l:List UInt8} (h:zlf w g cur tx ps fr tl l W) (hb:Below W.heap.size W W'):zlf w g cur tx ps fr tl l W':=
 ⟨zd8 h.1 (Words.only_of_below hb none) (fun r e=>by cases e),h.2.1.below hb h.2.1.lt,h.2.2.1.below hb h.2.2.1.lt,h.2.2.2.trans (hb.mono h.2.2.2.size)⟩
theorem zt4 (t:TokD) (w:World) (hs:t.text.size≤1099511627776) (hT:zdi w) :
 Calls Tryz.prog 134 #[.agg #[.string t.text,.int .i64 t.pos,.int .i64 t.frm,.int .i64 t.til]] w (zi9 ((zlw t.text).map (fun x=>({ t with text:=x }:TokD))) w):=by
 obtain ⟨tx,ps,fr,tl⟩:=t;dsimp only at *;have hnr:=zol tx.data.toList;have hlen:tx.data.toList.length=tx.size:=by simp
 rw[hlen] at hnr;have HC:Hid (∀W,Below w.heap.size w W→Calls Tryz.prog 122 #[.string tx] W (zk0 (zk6 tx.data.toList) W)):=hX (fun W hW=>zgm tx W (by omega) (hT.next hW));have HPG:Hid (∀i,i≤nR tx.data.toList→(zk6 tx.data.toList)[i]?=some (zae tx.data.toList i)):=hX (fun i h=>zc2 _ i h);have HPM:Hid (∀i,i<nR tx.data.toList→zae tx.data.toList i<zae tx.data.toList (i+1)∧zae tx.data.toList (i+1)≤tx.size):=hX (fun i h=>by have:=zek tx.data.toList i h;rw[hlen] at this;exact this);have HPL:=hX (zet tx.data.toList);have HUS:=hX (zhn tx.data.toList);have HU0:Hid (zb4 tx.data.toList 0=[]):=hX rfl;have HUL:Hid (∀i,i≤nR tx.data.toList→(zb4 tx.data.toList i).length≤tx.size):=hX (fun i h=>by have:=zfn tx.data.toList i h;have:=zd2 tx.data.toList i;rw[hlen] at this;omega)
 have HND:Hid (∀i,i<nR tx.data.toList→∀W,Below w.heap.size w W→∃rr nn:Nat,rr≤1114111∧(zij tx.data.toList i=if markF (rr:Int) then [] else (tx.data.toList.drop (zae tx.data.toList i)).take (zae tx.data.toList (i+1) - zae tx.data.toList i))∧
  Calls Tryz.prog 163 #[.string tx,.int .i64 (zae tx.data.toList i:Int)] W (zo9 rr nn W)):=hX (fun i h W hW=>by
  have hp:=zii tx.data.toList i h
  refine ⟨_,_,decodeL_rune (tx.data.toList.drop (zae tx.data.toList i)),rfl,zxm tx _ W (by omega) (hT.next hW) (by rw[←hlen];exact hp.1) _ _ rfl⟩)
 have HMF:Hid (zlw tx=if zb4 tx.data.toList (nR tx.data.toList)=[] then [] else [⟨(zb4 tx.data.toList (nR tx.data.toList)).toArray⟩]):=hX rfl
 obtain ⟨MF,hMF⟩:∃MF,zlw tx=MF:=⟨_,rfl⟩
 rw[hMF] at HMF ⊢;clear hMF hT hlen;generalize hud:zb4 tx.data.toList=U at *;clear hud;generalize hu1:zij tx.data.toList=U1 at *;clear hu1;generalize nR tx.data.toList=n at *;generalize hP:zae tx.data.toList=P at *;clear hP;generalize zk6 tx.data.toList=pl at *;go_enter Tryz.func134,Tryz.ntmps134;go_wp2_with fail;refine (HC.out _ (((Below.refl _ _).alloc (Nat.le_refl _) _).alloc (by simp) _)).mono ?_;rintro e w1 ⟨v,rfl,hv,b1⟩;obtain ⟨g,cap,cur,rfl,hg1,hg2,hc1,hc2,hcell⟩:=zsk hv (by rw[HPL.out];omega);have HB1:=hX ((((Below.refl _ w).alloc (Nat.le_refl _) _).alloc (by simp) _).trans (b1.mono (by simp;omega)));have BK:=hX (((Blk.new w 98 #[.string tx,.int .i64 ps,.int .i64 fr,.int .i64 tl]).alloc _).below b1 (by simp;omega));have hw1:w.heap.size+2≤w1.heap.size:=by have:=b1.size;simpa using this
 have hgN:w.heap.size+2≤g:=by simpa using hg1
 have hbd:Lib.IsBuilderF 110 5 w.heap.size (w.heap.size+1) (byteCells []) w1:=by
  refine zd8 (W:=(w.alloc (.cells #[.string tx,.int .i64 ps,.int .i64 fr,.int .i64 tl] 98)).alloc (.cells #[.pointer none,.slice none 0 0] 110)) (.inl ⟨by omega,.slice none 0 0,?_,?_,by simp[Value.ownBlock]⟩) (Words.only_of_below b1 none) (fun r e=>by cases e)
  ·have:=heap_alloc_new (w.alloc (.cells #[.string tx,.int .i64 ps,.int .i64 fr,.int .i64 tl] 98)) (.cells #[.pointer none,.slice none 0 0] 110);simpa using this
  ·exact World.ownsRowF_of (World.ownsRow_nil _ _ _ _)
 have HI0:Hid (zlf w g cur tx ps fr tl [] w1):=hX ⟨hbd,BK.out,hg2,HB1.out⟩;have HCE:=hX hcell;have hglt:=hg2.lt;rw[HPL.out] at hc1 ⊢;unfold maxLen at hc2;clear b1 hv hcell hbd hg2;go_wp2_with fail;go_loopw [14] (fun i wr=>∃j:Nat,j≤n∧i = .int .i64 j∧Hid (zlf w g cur tx ps fr tl (U j) wr)) (fun i _=>n - (RowKit.intOf i).toNat);case atStart=>exact ⟨0,by omega,rfl,hX (by rw[HU0.out];exact HI0.out)⟩
 case round=>
  obtain ⟨j,hj,rfl,HM⟩:=hrel;by_cases hlt:j<n
  ·obtain ⟨rr,nn,hrr,hU1,hN⟩:=HND.out j hlt wr.drew (HM.out.2.2.2.trans ⟨rfl,rfl,rfl,Nat.le_refl _,fun _ _=>rfl⟩);have HU1:=hX hU1;have HN:=hX hN;have HD:Hid (zlf w g cur tx ps fr tl (U j) wr.drew):=hX (HM.out.next ⟨rfl,rfl,rfl,Nat.le_refl _,fun _ _=>rfl⟩);have SF:Hid (∀w',zlf w g cur tx ps fr tl (U j) w'→w'.cell? ⟨w.heap.size,0,none⟩=some (.string tx)∧w'.cell? ⟨g,j,none⟩=some (.int .i64 (P j:Int))):=hX (fun w' h=>⟨h.2.1.cell 0,(h.2.2.1.cell j).trans (HCE.out j _ (HPG.out j (by omega)))⟩);clear hU1 hN;go_upto_region 6 with fail;have hx1:(j:Int)<(n:Int)+1:=by omega
   go_region_held3 (fun w'=>Hid (zlf w g cur tx ps fr tl (U j) w')∧w'.cell? ⟨w.heap.size,0,none⟩=some (.string tx)∧w'.cell? ⟨g,j,none⟩=some (.int .i64 (P j:Int)))
    (first | exact ⟨HM3,SF.out _ HM3.out⟩ | exact ⟨HD,SF.out _ HD.out⟩)
    (first
      | (go_at_call 163;refine HN.out.mono ?_;rintro e w2 ⟨rfl,b2⟩;have HM3:=hX (HD.out.next b2);clear b2))
   clear SF HD
   cases hmk:markF (rr:Int) with
   | true=>
    have HE:Hid (U (j+1)=U j):=hX (by rw[HUS.out,HU1.out,hmk];simp);have HK:Hid (Calls Tryz.prog 150 #[.int .i32 (rr:Int)] w2 (zkx true w2)):=hX (by rw[←hmk];exact zna _ _);clear hmk;go_wp2_with fail;refine HK.out.mono ?_;rintro e w3 ⟨rfl,rfl⟩;go_wp2_with fail;go_roundw;case rel=>exact ⟨j+1,by omega,by go_num,hX (by rw[HE.out];exact HM3.out)⟩
    case measure=>simp[RowKit.intOf];omega
   | false=>
    have HE:Hid (U (j+1)=U j++(tx.data.toList.drop (P j)).take (P (j+1) - P j)):=hX (by rw[HUS.out,HU1.out,hmk];simp);have HK:Hid (Calls Tryz.prog 150 #[.int .i32 (rr:Int)] w2 (zkx false w2)):=hX (by rw[←hmk];exact zna _ _);clear hmk;go_wp2_with fail;refine HK.out.mono ?_;rintro e w3 ⟨rfl,rfl⟩;go_upto_region 8 with fail;have HM4:Hid (zlf w g cur tx ps fr tl (U j) ({ w2 with drawn:=w2.drawn+1 }:World)):=hX (HM3.out.next ⟨rfl,rfl,rfl,Nat.le_refl _,fun _ _=>rfl⟩);refine wp_region_still_tail 12 (by kernel_rfl) (by kernel_rfl) ?_;simp only[List.take_succ_cons,List.take_zero,List.drop_succ_cons,List.drop_zero];generalize ({ w2 with drawn:=w2.drawn+1 }:World)=W4 at *;obtain ⟨hpm1,hpm2⟩:=HPM.out j hlt;have c0:W4.cell? ⟨w.heap.size,0,none⟩=some (.string tx):=HM4.out.2.1.cell 0;have cp:W4.cell? ⟨g,j,none⟩=some (.int .i64 (P j:Int)):=(HM4.out.2.2.1.cell j).trans (HCE.out j _ (HPG.out j (by omega)));have cq:W4.cell? ⟨g,j+1,none⟩=some (.int .i64 (P (j+1):Int)):=(HM4.out.2.2.1.cell (j+1)).trans (HCE.out (j+1) _ (HPG.out (j+1) (by omega)));have hx2:(j:Int)+1<(n:Int)+1:=by omega
    have hx3:(P j:Int)≤(P (j+1):Int):=by omega
    have hx4:(P (j+1):Int)≤(tx.size:Int):=by omega
    have hy3:((j:Int)+1).toNat=j+1:=by omega
    have hy2:0≤(j:Int)+1:=by omega
    have hul:=HUL.out j (by omega);have hy1:IntKind.i64.wrap ((j:Int)+1)=(j:Int)+1:=IntWalk.i64_in _ (by omega);repeat still_step
    clear hy1 hy2 hy3;refine wpStill_nil ?_;change wpList _ _ _ _ _ _;clear c0 cp cq;have hsx:(tx.extract (P j) (P (j+1))).size=P (j+1) - P j:=by simp;omega
    have hbl:(byteCells (U j)).length+(tx.extract (P j) (P (j+1))).size≤140737488355328:=by rw[byteCells_length,hsx];omega
    have HW:Hid _:=hX (zdp w.heap.size (w.heap.size+1) (byteCells (U j)) (tx.extract (P j) (P (j+1))) W4 HM4.out.1 hbl HM4.out.2.2.2.size);clear hbl hsx;go_wp2_with fail;refine HW.out.mono ?_;rintro e w5 ⟨rfl,h1,h2,h3⟩
    have HM5:Hid (zlf w g cur tx ps fr tl (U (j+1)) w5):=hX (by
     refine ⟨?_,zec h3 HM4.out.2.1 (by omega) (by decide),zec h3 HM4.out.2.2.1 (by omega) (by decide),HM4.out.2.2.2.trans h2⟩;rw[HE.out,byteCells_append]
     have hcells:strCells (tx.extract (P j) (P (j+1)))=byteCells ((tx.data.toList.drop (P j)).take (P (j+1) - P j)):=(by rw[strCells_eq,extract_data])
     rw[←hcells]
     exact .inr h1)
    clear h1 h2 h3;go_wp2_with fail;go_roundw;case rel=>exact ⟨j+1,by omega,by go_num,HM5⟩
    case measure=>simp[RowKit.intOf];omega
  ·obtain rfl:j=n:=by omega
   have HS:=hX (Tryz.Builder_String_any_k w.heap.size (w.heap.size+1) (U j) wr HM.out.1 HM.out.2.2.2.size);go_wp2_with fail;refine HS.out.mono ?_;rintro e w5 ⟨rfl,h1,h2,h3⟩;have BT:Hid (Blk w5 w.heap.size 98 #[.string tx,.int .i64 ps,.int .i64 fr,.int .i64 tl]):=hX (zec h3 HM.out.2.1 (by omega) (by decide));have HB5:Hid (Below w.heap.size w w5):=hX (HM.out.2.2.2.trans h2);obtain ⟨c0,c1,c2,c3⟩:=yc3 BT.out;have f0:w5.frozen? ⟨w.heap.size,0,none⟩=false:=BT.out.frozen 0;clear h1 h2 h3
   obtain ⟨sx,hsx⟩:∃sx:ByteArray,sx=⟨(U j).toArray⟩:=⟨_,rfl⟩
   rw[←hsx];have HSX:Hid (sx=⟨(U j).toArray⟩):=hX hsx;have htl:sx.toList=U j:=by rw[zg9,hsx]
   have HTL:=hX htl;clear hsx htl;by_cases hne:U j=[]
   ·have HM0:Hid (MF=[]):=hX (by rw[HMF.out,if_pos hne]);have he:sx.toList.isEmpty=true:=by rw[HTL.out,hne];rfl
    clear hne;go_wp2_with fail;go_ret;rw[HM0.out];exact zl9 (HB5.out.setCell (p:=⟨w.heap.size,0,none⟩) (Nat.le_refl _) _)
   ·have HM0:Hid (MF=[sx]):=hX (by rw[HMF.out,if_neg hne,HSX.out]);have he:sx.toList.isEmpty=false:=by rw[HTL.out];cases hU:U j with | nil=>exact absurd hU hne | cons _ _=>rfl
    clear hne;go_wp2_with fail;go_ret;rw[HM0.out];exact zdm sx ps fr tl (HB5.out.setCell (p:=⟨w.heap.size,0,none⟩) (Nat.le_refl _) _) (by simp[World.setCell]) rfl
end Go.Proofs.YtplkbdncgkgppaaGreatDoor.Ana
end
section
namespace Go.Proofs.YtplkbdncgkgppaaGreatDoor.Ana
open Go.RowKit Go.Lib FoldP FoldNext AnaP Words Tree Kit Owned
def zq5 (R:Option (List TokD)) (w:World) (e:Ending) (w':World):Prop:=
 (R=none∧e = .returned (.tuple #[.slice none 0 0,.int .i64 84])∧Below w.heap.size w w')∨(∃ts ao c,R=some ts∧e = .returned (.tuple #[.slice ao ts.length c,.int .i64 0])∧w'.ownsRow w.heap.size 98 4 (.slice ao ts.length c) ts.length (zah ts)∧Below w.heap.size w w')
theorem zq6 {n:Int} {l acc:List TokD} {k:Nat} (h:k<l.length):zd3 n (l.drop k) acc=if 4096<(acc++znn n l[k]).length then none else zd3 n (l.drop (k+1)) (acc++znn n l[k]):=by
 rw[List.drop_eq_getElem_cons h];rfl
theorem zt5 {n:Int} {l acc:List TokD}:zd3 n (l.drop l.length) acc=some acc:=by rw[List.drop_length];rfl
theorem zz9 (n:Int) (t:TokD):(znn n t).length≤t.text.size+1:=by
 unfold znn;rw[List.length_map];exact zzc n t.text
theorem zgn {w:World} {B B':Nat} {e:TypeId} {m:Nat} {v:Value} {n:Nat} {xs:List Value} (h:w.ownsRow B e m v n xs) (hB:B'≤B):w.ownsRow B' e m v n xs:=by
 refine ⟨h.1,h.2.elim .inl fun ⟨g,cap,cur,hv,hb,hr⟩=>.inr ⟨g,cap,cur,hv,Nat.le_trans hB hb,hr⟩⟩
theorem zha {w:World} {B:Nat} {v:Value} {ts:List TokD} (h:w.ownsRow B 98 4 v ts.length (zah ts)):∃ao c,v = .slice ao ts.length c∧Reads w w.heap.size 4 ao ts.length (zah ts):=by
 obtain ⟨ao,c,rfl⟩:∃ao c,v = .slice ao ts.length c:=by
  rcases h.2 with ⟨rfl,h0⟩ | ⟨g',cap',cur,rfl,_⟩
  ·exact ⟨none,0,by rw[h0]⟩
  ·exact ⟨_,_,rfl⟩
 exact ⟨ao,c,rfl,Reads.of_own h⟩
theorem zhy (w:World) (n:Int) (F:FuncId) (caps:Array Value) (W0:World) (hE:∀args w,(callFunc F args).run Tryz.prog w = .ok (.enter F args) w) (hfd:Calls Tryz.prog 102 #[.int .i64 n] w fun e w'=>e = .returned (.func (.func F) #[] caps)∧W0=w') (hb0:Below w.heap.size w W0)
 (hF:∀(t:TokD) (W:World),t.text.size≤1048576→Below W0.heap.size W0 W→Calls Tryz.prog F (#[.agg #[.string t.text,.int .i64 t.pos,.int .i64 t.frm,.int .i64 t.til]]++caps) W (zi9 (znn n t) W)) (ao:Option Addr) (c:Nat) (toks:List TokD) (hk:Reads w w.heap.size 4 ao toks.length (zah toks)) (hl:toks.length≤1048576) (ht:∀t∈toks,t.text.size≤1048576)  :
 Calls Tryz.prog 70 #[.int .i64 n,.slice ao toks.length c] w (zq5 (zkf n toks) w):=by
 obtain ⟨i0,hi,hz0,hz1,hz2⟩:=info_parts zm9;have HF:=hX hF;have HFD:=hX hfd;have HW0:=hX hb0;have HK:=hX hk;have HT2:=hX ht;have HI1:=hX hi;have HI2:=hX hz0;have HI3:=hX hz1;have HI4:=hX hz2
 obtain ⟨R,hR⟩:∃R,zkf n toks=R:=⟨_,rfl⟩
 have HR:Hid (zd3 n (toks.drop 0) []=R):=hX hR;rw[hR];clear hk ht hfd hb0 hF hi hz0 hz1 hz2 hR;have hq:=yct;go_enter Tryz.func70,Tryz.ntmps70;go_wp2_with fail;refine HFD.out.mono ?_;rintro e w' ⟨rfl,rfl⟩;go_wp2_with fail;have HK0:=hX ((HK.out.below HW0.out).more HW0.out.size);clear hq;go_loopw [7,9,16] (fun o _ i wr=>∃(k:Nat) (acc:List TokD),k≤toks.length∧acc.length≤4096∧i = .int .i64 k∧Hid (wr.ownsRow W0.heap.size 98 4 o acc.length (zah acc))∧Hid (zd3 n (toks.drop k) acc=R)∧Hid (Below W0.heap.size W0 wr)) (fun _ _ i _=>toks.length - (RowKit.intOf i).toNat);case atStart=>exact ⟨0,[],by omega,by simp,rfl,hX (World.ownsRow_nil _ _ _ _),HR,hX (Below.refl _ _)⟩
 case round=>
  obtain ⟨k,acc,hkk,hacc,rfl,HO,HE,HW⟩:=hrel;have hzr:=HW.out.size;by_cases hlt:k<toks.length
  ·obtain ⟨ad,rfl,hba,c0,c1,c2,c3⟩:=zo6 HK0.out rfl hlt;rw[←HW.out.cell (by rw[zab];exact hba)] at c0;rw[←HW.out.cell (by show (ad.add (k*4)).block<_;rw[zab];exact hba)] at c1 c2 c3;have hab:(ad.add (k*4)).block<wr.heap.size:=by rw[zab];omega
   have htx:=HT2.out _ (List.getElem_mem hlt);have hol:=zz9 n toks[k];have HS:=hX (zq6 (n:=n) (acc:=acc) hlt);have HC:=hX (fun W hW=>HF.out toks[k] W htx hW);generalize toks[k]=t at *;obtain ⟨tx,ps,fr,tl⟩:=t;dsimp only at *
   obtain ⟨O,hO⟩:∃O,znn n ⟨tx,ps,fr,tl⟩=O:=⟨_,rfl⟩
   rw[hO] at HS HC hol;clear hO;go_wp2_with fail;refine (HC.out _ (HW.out.alloc hzr _)).mono ?_;rintro e w3 ⟨bo,bc,rfl,hrd,b3⟩;have ho3:=zbb (HO.out.alloc (.cells #[.string tx,.int .i64 ps,.int .i64 fr,.int .i64 tl] 98)) b3;have HB3:=hX ((HW.out.alloc hzr (.cells #[.string tx,.int .i64 ps,.int .i64 fr,.int .i64 tl] 98)).trans (b3.mono (by simp;omega)));have hz3:=HB3.out.size;have hi:=HI1.out;have hz0:=HI2.out;have hz1:=HI3.out;have hz2:=HI4.out;clear b3 c0 c1 c2 c3;go_wp2_with (at_builtin;refine zao _ rfl (.tmp 20) (.tmp 23) 94 rfl W0.heap.size 98 i0 (.agg #[.string ⟨#[]⟩,.int .i64 0,.int .i64 0,.int .i64 0]) 4 40 Tryz.underlying94 hi hz0 hz1 hz2 rfl (by decide) _ acc.length (zah acc) rfl ho3 w3.heap.size bo O.length bc (zah O) rfl hrd ?d1 ?d2 ?d3 ?d4 ?_);case d1=>intro u hu;exact zq1 hu
   case d2=>unfold maxLen;omega
   case d3=>omega
   case d4=>exact hz3
   intro v' w4 ho4 hg4 _;have hb4:Below W0.heap.size W0 w4:=HB3.out.grown hg4 hz3 (fun r e=>(ho3.lt r e).1);have HO4:Hid (w4.ownsRow W0.heap.size 98 4 v' (acc++O).length (zah (acc++O))):=hX (by rw[zdy,List.length_append];exact ho4);have HB4:=hX hb4;have HLN:Hid ((acc++O).length=acc.length+O.length):=hX List.length_append;obtain ⟨ao4,c4,rfl,_⟩:=zha HO4.out;have hll:=HLN.out;clear ho3 ho4 hg4 hb4 hrd hi hz0 hz1 hz2 hol;generalize hA:acc++O=A2 at *;clear hA hll HLN;by_cases hbig:4096<A2.length
   ·have HN:Hid (R=none):=hX (by rw[←HE.out,HS.out,if_pos hbig]);go_wp2_with fail;go_ret2;exact .inl ⟨HN.out,rfl,HW0.out.trans (HB4.out.mono HW0.out.size)⟩
   ·have HN:Hid (zd3 n (toks.drop (k+1)) A2=R):=hX (by rw[←HE.out,HS.out,if_neg hbig]);go_wp2_with fail;go_roundw;case rel=>exact ⟨k+1,A2,by omega,by omega,by go_num,HO4,HN,HB4⟩
    case measure=>simp[RowKit.intOf];omega
  ·obtain rfl:k=toks.length:=by omega
   have HN:Hid (R=some acc):=hX (by rw[←HE.out,zt5]);obtain ⟨ao4,c4,rfl,_⟩:=zha HO.out;go_wp2_with fail;go_ret2;exact .inr ⟨acc,ao4,c4,HN.out,rfl,zgn HO.out HW0.out.size,HW0.out.trans (HW.out.mono HW0.out.size)⟩
theorem yaa (n:Int) (h:zdb n=true) (ao:Option Addr) (c:Nat) (toks:List TokD) (w:World) (hk:Reads w w.heap.size 4 ao toks.length (zah toks)) (hl:toks.length≤1048576) (ht:∀t∈toks,t.text.size≤1048576) (hT:zdi w) :
 Calls Tryz.prog 70 #[.int .i64 n,.slice ao toks.length c] w (zq5 (zkf n toks) w):=by
 have h0:10≤n∧n≤15:=by unfold zdb at h;simpa using h
 have h1:n=10∨n=11∨n=14∨n=15∨n=12∨n=13:=by omega
 rcases h1 with rfl | rfl | rfl | rfl | h1
 ·exact zhy w 10 130 #[] w (enters_of Tryz.func130 (by kernel_rfl) rfl) (zwu w) (Below.refl _ _) (fun t W ht hW=>zt0 t W (by omega) (hT.next hW)) ao c toks hk hl ht
 ·exact zhy w 11 131 #[] w (enters_of Tryz.func131 (by kernel_rfl) rfl) (zwv w) (Below.refl _ _) (fun t W ht hW=>zxn t W) ao c toks hk hl ht
 ·exact zhy w 14 133 #[] w (enters_of Tryz.func133 (by kernel_rfl) rfl) (zwy w) (Below.refl _ _) (fun t W ht hW=>zt1 t W (by omega) (hT.next hW)) ao c toks hk hl ht
 ·exact zhy w 15 134 #[] w (enters_of Tryz.func134 (by kernel_rfl) rfl) (zwz w) (Below.refl _ _) (fun t W ht hW=>zt4 t W (by omega) (hT.next hW)) ao c toks hk hl ht
 ·have hg:∀m:Nat,m=2∨m=3→n=(m:Int)+10→Calls Tryz.prog 70 #[.int .i64 n,.slice ao toks.length c] w (zq5 (zkf n toks) w):=by
   rintro m hm rfl;have hb0:Below w.heap.size w (w.alloc (.cells #[.int .i64 m] 3)):=(Below.refl _ _).alloc (Nat.le_refl _) _;refine zhy w _ 162 #[.pointer (some ⟨w.heap.size,0,none⟩)] (w.alloc (.cells #[.int .i64 m] 3)) (enters_of Tryz.func162 (by kernel_rfl) rfl) (by rcases hm with rfl | rfl;exact (zww w).mono fun e w' h=>⟨h.1,h.2.symm⟩;exact (zwx w).mono fun e w' h=>⟨h.1,h.2.symm⟩) hb0 (fun t W ht hW=>?_) ao c toks hk hl ht;have e:znn ((m:Int)+10) t=(zgs m t.text).map (fun x=>({ t with text:=x }:TokD)):=by rcases hm with rfl | rfl <;> rfl
   rw[e];have hc:W.cell? ⟨w.heap.size,0,none⟩=some (.int .i64 ((m:Nat):Int)):=((Blk.new w 3 #[.int .i64 m]).below hW (by simp)).cell 0;exact zt3 m (by omega) t W w.heap.size (by omega) hc (by have:=hW.size;simp at this;omega) (hT.next (hb0.trans (hW.mono (by simp))))
  rcases h1 with h1 | h1
  ·exact hg 2 (.inl rfl) h1
  ·exact hg 3 (.inr rfl) h1
end Go.Proofs.YtplkbdncgkgppaaGreatDoor.Ana
end
