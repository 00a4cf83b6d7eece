/- Lemmas that the last text leans on. -/
import Derived.Test.YtigfcihakghddaaGreatDoorTake
import Derived.Test.YtigfcihakghddaaGreatDoorPack23
import Derived.Test.YtigfcihakghddaaGreatDoorPack22
import Derived.Deep.RegionHeld3
import Derived.Test.YtigfcihakghddaaGreatDoorPack13
import Derived.Test.YtigfcihakghddaaGreatDoorPack15
import Derived.Test.YtigfcihakghddaaGreatDoorPack4
set_option linter.all false
set_option maxRecDepth 100000
set_option maxHeartbeats 2000000
section
namespace Go.Proofs.YtigfcihakghddaaGreatDoor.Ana
open Go.RowKit Go.Lib FoldP FoldInts FoldForms FoldNext FoldIter FoldValid AnaP Words Tree Kit Owned SBuilder
theorem ints_blk {w:World} {B n:Nat} {v:Value} {l:List Nat} (h:w.ownsRow B 3 1 v n (l.map cellN)) (hn:0<n):∃g cap cur,v = .slice (some ⟨g,0,none⟩) n cap∧B≤g∧Blk w g 3 cur∧n≤cap∧cap≤maxLen∧∀(i p:Nat),l[i]?=some p→cur[i]?=some (.int .i64 (p:Int)):=by
 rcases h.2 with ⟨_,h0⟩ | ⟨g,cap,cur,rfl,hb,hg,hc,hm,hs,ht⟩
 ·omega
 ·refine ⟨g,cap,cur,rfl,hb,hg,hc,hm,fun i p hp=>?_⟩;have:=h.cells (g:=g) rfl i (cellN p) (by rw[List.getElem?_map,hp];rfl);have hadd:(⟨g,0,none⟩:Addr).add i=⟨g,i,none⟩:=by unfold Addr.add;split <;> simp_all
  rw[hadd,show w.cell? ⟨g,i,none⟩=cur[i]? from Blk.cell hg i] at this;exact this
theorem othersKept_blk {w w':World} {b g:Nat} {t:TypeId} {cs:Array Value} (h:Lib.OthersKept 5 (some b) w w') (hg:Blk w g t cs) (hn:g≠b) (ht:t≠5):Blk w' g t cs:=
 h g _ hg (by simpa using hn) (by intro c fz e;injection e with _ e _;exact ht e)
def MarkI (w:World) (g:Nat) (cur:Array Value) (tx:ByteArray) (ps fr tl:Int) (l:List UInt8) (W:World):Prop:=
 Lib.IsBuilderF 228 5 w.heap.size (w.heap.size+1) (byteCells l) W∧Blk W w.heap.size 179 #[.string tx,.int .i64 ps,.int .i64 fr,.int .i64 tl]∧Blk W g 3 cur∧Below w.heap.size w W
theorem MarkI.next {w W W':World} {g:Nat} {cur:Array Value} {tx:ByteArray} {ps fr tl:Int} {l:List UInt8} (h:MarkI w g cur tx ps fr tl l W) (hb:Below W.heap.size W W'):MarkI w g cur tx ps fr tl l W':=
 ⟨builder_kept h.1 (Words.only_of_below hb none) (fun r e=>by cases e),h.2.1.below hb h.2.1.lt,h.2.2.1.below hb h.2.2.1.lt,h.2.2.2.trans (hb.mono h.2.2.2.size)⟩
theorem marksT_any (t:TokD) (w:World) (hs:t.text.size≤1099511627776) (hT:Tabs w) :
 Calls Tryz.prog 143 #[.agg #[.string t.text,.int .i64 t.pos,.int .i64 t.frm,.int .i64 t.til]] w (TokRow ((marksF t.text).map (fun x=>({ t with text:=x }:TokD))) w):=by
 obtain ⟨tx,ps,fr,tl⟩:=t;dsimp only at *;have hnr:=nR_le tx.data.toList;have hlen:tx.data.toList.length=tx.size:=by simp
 rw[hlen] at hnr;have HC:Hid (∀W,Below w.heap.size w W→Calls Tryz.prog 151 #[.string tx] W (OwnInts (posL tx.data.toList) W)):=hX (fun W hW=>places_any tx W (by omega) (hT.next hW));have HPG:Hid (∀i,i≤nR tx.data.toList→(posL tx.data.toList)[i]?=some (posAt tx.data.toList i)):=hX (fun i h=>posAt_get _ i h);have HPM:Hid (∀i,i<nR tx.data.toList→posAt tx.data.toList i<posAt tx.data.toList (i+1)∧posAt tx.data.toList (i+1)≤tx.size):=hX (fun i h=>by have:=posAt_step tx.data.toList i h;rw[hlen] at this;exact this);have HPL:=hX (posL_len tx.data.toList);have HUS:=hX (unmarkTo_succ tx.data.toList);have HU0:Hid (unmarkTo tx.data.toList 0=[]):=hX rfl;have HUL:Hid (∀i,i≤nR tx.data.toList→(unmarkTo tx.data.toList i).length≤tx.size):=hX (fun i h=>by have:=unmarkTo_len tx.data.toList i h;have:=posAt_le tx.data.toList i;rw[hlen] at this;omega)
 have HND:Hid (∀i,i<nR tx.data.toList→∀W,Below w.heap.size w W→∃rr nn:Nat,rr≤1114111∧(unmark1 tx.data.toList i=if markF (rr:Int) then [] else (tx.data.toList.drop (posAt tx.data.toList i)).take (posAt tx.data.toList (i+1) - posAt tx.data.toList i))∧
  Calls Tryz.prog 202 #[.string tx,.int .i64 (posAt tx.data.toList i:Int)] W (PairBelow rr nn W)):=hX (fun i h W hW=>by
  have hp:=posAt_next tx.data.toList i h
  refine ⟨_,_,decodeL_rune (tx.data.toList.drop (posAt tx.data.toList i)),rfl,next_at tx _ W (by omega) (hT.next hW) (by rw[←hlen];exact hp.1) _ _ rfl⟩)
 have HMF:Hid (marksF tx=if unmarkTo tx.data.toList (nR tx.data.toList)=[] then [] else [⟨(unmarkTo tx.data.toList (nR tx.data.toList)).toArray⟩]):=hX rfl
 obtain ⟨MF,hMF⟩:∃MF,marksF tx=MF:=⟨_,rfl⟩
 rw[hMF] at HMF ⊢;clear hMF hT hlen;generalize hud:unmarkTo tx.data.toList=U at *;clear hud;generalize hu1:unmark1 tx.data.toList=U1 at *;clear hu1;generalize nR tx.data.toList=n at *;generalize hP:posAt tx.data.toList=P at *;clear hP;generalize posL tx.data.toList=pl at *;go_enter Tryz.func143,Tryz.ntmps143;go_wp2_with fail;refine (HC.out _ (((Below.refl _ _).alloc (Nat.le_refl _) _).alloc (by simp) _)).mono ?_;rintro e w1 ⟨v,rfl,hv,b1⟩;obtain ⟨g,cap,cur,rfl,hg1,hg2,hc1,hc2,hcell⟩:=ints_blk hv (by rw[HPL.out];omega);have HB1:=hX ((((Below.refl _ w).alloc (Nat.le_refl _) _).alloc (by simp) _).trans (b1.mono (by simp;omega)));have BK:=hX (((Blk.new w 179 #[.string tx,.int .i64 ps,.int .i64 fr,.int .i64 tl]).alloc _).below b1 (by simp;omega));have hw1:w.heap.size+2≤w1.heap.size:=by have:=b1.size;simpa using this
 have hgN:w.heap.size+2≤g:=by simpa using hg1
 have hbd:Lib.IsBuilderF 228 5 w.heap.size (w.heap.size+1) (byteCells []) w1:=by
  refine builder_kept (W:=(w.alloc (.cells #[.string tx,.int .i64 ps,.int .i64 fr,.int .i64 tl] 179)).alloc (.cells #[.pointer none,.slice none 0 0] 228)) (.inl ⟨by omega,.slice none 0 0,?_,?_,by simp[Value.ownBlock]⟩) (Words.only_of_below b1 none) (fun r e=>by cases e)
  ·have:=heap_alloc_new (w.alloc (.cells #[.string tx,.int .i64 ps,.int .i64 fr,.int .i64 tl] 179)) (.cells #[.pointer none,.slice none 0 0] 228);simpa using this
  ·exact World.ownsRowF_of (World.ownsRow_nil _ _ _ _)
 have HI0:Hid (MarkI w g cur tx ps fr tl [] w1):=hX ⟨hbd,BK.out,hg2,HB1.out⟩;have HCE:=hX hcell;have hglt:=hg2.lt;rw[HPL.out] at hc1 ⊢;unfold maxLen at hc2;clear b1 hv hcell hbd hg2;go_wp2_with fail;go_loopw [14] (fun i wr=>∃j:Nat,j≤n∧i = .int .i64 j∧Hid (MarkI w g cur tx ps fr tl (U j) wr)) (fun i _=>n - (RowKit.intOf i).toNat);case atStart=>exact ⟨0,by omega,rfl,hX (by rw[HU0.out];exact HI0.out)⟩
 case round=>
  obtain ⟨j,hj,rfl,HM⟩:=hrel;by_cases hlt:j<n
  ·obtain ⟨rr,nn,hrr,hU1,hN⟩:=HND.out j hlt wr.drew (HM.out.2.2.2.trans ⟨rfl,rfl,rfl,Nat.le_refl _,fun _ _=>rfl⟩);have HU1:=hX hU1;have HN:=hX hN;have HD:Hid (MarkI w g cur tx ps fr tl (U j) wr.drew):=hX (HM.out.next ⟨rfl,rfl,rfl,Nat.le_refl _,fun _ _=>rfl⟩);have SF:Hid (∀w',MarkI w g cur tx ps fr tl (U j) w'→w'.cell? ⟨w.heap.size,0,none⟩=some (.string tx)∧w'.cell? ⟨g,j,none⟩=some (.int .i64 (P j:Int))):=hX (fun w' h=>⟨h.2.1.cell 0,(h.2.2.1.cell j).trans (HCE.out j _ (HPG.out j (by omega)))⟩);clear hU1 hN;go_upto_region 6 with fail;have hx1:(j:Int)<(n:Int)+1:=by omega
   go_region_held3 (fun w'=>Hid (MarkI w g cur tx ps fr tl (U j) w')∧w'.cell? ⟨w.heap.size,0,none⟩=some (.string tx)∧w'.cell? ⟨g,j,none⟩=some (.int .i64 (P j:Int)))
    (first | exact ⟨HM3,SF.out _ HM3.out⟩ | exact ⟨HD,SF.out _ HD.out⟩)
    (first
      | (go_at_call 202;refine HN.out.mono ?_;rintro e w2 ⟨rfl,b2⟩;have HM3:=hX (HD.out.next b2);clear b2))
   clear SF HD
   cases hmk:markF (rr:Int) with
   | true=>
    have HE:Hid (U (j+1)=U j):=hX (by rw[HUS.out,HU1.out,hmk];simp);have HK:Hid (Calls Tryz.prog 203 #[.int .i32 (rr:Int)] w2 (BoolRet true w2)):=hX (by rw[←hmk];exact mark_any _ _);clear hmk;go_wp2_with fail;refine HK.out.mono ?_;rintro e w3 ⟨rfl,rfl⟩;go_wp2_with fail;go_roundw;case rel=>exact ⟨j+1,by omega,by go_num,hX (by rw[HE.out];exact HM3.out)⟩
    case measure=>simp[RowKit.intOf];omega
   | false=>
    have HE:Hid (U (j+1)=U j++(tx.data.toList.drop (P j)).take (P (j+1) - P j)):=hX (by rw[HUS.out,HU1.out,hmk];simp);have HK:Hid (Calls Tryz.prog 203 #[.int .i32 (rr:Int)] w2 (BoolRet false w2)):=hX (by rw[←hmk];exact mark_any _ _);clear hmk;go_wp2_with fail;refine HK.out.mono ?_;rintro e w3 ⟨rfl,rfl⟩;go_upto_region 8 with fail;have HM4:Hid (MarkI w g cur tx ps fr tl (U j) ({ w2 with drawn:=w2.drawn+1 }:World)):=hX (HM3.out.next ⟨rfl,rfl,rfl,Nat.le_refl _,fun _ _=>rfl⟩);refine wp_region_still_tail 12 (by kernel_rfl) (by kernel_rfl) ?_;simp only[List.take_succ_cons,List.take_zero,List.drop_succ_cons,List.drop_zero];generalize ({ w2 with drawn:=w2.drawn+1 }:World)=W4 at *;obtain ⟨hpm1,hpm2⟩:=HPM.out j hlt;have c0:W4.cell? ⟨w.heap.size,0,none⟩=some (.string tx):=HM4.out.2.1.cell 0;have cp:W4.cell? ⟨g,j,none⟩=some (.int .i64 (P j:Int)):=(HM4.out.2.2.1.cell j).trans (HCE.out j _ (HPG.out j (by omega)));have cq:W4.cell? ⟨g,j+1,none⟩=some (.int .i64 (P (j+1):Int)):=(HM4.out.2.2.1.cell (j+1)).trans (HCE.out (j+1) _ (HPG.out (j+1) (by omega)));have hx2:(j:Int)+1<(n:Int)+1:=by omega
    have hx3:(P j:Int)≤(P (j+1):Int):=by omega
    have hx4:(P (j+1):Int)≤(tx.size:Int):=by omega
    have hy3:((j:Int)+1).toNat=j+1:=by omega
    have hy2:0≤(j:Int)+1:=by omega
    have hul:=HUL.out j (by omega);have hy1:IntKind.i64.wrap ((j:Int)+1)=(j:Int)+1:=IntWalk.i64_in _ (by omega);repeat still_step
    clear hy1 hy2 hy3;refine wpStill_nil ?_;change wpList _ _ _ _ _ _;clear c0 cp cq;have hsx:(tx.extract (P j) (P (j+1))).size=P (j+1) - P j:=by simp;omega
    have hbl:(byteCells (U j)).length+(tx.extract (P j) (P (j+1))).size≤140737488355328:=by rw[byteCells_length,hsx];omega
    have HW:Hid _:=hX (writeString_any w.heap.size (w.heap.size+1) (byteCells (U j)) (tx.extract (P j) (P (j+1))) W4 HM4.out.1 hbl HM4.out.2.2.2.size);clear hbl hsx;go_wp2_with fail;refine HW.out.mono ?_;rintro e w5 ⟨rfl,h1,h2,h3⟩
    have HM5:Hid (MarkI w g cur tx ps fr tl (U (j+1)) w5):=hX (by
     refine ⟨?_,othersKept_blk h3 HM4.out.2.1 (by omega) (by decide),othersKept_blk h3 HM4.out.2.2.1 (by omega) (by decide),HM4.out.2.2.2.trans h2⟩;rw[HE.out,byteCells_append]
     have hcells:strCells (tx.extract (P j) (P (j+1)))=byteCells ((tx.data.toList.drop (P j)).take (P (j+1) - P j)):=(by rw[strCells_eq,extract_data])
     rw[←hcells]
     exact .inr h1)
    clear h1 h2 h3;go_wp2_with fail;go_roundw;case rel=>exact ⟨j+1,by omega,by go_num,HM5⟩
    case measure=>simp[RowKit.intOf];omega
  ·obtain rfl:j=n:=by omega
   have HS:=hX (Tryz.Builder_String_any_k w.heap.size (w.heap.size+1) (U j) wr HM.out.1 HM.out.2.2.2.size);go_wp2_with fail;refine HS.out.mono ?_;rintro e w5 ⟨rfl,h1,h2,h3⟩;have BT:Hid (Blk w5 w.heap.size 179 #[.string tx,.int .i64 ps,.int .i64 fr,.int .i64 tl]):=hX (othersKept_blk h3 HM.out.2.1 (by omega) (by decide));have HB5:Hid (Below w.heap.size w w5):=hX (HM.out.2.2.2.trans h2);obtain ⟨c0,c1,c2,c3⟩:=blk4 BT.out;have f0:w5.frozen? ⟨w.heap.size,0,none⟩=false:=BT.out.frozen 0;clear h1 h2 h3
   obtain ⟨sx,hsx⟩:∃sx:ByteArray,sx=⟨(U j).toArray⟩:=⟨_,rfl⟩
   rw[←hsx];have HSX:Hid (sx=⟨(U j).toArray⟩):=hX hsx;have htl:sx.toList=U j:=by rw[toList_data,hsx]
   have HTL:=hX htl;clear hsx htl;by_cases hne:U j=[]
   ·have HM0:Hid (MF=[]):=hX (by rw[HMF.out,if_pos hne]);have he:sx.toList.isEmpty=true:=by rw[HTL.out,hne];rfl
    clear hne;go_wp2_with fail;go_ret;rw[HM0.out];exact tokRow_nil (HB5.out.setCell (p:=⟨w.heap.size,0,none⟩) (Nat.le_refl _) _)
   ·have HM0:Hid (MF=[sx]):=hX (by rw[HMF.out,if_neg hne,HSX.out]);have he:sx.toList.isEmpty=false:=by rw[HTL.out];cases hU:U j with | nil=>exact absurd hU hne | cons _ _=>rfl
    clear hne;go_wp2_with fail;go_ret;rw[HM0.out];exact tokRow_one sx ps fr tl (HB5.out.setCell (p:=⟨w.heap.size,0,none⟩) (Nat.le_refl _) _) (by simp[World.setCell]) rfl
end Go.Proofs.YtigfcihakghddaaGreatDoor.Ana
end
section
namespace Go.Proofs.YtigfcihakghddaaGreatDoor.Ana
open Go.RowKit Go.Lib FoldP FoldNext AnaP Words Tree Kit Owned
def LinkRet (R:Option (List TokD)) (w:World) (e:Ending) (w':World):Prop:=
 (R=none∧e = .returned (.tuple #[.slice none 0 0,.int .i64 84])∧Below w.heap.size w w')∨(∃ts ao c,R=some ts∧e = .returned (.tuple #[.slice ao ts.length c,.int .i64 0])∧w'.ownsRow w.heap.size 179 4 (.slice ao ts.length c) ts.length (tokCells ts)∧Below w.heap.size w w')
theorem linkGo_step {n:Int} {l acc:List TokD} {k:Nat} (h:k<l.length):linkGo n (l.drop k) acc=if 4096<(acc++oneT n l[k]).length then none else linkGo n (l.drop (k+1)) (acc++oneT n l[k]):=by
 rw[List.drop_eq_getElem_cons h];rfl
theorem linkGo_end {n:Int} {l acc:List TokD}:linkGo n (l.drop l.length) acc=some acc:=by rw[List.drop_length];rfl
theorem oneT_len (n:Int) (t:TokD):(oneT n t).length≤t.text.size+1:=by
 unfold oneT;rw[List.length_map];exact oneF_len n t.text
theorem own_base {w:World} {B B':Nat} {e:TypeId} {m:Nat} {v:Value} {n:Nat} {xs:List Value} (h:w.ownsRow B e m v n xs) (hB:B'≤B):w.ownsRow B' e m v n xs:=by
 refine ⟨h.1,h.2.elim .inl fun ⟨g,cap,cur,hv,hb,hr⟩=>.inr ⟨g,cap,cur,hv,Nat.le_trans hB hb,hr⟩⟩
theorem reads_slice {w:World} {B:Nat} {v:Value} {ts:List TokD} (h:w.ownsRow B 179 4 v ts.length (tokCells ts)):∃ao c,v = .slice ao ts.length c∧Reads w w.heap.size 4 ao ts.length (tokCells ts):=by
 obtain ⟨ao,c,rfl⟩:∃ao c,v = .slice ao ts.length c:=by
  rcases h.2 with ⟨rfl,h0⟩ | ⟨g',cap',cur,rfl,_⟩
  ·exact ⟨none,0,by rw[h0]⟩
  ·exact ⟨_,_,rfl⟩
 exact ⟨ao,c,rfl,Reads.of_own h⟩
theorem link_gen (w:World) (n:Int) (F:FuncId) (caps:Array Value) (W0:World) (hE:∀args w,(callFunc F args).run Tryz.prog w = .ok (.enter F args) w) (hfd:Calls Tryz.prog 120 #[.int .i64 n] w fun e w'=>e = .returned (.func (.func F) #[] caps)∧W0=w') (hb0:Below w.heap.size w W0)
 (hF:∀(t:TokD) (W:World),t.text.size≤1048576→Below W0.heap.size W0 W→Calls Tryz.prog F (#[.agg #[.string t.text,.int .i64 t.pos,.int .i64 t.frm,.int .i64 t.til]]++caps) W (TokRow (oneT n t) W)) (ao:Option Addr) (c:Nat) (toks:List TokD) (hk:Reads w w.heap.size 4 ao toks.length (tokCells toks)) (hl:toks.length≤1048576) (ht:∀t∈toks,t.text.size≤1048576)  :
 Calls Tryz.prog 123 #[.int .i64 n,.slice ao toks.length c] w (LinkRet (linkF n toks) w):=by
 obtain ⟨i0,hi,hz0,hz1,hz2⟩:=info_parts infoTok;have HF:=hX hF;have HFD:=hX hfd;have HW0:=hX hb0;have HK:=hX hk;have HT2:=hX ht;have HI1:=hX hi;have HI2:=hX hz0;have HI3:=hX hz1;have HI4:=hX hz2
 obtain ⟨R,hR⟩:∃R,linkF n toks=R:=⟨_,rfl⟩
 have HR:Hid (linkGo n (toks.drop 0) []=R):=hX hR;rw[hR];clear hk ht hfd hb0 hF hi hz0 hz1 hz2 hR;have hq:=eql_fnF;go_enter Tryz.func123,Tryz.ntmps123;go_wp2_with fail;refine HFD.out.mono ?_;rintro e w' ⟨rfl,rfl⟩;go_wp2_with fail;have HK0:=hX ((HK.out.below HW0.out).more HW0.out.size);clear hq;go_loopw [7,9,16] (fun o _ i wr=>∃(k:Nat) (acc:List TokD),k≤toks.length∧acc.length≤4096∧i = .int .i64 k∧Hid (wr.ownsRow W0.heap.size 179 4 o acc.length (tokCells acc))∧Hid (linkGo n (toks.drop k) acc=R)∧Hid (Below W0.heap.size W0 wr)) (fun _ _ i _=>toks.length - (RowKit.intOf i).toNat);case atStart=>exact ⟨0,[],by omega,by simp,rfl,hX (World.ownsRow_nil _ _ _ _),HR,hX (Below.refl _ _)⟩
 case round=>
  obtain ⟨k,acc,hkk,hacc,rfl,HO,HE,HW⟩:=hrel;have hzr:=HW.out.size;by_cases hlt:k<toks.length
  ·obtain ⟨ad,rfl,hba,c0,c1,c2,c3⟩:=reads_tok HK0.out rfl hlt;rw[←HW.out.cell (by rw[block_of_add];exact hba)] at c0;rw[←HW.out.cell (by show (ad.add (k*4)).block<_;rw[block_of_add];exact hba)] at c1 c2 c3;have hab:(ad.add (k*4)).block<wr.heap.size:=by rw[block_of_add];omega
   have htx:=HT2.out _ (List.getElem_mem hlt);have hol:=oneT_len n toks[k];have HS:=hX (linkGo_step (n:=n) (acc:=acc) hlt);have HC:=hX (fun W hW=>HF.out toks[k] W htx hW);generalize toks[k]=t at *;obtain ⟨tx,ps,fr,tl⟩:=t;dsimp only at *
   obtain ⟨O,hO⟩:∃O,oneT n ⟨tx,ps,fr,tl⟩=O:=⟨_,rfl⟩
   rw[hO] at HS HC hol;clear hO;go_wp2_with fail;refine (HC.out _ (HW.out.alloc hzr _)).mono ?_;rintro e w3 ⟨bo,bc,rfl,hrd,b3⟩;have ho3:=own_below (HO.out.alloc (.cells #[.string tx,.int .i64 ps,.int .i64 fr,.int .i64 tl] 179)) b3;have HB3:=hX ((HW.out.alloc hzr (.cells #[.string tx,.int .i64 ps,.int .i64 fr,.int .i64 tl] 179)).trans (b3.mono (by simp;omega)));have hz3:=HB3.out.size;have hi:=HI1.out;have hz0:=HI2.out;have hz1:=HI3.out;have hz2:=HI4.out;clear b3 c0 c1 c2 c3;go_wp2_with (at_builtin;refine wpList_append_any _ rfl (.tmp 20) (.tmp 23) 156 rfl W0.heap.size 179 i0 (.agg #[.string ⟨#[]⟩,.int .i64 0,.int .i64 0,.int .i64 0]) 4 40 Tryz.underlying156 hi hz0 hz1 hz2 rfl (by decide) _ acc.length (tokCells acc) rfl ho3 w3.heap.size bo O.length bc (tokCells O) rfl hrd ?d1 ?d2 ?d3 ?d4 ?_);case d1=>intro u hu;exact tok_one hu
   case d2=>unfold maxLen;omega
   case d3=>omega
   case d4=>exact hz3
   intro v' w4 ho4 hg4 _;have hb4:Below W0.heap.size W0 w4:=HB3.out.grown hg4 hz3 (fun r e=>(ho3.lt r e).1);have HO4:Hid (w4.ownsRow W0.heap.size 179 4 v' (acc++O).length (tokCells (acc++O))):=hX (by rw[tokCells_append,List.length_append];exact ho4);have HB4:=hX hb4;have HLN:Hid ((acc++O).length=acc.length+O.length):=hX List.length_append;obtain ⟨ao4,c4,rfl,_⟩:=reads_slice HO4.out;have hll:=HLN.out;clear ho3 ho4 hg4 hb4 hrd hi hz0 hz1 hz2 hol;generalize hA:acc++O=A2 at *;clear hA hll HLN;by_cases hbig:4096<A2.length
   ·have HN:Hid (R=none):=hX (by rw[←HE.out,HS.out,if_pos hbig]);go_wp2_with fail;go_ret2;exact .inl ⟨HN.out,rfl,HW0.out.trans (HB4.out.mono HW0.out.size)⟩
   ·have HN:Hid (linkGo n (toks.drop (k+1)) A2=R):=hX (by rw[←HE.out,HS.out,if_neg hbig]);go_wp2_with fail;go_roundw;case rel=>exact ⟨k+1,A2,by omega,by omega,by go_num,HO4,HN,HB4⟩
    case measure=>simp[RowKit.intOf];omega
  ·obtain rfl:k=toks.length:=by omega
   have HN:Hid (R=some acc):=hX (by rw[←HE.out,linkGo_end]);obtain ⟨ao4,c4,rfl,_⟩:=reads_slice HO.out;go_wp2_with fail;go_ret2;exact .inr ⟨acc,ao4,c4,HN.out,rfl,own_base HO.out HW0.out.size,HW0.out.trans (HW.out.mono HW0.out.size)⟩
theorem link_any (n:Int) (h:filterB n=true) (ao:Option Addr) (c:Nat) (toks:List TokD) (w:World) (hk:Reads w w.heap.size 4 ao toks.length (tokCells toks)) (hl:toks.length≤1048576) (ht:∀t∈toks,t.text.size≤1048576) (hT:Tabs w) :
 Calls Tryz.prog 123 #[.int .i64 n,.slice ao toks.length c] w (LinkRet (linkF n toks) w):=by
 have h0:10≤n∧n≤15:=by unfold filterB at h;simpa using h
 have h1:n=10∨n=11∨n=14∨n=15∨n=12∨n=13:=by omega
 rcases h1 with rfl | rfl | rfl | rfl | h1
 ·exact link_gen w 10 139 #[] w (enters_of Tryz.func139 (by kernel_rfl) rfl) (find_10 w) (Below.refl _ _) (fun t W ht hW=>lowerT_any t W (by omega) (hT.next hW)) ao c toks hk hl ht
 ·exact link_gen w 11 140 #[] w (enters_of Tryz.func140 (by kernel_rfl) rfl) (find_11 w) (Below.refl _ _) (fun t W ht hW=>stopT_any t W) ao c toks hk hl ht
 ·exact link_gen w 14 142 #[] w (enters_of Tryz.func142 (by kernel_rfl) rfl) (find_14 w) (Below.refl _ _) (fun t W ht hW=>shortT_any t W (by omega) (hT.next hW)) ao c toks hk hl ht
 ·exact link_gen w 15 143 #[] w (enters_of Tryz.func143 (by kernel_rfl) rfl) (find_15 w) (Below.refl _ _) (fun t W ht hW=>marksT_any t W (by omega) (hT.next hW)) ao c toks hk hl ht
 ·have hg:∀m:Nat,m=2∨m=3→n=(m:Int)+10→Calls Tryz.prog 123 #[.int .i64 n,.slice ao toks.length c] w (LinkRet (linkF n toks) w):=by
   rintro m hm rfl;have hb0:Below w.heap.size w (w.alloc (.cells #[.int .i64 m] 3)):=(Below.refl _ _).alloc (Nat.le_refl _) _;refine link_gen w _ 201 #[.pointer (some ⟨w.heap.size,0,none⟩)] (w.alloc (.cells #[.int .i64 m] 3)) (enters_of Tryz.func201 (by kernel_rfl) rfl) (by rcases hm with rfl | rfl;exact (find_12 w).mono fun e w' h=>⟨h.1,h.2.symm⟩;exact (find_13 w).mono fun e w' h=>⟨h.1,h.2.symm⟩) hb0 (fun t W ht hW=>?_) ao c toks hk hl ht;have e:oneT ((m:Int)+10) t=(gramsF m t.text).map (fun x=>({ t with text:=x }:TokD)):=by rcases hm with rfl | rfl <;> rfl
   rw[e];have hc:W.cell? ⟨w.heap.size,0,none⟩=some (.int .i64 ((m:Nat):Int)):=((Blk.new w 3 #[.int .i64 m]).below hW (by simp)).cell 0;exact gramsT_any m (by omega) t W w.heap.size (by omega) hc (by have:=hW.size;simp at this;omega) (hT.next (hb0.trans (hW.mono (by simp))))
  rcases h1 with h1 | h1
  ·exact hg 2 (.inl rfl) h1
  ·exact hg 3 (.inr rfl) h1
end Go.Proofs.YtigfcihakghddaaGreatDoor.Ana
end
section
namespace Go.Proofs.YtigfcihakghddaaGreatDoor.Sch
open Go.RowKit Words Tree SchP Kit Owned AnaP
theorem neqz (a b:Int):(a=b∧(a != b)=false)∨(a≠b∧(a != b)=true):=by
 by_cases h:a=b
 ·exact .inl ⟨h,by simpa using h⟩
 ·exact .inr ⟨h,by simpa using h⟩
theorem own_sl {w:World} {B n m:Nat} {e:TypeId} {v:Value} {xs:List Value} (h:w.ownsRow B e m v n xs):∃a c,v = .slice a n c:=by
 rcases h.2 with ⟨rfl,rfl⟩ | ⟨g,cap,cur,rfl,_⟩
 ·exact ⟨none,0,rfl⟩
 ·exact ⟨_,_,rfl⟩
theorem own_from {w:World} {B B' n m:Nat} {e:TypeId} {v:Value} {xs:List Value} (h:w.ownsRow B e m v n xs) (hB:B'≤B):w.ownsRow B' e m v n xs:=by
 refine ⟨h.1,h.2.elim .inl fun ⟨g,cap,cur,hv,h1,h2,h3⟩=>.inr ⟨g,cap,cur,hv,Nat.le_trans hB h1,h2,h3⟩⟩
def OwnT (ts:List TokD) (w:World) (e:Ending) (w':World):Prop:=∃ao c,e = .returned (.slice ao ts.length c)∧w'.ownsRow w.heap.size 179 4 (.slice ao ts.length c) ts.length (tokCells ts)∧Below w.heap.size w w'
theorem ownT_none {w w':World} (hb:Below w.heap.size w w'):OwnT [] w (.returned (.slice none 0 0)) w':=⟨none,0,rfl,World.ownsRow_nil _ _ _ _,hb⟩
def ToksSt (W1:World) (f:FT) (i:Nat) (cs:List CT) (R:List TokD) (k:Nat) (o:Value) (wr:World):Prop:=
 ∃out,toksGo (runTk f) i out (cs.drop k)=R∧ToksOk k out∧wr.ownsRow W1.heap.size 179 4 o out.length (tokCells out)∧Below W1.heap.size W1 wr
structure AddSt (B m5:Nat) (W6:World) (out ts:List TokD) (b:Int) (j:Nat) (o:Value) (wr:World):Prop where
 own:wr.ownsRow B 179 4 o (out.length+j) (tokCells (out++(shiftP b ts).take j))
 far:∀g,o.ownBlock=some g→g<m5∨W6.heap.size≤g
 but:But (fun g=>B≤g∧(g<m5∨W6.heap.size≤g)) W6 wr
theorem tok4 {w:World} {g:Nat} {t:TypeId} {v0 v1 v2 v3:Value} (h:Blk w g t #[v0,v1,v2,v3]) :
 w.cell? ⟨g,0,none⟩=some v0∧w.cell? ⟨g,1,none⟩=some v1∧w.cell? ⟨g,2,none⟩=some v2∧w.cell? ⟨g,3,none⟩=some v3:=
 ⟨h.cell 0,h.cell 1,h.cell 2,h.cell 3⟩
end Go.Proofs.YtigfcihakghddaaGreatDoor.Sch
end
