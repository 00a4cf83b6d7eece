/- Lemmas that the last text leans on. -/
import Derived.Test.YtigfcihakghddaaGreatDoorTake
import Derived.Test.YtigfcihakghddaaGreatDoorPack14
import Derived.Test.YtigfcihakghddaaGreatDoorPack25
import Derived.Test.YtigfcihakghddaaGreatDoorPack24
import Derived.Test.YtigfcihakghddaaGreatDoorPack7
import Derived.RangeFuncBox
import Derived.Deep.RegionHeld3
import Derived.Deep.AppendLies
import Derived.StillTactics
import Derived.WalkSpells
set_option linter.all false
set_option maxRecDepth 100000
set_option maxHeartbeats 4000000
section
namespace Go.Proofs.YtigfcihakghddaaGreatDoor.Sch
open Go.RowKit Words Tree SchP Kit Owned AnaP
theorem find_self {l:List FT} {k:Nat} (h:k<l.length):∃j:Nat,j≤k∧findZ l l[k].name=j∧firstB l k=decide (j=k):=by
 cases hf:findF l l[k].name with
 | none=>exact absurd rfl (findF_none hf _ (List.getElem_mem h))
 | some j=>
  obtain ⟨h1,h2,h3⟩:=findF_some hf;refine ⟨j,?_,by rw[findZ_eq,hf];rfl,?_⟩
  ·rcases Nat.lt_or_ge k j with h4 | h4
   ·exact absurd rfl (h3 k h4)
   ·exact h4
  ·rw[first_find h,hf];simp
theorem checkS_any (u:Value) (l:List FT) (w:World) (hu:T.At bare w (fun g=>g<w.heap.size) (fieldsT l) u) (hl:l.length*72≤140737488351232) (hf:∀f∈l,FOk f) :
 Calls Tryz.prog 34 #[.agg #[u]] w (IntB (errS (checkS l)) w):=by
 have HFI:=hX (fun (s:ByteArray) (W:World) (hW:Below w.heap.size w W)=>find_any u l s W (At.below hu hW (fun g hg=>Nat.lt_of_lt_of_le hg hW.size)) hl);obtain ⟨A,cap,rfl,hc,hm,hel⟩:=at_row fcells_len hu;have EL:=hX hel;have HF:=hX hf
 obtain ⟨r,hr⟩:∃r,checkS l=r:=⟨_,rfl⟩
 have HR:=hX hr;rw[hr];clear hel hu hf hr
 rcases (show l.length=0∨16<l.length∨(1≤l.length∧l.length≤16) by omega) with h0 | h0 | ⟨h0,h1⟩
 ·have HRF:Hid (r=false):=hX (by rw[←HR.out,checkS,h0];simp);rw[h0];clear EL HFI HF HR;go_enter Tryz.func34,Tryz.ntmps34;go_wp2_with fail;go_ret;rw[HRF.out];exact ⟨rfl,(Below.refl _ _).alloc (Nat.le_refl _) _⟩
 ·have HRF:Hid (r=false):=hX (by rw[←HR.out,checkS];simp;omega);have h2:¬l.length<1:=by omega
  have a1:decide ((l.length:Int)<1)=false:=by rw[decide_eq_false_iff_not];omega
  have a2:decide ((16:Int)<l.length)=true:=by rw[decide_eq_true_iff];omega
  go_enter Tryz.func34,Tryz.ntmps34;go_wp2_with fail;go_ret;rw[HRF.out];exact ⟨rfl,(Below.refl _ _).alloc (Nat.le_refl _) _⟩
 have HRQ:Hid (r=okTo l l.length):=hX (by rw[←HR.out,checkS,decide_eq_true h0,decide_eq_true h1];simp);have a1:decide ((l.length:Int)<1)=false:=by rw[decide_eq_false_iff_not];omega
 have a2:decide ((16:Int)<l.length)=false:=by rw[decide_eq_false_iff_not];omega
 clear HR;go_enter Tryz.func34,Tryz.ntmps34;go_wp2_with fail;have HB:=hX ((Below.refl _ w).alloc (Nat.le_refl _) (Obj.cells #[.slice A l.length cap] 24));have BA:=hX (Blk.new w 24 #[.slice A l.length cap]);have hzW:(w.alloc (Obj.cells #[.slice A l.length cap] 24)).heap.size=w.heap.size+1:=by simp
 generalize w.alloc (Obj.cells #[.slice A l.length cap] 24)=W at *;go_loopw [20] (fun i wr=>∃k:Nat,k≤l.length∧i = .int .i64 k∧Hid (okTo l k=true)∧Hid (Below W.heap.size W wr)) (fun i _=>l.length - (intOf i).toNat);case atStart=>exact ⟨0,by omega,rfl,hX (okTo_zero l),hX (Below.refl _ _)⟩
 case round=>
  obtain ⟨k,hkk,rfl,HK,HW⟩:=hrel;have BA2:=hX (BA.out.below HW.out (by omega));have hcA:wr.cell? ⟨w.heap.size,0,none⟩=some (.slice A l.length cap):=BA2.out.cell 0;have hzr:=HW.out.size;have HWW:Hid (Below w.heap.size w wr):=hX (HB.out.trans (HW.out.mono HB.out.size));by_cases hlt:k<l.length
  ·obtain ⟨ad,us,rfl,hba,au,lu,cu⟩:=EL.out k hlt;replace cu:=cu.keep (w':=wr) (fun p hp=>HWW.out.cell (by rw[hp,block_of_add];exact hba));have hab:(ad.add (k*7)).block<wr.heap.size:=by rw[block_of_add];omega
   have hok:=HF.out _ (List.getElem_mem hlt);have HS:Hid (okTo l (k+1)=(firstB l k && mayB l[k])):=hX (by rw[okTo_succ,HK.out,okAt_eq hlt];simp);have HNO:Hid ((firstB l k && mayB l[k])=false→r=false):=hX (fun h=>by rw[HRQ.out];exact okTo_no (by rw[okAt_eq hlt];exact h) hlt);obtain ⟨j,hjk,hfz,hfb⟩:=find_self hlt;rw[hfb] at HS HNO;generalize l[k]=f at *;obtain ⟨vc,rfl,gc⟩:=at_fcells au;have HM:=hX (fun (V:World) (hV:Below w.heap.size w V)=>may_any f vc V (At.below gc hV (fun g hg=>Nat.lt_of_lt_of_le hg hV.size)) hok);obtain ⟨X,z,rfl,_,_⟩:=at_slice gc;have HFC:=hX (fun (V:World) (hV:Below w.heap.size w V)=>HFI.out f.name V hV);rw[hfz] at HFC;obtain ⟨a0,a1',a2',a3,a4,a5,a6⟩:=seven cu;clear cu au lu gc hok hfz hfb;obtain ⟨f0,f1,f2,f3,f4,f5,f6⟩:=f;dsimp only at *;have hw1:w.heap.size<wr.heap.size:=by omega
   obtain ⟨b,hb⟩:∃b,mayB ⟨f0,f1,f2,f3,f4,f5,f6⟩=b:=⟨_,rfl⟩
   rw[hb] at HM HS HNO;clear hb;go_wp2_with fail;refine (HFC.out _ (HWW.out.alloc HWW.out.size _)).mono ?_;rintro e W1 ⟨rfl,b1⟩;have HB1:=hX (((Below.refl _ wr).alloc (Nat.le_refl _) _).trans (b1.mono (by simp)):Below wr.heap.size wr W1);have BF:=hX ((Blk.new wr _ _).below b1 (by simp));obtain ⟨p0,p1,p2,p3,p4,p5,p6⟩:=blk7 BF.out;have hmx:max 0 (j:Int)=j:=by omega
   have hdx:decide (0≤(j:Int))=true:=decide_eq_true (by omega);rw[hmx,hdx];clear b1 a0 a1' a2' a3 a4 a5 a6 hcA hmx hdx;by_cases hj:j=k
   ·subst hj;have hbk:((j:Int) != (j:Int))=false:=by simp
    go_wp2_with fail;refine (HM.out _ (HWW.out.trans (HB1.out.mono HWW.out.size))).mono ?_;rintro e W2 ⟨rfl,b2⟩;have HB2:=hX (HB1.out.trans (b2.mono HB1.out.size));clear b2
    cases b with
    | true=>
     go_wp2_with fail;go_roundw;case rel=>exact ⟨j+1,by omega,by go_num,hX (by rw[HS.out];simp),hX (HW.out.trans (HB2.out.mono HW.out.size))⟩
     case measure=>simp[intOf];omega
    | false=>
     have HN:Hid (r=false):=hX (HNO.out (by simp));go_wp2_with fail;go_ret;rw[HN.out];exact ⟨rfl,HWW.out.trans (HB2.out.mono HWW.out.size)⟩
   ·have hbk:((j:Int) != (k:Int))=true:=by rw[bne_iff_ne];omega
    have HN:Hid (r=false):=hX (HNO.out (by rw[decide_eq_false hj];rfl));go_wp2_with fail;go_ret;rw[HN.out];exact ⟨rfl,HWW.out.trans (HB1.out.mono HWW.out.size)⟩
  ·obtain rfl:k=l.length:=by omega
   have HT:Hid (r=true):=hX (by rw[HRQ.out,HK.out]);go_wp2_with fail;go_ret;rw[HT.out];exact ⟨rfl,HWW.out⟩
end Go.Proofs.YtigfcihakghddaaGreatDoor.Sch
end
section
namespace Go.Proofs.YtigfcihakghddaaGreatDoor.Ana
open Go.RowKit Go.Lib AnaP Words Tree Kit Owned FoldP FoldInts
theorem word_any (r:Int) (w:World):Calls Tryz.prog 204 #[.int .i32 r] w (PureB (wordF r) w):=by
 have HR:Hid (wordF r=(letterF r || digitF r)):=hX rfl
 cases hl:letterF r with
 | true=>
  have HC:Hid (∀W,Calls Tryz.prog 205 #[.int .i32 r] W (PureB true W)):=hX (fun W=>by rw[←hl];exact letter_any r W);have HE:Hid (wordF r=true):=hX (by rw[HR.out,hl];rfl);clear hl;go_enter Tryz.func204,Tryz.ntmps204;go_wp2_with fail;refine (HC.out _).mono ?_;rintro e w' ⟨rfl,rfl⟩;go_wp2_with fail;go_ret;rw[HE.out];exact ⟨rfl,rfl⟩
 | false=>
  have HC:Hid (∀W,Calls Tryz.prog 205 #[.int .i32 r] W (PureB false W)):=hX (fun W=>by rw[←hl];exact letter_any r W);have HE:Hid (wordF r=digitF r):=hX (by rw[HR.out,hl];rfl);clear hl;go_enter Tryz.func204,Tryz.ntmps204;go_wp2_with fail;refine (HC.out _).mono ?_;rintro e w' ⟨rfl,rfl⟩;go_wp2_with fail;refine (digit_any r _).mono ?_;rintro e w' ⟨rfl,rfl⟩;go_wp2_with fail;go_ret;rw[HE.out];exact ⟨rfl,rfl⟩
theorem may_any (r:Int) (b:Nat) (w:World) (hb:w.cell? ⟨b,0,none⟩=some (.func (.func 204) #[] #[])):Calls Tryz.prog 207 #[.int .i32 r,.pointer (some ⟨b,0,none⟩)] w (PureB (mayF r) w):=by
 have HR:Hid (mayF r=(wordF r || markF r)):=hX rfl
 cases hl:wordF r with
 | true=>
  have HC:Hid (∀W,Calls Tryz.prog 204 #[.int .i32 r] W (PureB true W)):=hX (fun W=>by rw[←hl];exact word_any r W);have HE:Hid (mayF r=true):=hX (by rw[HR.out,hl];rfl);clear hl;go_enter Tryz.func207,Tryz.ntmps207;go_wp2_with fail;refine (HC.out _).mono ?_;rintro e w' ⟨rfl,rfl⟩;go_wp2_with fail;go_ret;rw[HE.out];exact ⟨rfl,rfl⟩
 | false=>
  have HC:Hid (∀W,Calls Tryz.prog 204 #[.int .i32 r] W (PureB false W)):=hX (fun W=>by rw[←hl];exact word_any r W);have HE:Hid (mayF r=markF r):=hX (by rw[HR.out,hl];rfl);clear hl;go_enter Tryz.func207,Tryz.ntmps207;go_wp2_with fail;refine (HC.out _).mono ?_;rintro e w' ⟨rfl,rfl⟩;go_wp2_with fail;refine (mark_any r _).mono ?_;rintro e w' ⟨rfl,rfl⟩;go_wp2_with fail;go_ret;rw[HE.out];exact ⟨rfl,rfl⟩
theorem solid_any (r:Int) (w:World):Calls Tryz.prog 146 #[.int .i32 r] w (PureB (solidF r) w):=by
 have HR:Hid (solidF r = !blankF r):=hX rfl;have HC:=hX (blank_any r);generalize blankF r=b at *;go_enter Tryz.func146,Tryz.ntmps146;go_wp2_with fail;refine (HC.out _).mono ?_;rintro e w' ⟨rfl,rfl⟩;go_wp2_with fail;go_ret;rw[HR.out];exact ⟨rfl,rfl⟩
theorem any2_any (r:Int) (w:World):Calls Tryz.prog 149 #[.int .i32 r] w (PureB (anyF r) w):=by
 go_enter Tryz.func149,Tryz.ntmps149;go_wp2_with fail;go_ret;exact ⟨rfl,rfl⟩
theorem any3_any (r:Int) (w:World):Calls Tryz.prog 150 #[.int .i32 r] w (PureB (anyF r) w):=by
 go_enter Tryz.func150,Tryz.ntmps150;go_wp2_with fail;go_ret;exact ⟨rfl,rfl⟩
theorem step_append_tok {ops:Array Oper} {o:Oper} {a:Act} {K:Act→World→Prop} {Q:Exit→Act→World→Prop} {E:Prop} (hgd:o.guard=none) (sl x:Operand)
 (ho:o.op = .call { callee:=.builtin .append,args:=#[sl,x],argTypes:=#[156,156] }) (B:Nat) (ao:Option Addr) (cp:Nat) (ts:List TokD) (w:World)
 (hs:a.eval sl = .slice ao ts.length cp) (hown:w.ownsRow B 179 4 (.slice ao ts.length cp) ts.length (tokCells ts)) (t:TokD) (hx:a.eval x = .slice (some ⟨w.heap.size,0,none⟩) 1 1)
 (hl:ts.length≤1099511627776) (hB:B≤w.heap.size)
 (h:∀g cap w',w'.ownsRow B 179 4 (.slice (some ⟨g,0,none⟩) (ts.length+1) cap) (ts.length+1) (tokCells (ts++[t]))→(w.alloc (.cells #[.string t.text,.int .i64 t.pos,.int .i64 t.frm,.int .i64 t.til] 179)).grownBy w' (Value.slice ao ts.length cp).ownBlock→((Value.slice ao ts.length cp).ownBlock=some g∨g=w.heap.size+1)→K (a.put o.dst (.slice (some ⟨g,0,none⟩) (ts.length+1) cap)) w') :
 if Region.wanted o (yielded ops a.tmps)=true then Oper.wp Tryz.prog o a (w.alloc (.cells #[.string t.text,.int .i64 t.pos,.int .i64 t.frm,.int .i64 t.til] 179)) K Q else E:=by
 obtain ⟨i0,hi,hz0,hz1,hz2⟩:=info_parts infoTok
 refine step_append_lies _ hgd sl x _ ho B 179 i0 (.agg #[.string ⟨#[]⟩,.int .i64 0,.int .i64 0,.int .i64 0]) 4 40 Tryz.underlying156 hi hz0 hz1 hz2 rfl (by decide) _ ts.length (tokCells ts) hs (hown.alloc _) ⟨w.heap.size,0,none⟩ 1 1
  [.string t.text,.int .i64 t.pos,.int .i64 t.frm,.int .i64 t.til] hx rfl ?_ ?_ (by decide) (by unfold maxLen;omega) (by omega) (by simp;omega) _ rfl ?_
 ·intro j u hu;exact cells_new w [.string t.text,.int .i64 t.pos,.int .i64 t.frm,.int .i64 t.til] _ j u hu
 ·intro u hu;exact tok_one (ts:=[t]) hu
 ·intro g cap w' h1 h2 h3 _;exact h g cap w' (by rw[tokCells_append];exact h1) h2 (by simpa using h3)
structure EndW (B bf bo:Nat) (ts:List TokD) (w w':World):Prop where
 out:∃v,Boxed w' bo 156 v∧w'.ownsRow B 179 4 v ts.length (tokCells ts)
 frm:Boxed w' bf 3 (.int .i64 (-1))
 others:KeepsOthers w w'
 below:Below B w w'
 cells:∀g t cs,Blk w g t cs→t≠179→g≠bf→g≠bo→Blk w' g t cs
def EndRet (B bf bo:Nat) (ts:List TokD) (w:World) (e:Ending) (w':World):Prop:=e = .returned (.tuple #[])∧EndW B bf bo ts w w'
structure EndStart (B:Nat) (w w':World):Prop where
 below:Below B w w'
 others:KeepsOthers w w'
 cells:∀g t cs,Blk w g t cs→Blk w' g t cs
theorem end_none (B bf bo bt:Nat) (at_:Int) (ts:List TokD) (v:Value) (w:World) (hB:B≤bf) (hF:Boxed w bf 3 (.int .i64 (-1))) (hO:Boxed w bo 156 v) (ho:w.ownsRow B 179 4 v ts.length (tokCells ts)) :
 Calls Tryz.prog 208 #[.int .i64 at_,.pointer (some ⟨bf,0,none⟩),.pointer (some ⟨bo,0,none⟩),.pointer (some ⟨bt,0,none⟩)] w (EndRet B bf bo ts w):=by
 have c1:=hF.cell;have c2:=hF.frozen;have hne:bo≠bf:=fun e=>by subst e;exact Blk.ne_ (t:=156) (t':=3) hO hF (by decide) rfl
 have HP:Hid (EndW B bf bo ts w (w.setCell ⟨bf,0,none⟩ (.int .i64 (-1)))):=hX
  ⟨⟨v,hO.other hne _,ho.kept (row:=some bf) (grownBy_setCell' w bf _) (.inr (hF.not_row (by decide) ho).symm)⟩,hF.set _,KeepsOthers.setCell _ _ _,(Below.refl _ _).setCell (p:=⟨bf,0,none⟩) hB _,fun g t cs h _ h1 _=>h.far (p:=⟨bf,0,none⟩) h1 _⟩
 clear hF hO ho;go_enter Tryz.func208,Tryz.ntmps208;go_wp2_with fail;go_end0;exact ⟨rfl,HP.out⟩
theorem end_some (B bf bo bt a j:Nat) (s:ByteArray) (ts:List TokD) (v:Value) (w:World) (hB:B≤bf) (hBo:B≤bo) (haj:a≤j) (hj:j≤s.size) (hs:s.size≤1099511627776) (hl:ts.length≤1099511627776)
 (hF:Boxed w bf 3 (.int .i64 (a:Int))) (hO:Boxed w bo 156 v) (hT:Boxed w bt 9 (.string s)) (ho:w.ownsRow B 179 4 v ts.length (tokCells ts)) :
 Calls Tryz.prog 208 #[.int .i64 (j:Int),.pointer (some ⟨bf,0,none⟩),.pointer (some ⟨bo,0,none⟩),.pointer (some ⟨bt,0,none⟩)] w (EndRet B bf bo (ts++[⟨s.extract a j,ts.length,a,j⟩]) w):=by
 obtain ⟨i0,hi,hz0,hz1,hz2⟩:=info_parts infoTok;have c1:=hF.cell;have c2:=hF.frozen;have c3:=hO.cell;have c4:=hO.frozen;have c5:=hT.cell;have hBw:B≤w.heap.size:=by have:=hF.lt;omega
 have hx1:(0:Int)≤(a:Int):=by omega
 have hx2:(a:Int)≤(j:Int):=by omega
 have hx3:(j:Int)≤(s.size:Int):=by omega
 obtain ⟨ao,cp,rfl⟩:∃ao cp,v = .slice ao ts.length cp:=(by obtain ⟨ao,c,e,_⟩:=reads_slice ho;exact ⟨ao,c,e⟩)
 have ag:(Value.slice ao ts.length cp).ownBlock≠some bf:=(hF.not_row (by decide) ho).symm;have ak:(Value.slice ao ts.length cp).ownBlock≠some bo:=(hO.not_row (by decide) ho).symm;have hne:bo≠bf:=fun e=>by subst e;exact Blk.ne_ (t:=156) (t':=3) hO hF (by decide) rfl
 have h63:ts.length+1≤maxLen:=by unfold maxLen;omega
 have hby:(ts.length+1)*40≤140737488355328:=by omega
 have hF2:=hF;have hO2:=hO;go_enter Tryz.func208,Tryz.ntmps208;go_wp2_with fail;have hoW:w.drew.ownsRow B 179 4 (.slice ao ts.length cp) ts.length (tokCells ts):=ho;have hFW:Boxed w.drew bf 3 (.int .i64 (a:Int)):=hF2;have hOW:Boxed w.drew bo 156 (.slice ao ts.length cp):=hO2;have hTW:Boxed w.drew bt 9 (.string s):=hT;have hBw:B≤w.drew.heap.size:=hBw;have HB0:Hid (EndStart B w w.drew):=hX ⟨(Below.refl _ _).drew,⟨Nat.le_refl _,fun _ _ h _=>h⟩,fun _ _ _ h=>h⟩;clear hF hO c1 c2 c3 c4 c5 ho hF2 hO2 hT
 have hs0:w.drew.cell? ⟨bf,0,none⟩=some (.int .i64 (a:Int))∧w.drew.cell? ⟨bt,0,none⟩=some (.string s):=⟨hFW.cell,hTW.cell⟩
 have hco:w.drew.cell? ⟨bo,0,none⟩=some (.slice ao ts.length cp):=hOW.cell;refine wp_region_held_drew (S:=fun W=>W.cell? ⟨bf,0,none⟩=some (.int .i64 (a:Int))∧W.cell? ⟨bt,0,none⟩=some (.string s)) (by kernel_rfl) hs0 (fun hS0=>?_);generalize w.drew=W at *;have ag':(Value.slice ao ts.length cp).ownBlock≠some bt:=(hTW.not_row (by decide) hoW).symm;have hnt:bo≠bt:=fun e=>by subst e;exact Blk.ne_ (t:=156) (t':=9) hOW hTW (by decide) rfl
 have SA:(W.alloc (.cells #[.string (s.extract a j),.int .i64 (ts.length:Int),.int .i64 (a:Int),.int .i64 (j:Int)] 179)).cell? ⟨bf,0,none⟩=some (.int .i64 (a:Int))∧(W.alloc (.cells #[.string (s.extract a j),.int .i64 (ts.length:Int),.int .i64 (a:Int),.int .i64 (j:Int)] 179)).cell? ⟨bt,0,none⟩=some (.string s):=⟨(hFW.alloc _).cell,(hTW.alloc _).cell⟩
 have SB:(W.alloc (.cells #[.string (s.extract a j),.int .i64 (ts.length:Int),.int .i64 (a:Int),.int .i64 (j:Int)] 179)).cell? ⟨bo,0,none⟩=some (.slice ao ts.length cp):=(hOW.alloc _).cell
 have SG:∀w3,(W.alloc (.cells #[.string (s.extract a j),.int .i64 (ts.length:Int),.int .i64 (a:Int),.int .i64 (j:Int)] 179)).grownBy w3 (Value.slice ao ts.length cp).ownBlock→w3.cell? ⟨bf,0,none⟩=some (.int .i64 (a:Int))∧w3.cell? ⟨bt,0,none⟩=some (.string s):=fun w3 h=>⟨((hFW.alloc _).kept h (Ne.symm ag)).cell,((hTW.alloc _).kept h (Ne.symm ag')).cell⟩
 have SC:∀w3,(W.alloc (.cells #[.string (s.extract a j),.int .i64 (ts.length:Int),.int .i64 (a:Int),.int .i64 (j:Int)] 179)).grownBy w3 (Value.slice ao ts.length cp).ownBlock→w3.cell? ⟨bo,0,none⟩=some (.slice ao ts.length cp):=fun w3 h=>((hOW.alloc _).kept h (Ne.symm ak)).cell;have SF:∀w3,(W.alloc (.cells #[.string (s.extract a j),.int .i64 (ts.length:Int),.int .i64 (a:Int),.int .i64 (j:Int)] 179)).grownBy w3 (Value.slice ao ts.length cp).ownBlock→w3.frozen? ⟨bo,0,none⟩=false:=fun w3 h=>((hOW.alloc _).kept h (Ne.symm ak)).frozen
 have SS:∀(w3:World) (u:Value),(w3.cell? ⟨bf,0,none⟩=some (.int .i64 (a:Int))∧w3.cell? ⟨bt,0,none⟩=some (.string s))→((w3.setCell ⟨bo,0,none⟩ u).cell? ⟨bf,0,none⟩=some (.int .i64 (a:Int))∧(w3.setCell ⟨bo,0,none⟩ u).cell? ⟨bt,0,none⟩=some (.string s)):=fun w3 u h=>
  ⟨(World.cell?_setCell_far w3 ⟨bo,0,none⟩ ⟨bf,0,none⟩ u hne).trans h.1,(World.cell?_setCell_far w3 ⟨bo,0,none⟩ ⟨bt,0,none⟩ u hnt).trans h.2⟩
 have SN:∀w3,(W.alloc (.cells #[.string (s.extract a j),.int .i64 (ts.length:Int),.int .i64 (a:Int),.int .i64 (j:Int)] 179)).grownBy w3 (Value.slice ao ts.length cp).ownBlock→w3.frozen? ⟨bf,0,none⟩=false:=fun w3 h=>((hFW.alloc _).kept h (Ne.symm ag)).frozen
 have FIN:∀gg cap3 w3,w3.ownsRow B 179 4 (.slice (some ⟨gg,0,none⟩) (ts.length+1) cap3) (ts.length+1) (tokCells (ts++[(⟨s.extract a j,ts.length,a,j⟩:TokD)]))→(W.alloc (.cells #[.string (s.extract a j),.int .i64 (ts.length:Int),.int .i64 (a:Int),.int .i64 (j:Int)] 179)).grownBy w3 (Value.slice ao ts.length cp).ownBlock→
  EndW B bf bo (ts++[(⟨s.extract a j,ts.length,a,j⟩:TokD)]) w ((w3.setCell ⟨bo,0,none⟩ (.slice (some ⟨gg,0,none⟩) (ts.length+1) cap3)).setCell ⟨bf,0,none⟩ (.int .i64 (-1))):=fun gg cap3 w3 h1 h2=>by
  obtain ⟨_,q2,q3,q4,q5⟩:=hOW.appended (by decide) hoW hBw hBo h1 h2;have q6:Boxed (w3.setCell ⟨bo,0,none⟩ (.slice (some ⟨gg,0,none⟩) (ts.length+1) cap3)) bf 3 (.int .i64 (a:Int)):=((hFW.alloc _).kept h2 (Ne.symm ag)).other (Ne.symm hne) _;refine ⟨⟨_,q2.other hne _,?_⟩,q6.set _,(HB0.out.others.trans q4).trans (KeepsOthers.setCell _ _ _),(HB0.out.below.trans q5).setCell (p:=⟨bf,0,none⟩) hB _,fun g t cs h h3 h4 h5=>?_⟩
  ·rw[List.length_append,List.length_singleton];exact q3.kept (row:=some bf) (grownBy_setCell' _ bf _) (.inr (q6.not_row (by decide) q3).symm)
  ·have k1:=HB0.out.cells g t cs h;have k2:Blk w3 g t cs:=(k1.alloc _).grown h2 (Ne.symm (own_blk_ne hoW k1 (Ne.symm h3)));exact (k2.far (p:=⟨bo,0,none⟩) h5 _).far (p:=⟨bf,0,none⟩) h4 _
 clear hFW hOW hTW;refine' wpAnyH_take (i:=1) (v:=_) (by simp only[tkD,tkE,tkG];rfl) (by kernel_rfl) (by kernel_rfl) (by kernel_rfl) (by exact fun _ _ _ h=>h) (Or.inl ⟨by rfl,?hx1⟩) hS0 ?rx1;case hx1=>intro V hSw;obtain ⟨f0,f2⟩:=hSw;go_simp;try with_reducible rfl
 try simp only[Act.put,tkA,tkB,tkC]
 refine' wpAnyH_take (i:=2) (v:=_) (by simp only[tkD,tkE,tkG];rfl) (by kernel_rfl) (by kernel_rfl) (by kernel_rfl) (by exact fun _ _ _ h=>h) (Or.inl ⟨by rfl,?hx2⟩) hS0 ?rx2;case hx2=>intro V hSw;obtain ⟨f0,f2⟩:=hSw;go_simp;try with_reducible rfl
 try simp only[Act.put,tkA,tkB,tkC]
 refine' tk 3 (by simp only[tkD,tkE,tkG];rfl) (by kernel_rfl) (by exact fun _ _ _ h=>h) (by rfl) hS0 (by intro V hSw;clear hSw;go_simp;try with_reducible rfl) ?_;try simp only[Act.put,tkA,tkB,tkC]
 refine' tk 4 (by simp only[tkD,tkE,tkG];rfl) (by kernel_rfl) (by exact fun _ _ _ h=>h) (by rfl) hS0 (by intro V hSw;clear hSw;go_simp;try with_reducible rfl) ?_;try simp only[Act.put,tkA,tkB,tkC]
 refine' wpAnyH_take (i:=7) (v:=_) (by simp only[tkD,tkE,tkG];rfl) (by kernel_rfl) (by kernel_rfl) (by kernel_rfl) (by exact fun _ _ _ h=>h) (Or.inl ⟨by rfl,?hx5⟩) hS0 ?rx5;case hx5=>intro V hSw;obtain ⟨f0,f2⟩:=hSw;go_simp;try with_reducible rfl
 try simp only[Act.put,tkA,tkB,tkC]
 refine' tk 8 (by simp only[tkD,tkE,tkG];rfl) (by kernel_rfl) (by exact fun _ _ _ h=>h) (by rfl) hS0 (by intro V hSw;clear hSw;go_simp;try with_reducible rfl) ?_;try simp only[Act.put,tkA,tkB,tkC]
 refine wpAnyH_ready (rs:=[0,5]) (by kernel_rfl) (by simp) ?_;refine' AllReadyH.cons (by simp only[tkD,tkG];rfl) (fun K hK=>?_) ?_
 ·go_simp;refine hK.out _ _ hS0 (fun hS1=>?_);try simp only[Act.put,tkA,tkB,tkC]
  refine wpAnyH_ready (rs:=[5]) (by kernel_rfl) (by simp) ?_;refine' AllReadyH.cons (by simp only[tkD,tkE,tkG];rfl) (fun K hK=>?_) AllReadyH.nil;go_simp;refine hK.out _ _ hS0 (fun hS1=>?_);try simp only[Act.put,tkA,tkB,tkC]
  refine' tk 6 (by simp only[tkD,tkE,tkG];rfl) (by kernel_rfl) (by exact fun _ _ _ h=>h) (by rfl) hS0 (by intro V hSw;clear hSw;go_simp;try with_reducible rfl) ?_;try simp only[Act.put,tkA,tkB,tkC]
  refine' tk 9 (by simp only[tkD,tkE,tkG];rfl) (by kernel_rfl) (by exact fun _ _ _ h=>h) (by rfl) hS0 (by intro V hSw;clear hSw;go_simp;try with_reducible rfl) ?_;try simp only[Act.put,tkA,tkB,tkC]
  refine wpAnyH_ready (rs:=[10]) (by kernel_rfl) (by simp) ?_;refine' AllReadyH.cons (by simp only[tkD,tkE,tkG];rfl) (fun K hK=>?_) AllReadyH.nil;go_simp;refine hK.out _ _ SA (fun hS1=>?_);try simp only[Act.put,tkA,tkB,tkC]
  refine wpAnyH_ready (rs:=[11]) (by kernel_rfl) (by simp) ?_;refine' AllReadyH.cons (by simp only[tkD,tkE,tkG];rfl) (fun K hK=>?_) AllReadyH.nil;refine step_append_tok (by rfl) _ _ (by rfl) B ao cp ts W (by rfl) hoW ⟨s.extract a j,ts.length,a,j⟩ (by rfl) hl hBw ?_;intro gg cap3 w3 hown3 hgrow3 _;have hS3:=SG _ hgrow3;have h3c:=SC _ hgrow3;have h3f:=SF _ hgrow3;have h3g:=SN _ hgrow3;refine hK.out _ _ hS3 (fun hS2=>?_);try simp only[Act.put,tkA,tkB,tkC]
  refine wpAnyH_ready (rs:=[12]) (by kernel_rfl) (by simp) ?_;refine' AllReadyH.cons (by simp only[tkD,tkE,tkG];rfl) (fun K hK=>?_) AllReadyH.nil;go_simp;refine hK.out _ _ (SS _ _ hS2) (fun hS4=>?_);try simp only[Act.put,tkA,tkB,tkC]
  refine wpAnyH_done (by kernel_rfl) ?_ _;have HFIN:=hX (FIN _ _ _ hown3 hgrow3);clear hown3 hgrow3 h3c h3f hS3 hS2;go_wp2_with fail;go_end0;exact ⟨rfl,HFIN.out⟩
 refine' AllReadyH.cons (by simp only[tkD,tkE,tkG];rfl) (fun K hK=>?_) AllReadyH.nil;go_simp;refine hK.out _ _ hS0 (fun hS1=>?_);try simp only[Act.put,tkA,tkB,tkC]
 refine' tk 6 (by simp only[tkD,tkE,tkG];rfl) (by kernel_rfl) (by exact fun _ _ _ h=>h) (by rfl) hS0 (by intro V hSw;clear hSw;go_simp;try with_reducible rfl) ?_;try simp only[Act.put,tkA,tkB,tkC]
 refine' tk 9 (by simp only[tkD,tkE,tkG];rfl) (by kernel_rfl) (by exact fun _ _ _ h=>h) (by rfl) hS0 (by intro V hSw;clear hSw;go_simp;try with_reducible rfl) ?_;try simp only[Act.put,tkA,tkB,tkC]
 refine wpAnyH_ready (rs:=[0,10]) (by kernel_rfl) (by simp) ?_;refine' AllReadyH.cons (by simp only[tkD,tkG];rfl) (fun K hK=>?_) ?_
 ·go_simp;refine hK.out _ _ hS0 (fun hS1=>?_);try simp only[Act.put,tkA,tkB,tkC]
  refine wpAnyH_ready (rs:=[10]) (by kernel_rfl) (by simp) ?_;refine' AllReadyH.cons (by simp only[tkD,tkE,tkG];rfl) (fun K hK=>?_) AllReadyH.nil;go_simp;refine hK.out _ _ SA (fun hS1=>?_);try simp only[Act.put,tkA,tkB,tkC]
  refine wpAnyH_ready (rs:=[11]) (by kernel_rfl) (by simp) ?_;refine' AllReadyH.cons (by simp only[tkD,tkE,tkG];rfl) (fun K hK=>?_) AllReadyH.nil;refine step_append_tok (by rfl) _ _ (by rfl) B ao cp ts W (by rfl) hoW ⟨s.extract a j,ts.length,a,j⟩ (by rfl) hl hBw ?_;intro gg cap3 w3 hown3 hgrow3 _;have hS3:=SG _ hgrow3;have h3c:=SC _ hgrow3;have h3f:=SF _ hgrow3;have h3g:=SN _ hgrow3;refine hK.out _ _ hS3 (fun hS2=>?_);try simp only[Act.put,tkA,tkB,tkC]
  refine wpAnyH_ready (rs:=[12]) (by kernel_rfl) (by simp) ?_;refine' AllReadyH.cons (by simp only[tkD,tkE,tkG];rfl) (fun K hK=>?_) AllReadyH.nil;go_simp;refine hK.out _ _ (SS _ _ hS2) (fun hS4=>?_);try simp only[Act.put,tkA,tkB,tkC]
  refine wpAnyH_done (by kernel_rfl) ?_ _;have HFIN:=hX (FIN _ _ _ hown3 hgrow3);clear hown3 hgrow3 h3c h3f hS3 hS2;go_wp2_with fail;go_end0;exact ⟨rfl,HFIN.out⟩
 refine' AllReadyH.cons (by simp only[tkD,tkE,tkG];rfl) (fun K hK=>?_) AllReadyH.nil;go_simp;refine hK.out _ _ SA (fun hS1=>?_);try simp only[Act.put,tkA,tkB,tkC]
 refine wpAnyH_ready (rs:=[0]) (by kernel_rfl) (by simp) ?_;refine' AllReadyH.cons (by simp only[tkD,tkG];rfl) (fun K hK=>?_) AllReadyH.nil;have hca:=SB;go_simp;refine hK.out _ _ hS1 (fun hS5=>?_);try simp only[Act.put,tkA,tkB,tkC]
 refine wpAnyH_ready (rs:=[11]) (by kernel_rfl) (by simp) ?_;refine' AllReadyH.cons (by simp only[tkD,tkE,tkG];rfl) (fun K hK=>?_) AllReadyH.nil;refine step_append_tok (by rfl) _ _ (by rfl) B ao cp ts W (by rfl) hoW ⟨s.extract a j,ts.length,a,j⟩ (by rfl) hl hBw ?_;intro gg cap3 w3 hown3 hgrow3 _;have hS3:=SG _ hgrow3;have h3c:=SC _ hgrow3;have h3f:=SF _ hgrow3;have h3g:=SN _ hgrow3;refine hK.out _ _ hS3 (fun hS2=>?_);try simp only[Act.put,tkA,tkB,tkC]
 refine wpAnyH_ready (rs:=[12]) (by kernel_rfl) (by simp) ?_;refine' AllReadyH.cons (by simp only[tkD,tkE,tkG];rfl) (fun K hK=>?_) AllReadyH.nil;go_simp;refine hK.out _ _ (SS _ _ hS2) (fun hS4=>?_);try simp only[Act.put,tkA,tkB,tkC]
 refine wpAnyH_done (by kernel_rfl) ?_ _;have HFIN:=hX (FIN _ _ _ hown3 hgrow3);clear hown3 hgrow3 h3c h3f hS3 hS2;go_wp2_with fail;go_end0;exact ⟨rfl,HFIN.out⟩
end Go.Proofs.YtigfcihakghddaaGreatDoor.Ana
end
