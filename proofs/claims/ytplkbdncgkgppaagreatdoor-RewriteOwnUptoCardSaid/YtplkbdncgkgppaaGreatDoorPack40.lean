/- Lemmas that the last text leans on. -/
import Derived.Test.YtplkbdncgkgppaaGreatDoorTake
import Derived.Test.YtplkbdncgkgppaaGreatDoorPack39
import Derived.Test.YtplkbdncgkgppaaGreatDoorPack25
import Derived.RangeFuncBox
import Derived.Deep.RegionHeld3
import Derived.Deep.AppendLies
import Derived.StillTactics
import Derived.WalkSpells
import Derived.RangeFuncNested
import Derived.WalkKit
import Derived.Test.YtplkbdncgkgppaaGreatDoorPack38
set_option linter.all false
set_option maxRecDepth 100000
set_option maxHeartbeats 1000000
section
namespace Go.Proofs.YtplkbdncgkgppaaGreatDoor.Ana
open Go.RowKit Go.Lib AnaP Words Tree Kit Owned FoldP FoldInts
theorem word_any (r:Int) (w:World):Calls Tryz.prog 146 #[.int .i32 r] w (zdc (wordF r) w):=by
 have HR:Hid (wordF r=(zes r || zhk r)):=hX rfl
 cases hl:zes r with
 | true=>
  have HC:Hid (∀W,Calls Tryz.prog 147 #[.int .i32 r] W (zdc true W)):=hX (fun W=>by rw[←hl];exact letter_any r W);have HE:Hid (wordF r=true):=hX (by rw[HR.out,hl];rfl);clear hl;go_enter Tryz.func146,Tryz.ntmps146;go_wp2_with fail;refine (HC.out _).mono ?_;rintro e w' ⟨rfl,rfl⟩;go_wp2_with fail;go_ret;rw[HE.out];exact ⟨rfl,rfl⟩
 | false=>
  have HC:Hid (∀W,Calls Tryz.prog 147 #[.int .i32 r] W (zdc false W)):=hX (fun W=>by rw[←hl];exact letter_any r W);have HE:Hid (wordF r=zhk r):=hX (by rw[HR.out,hl];rfl);clear hl;go_enter Tryz.func146,Tryz.ntmps146;go_wp2_with fail;refine (HC.out _).mono ?_;rintro e w' ⟨rfl,rfl⟩;go_wp2_with fail;refine (zxh r _).mono ?_;rintro e w' ⟨rfl,rfl⟩;go_wp2_with fail;go_ret;rw[HE.out];exact ⟨rfl,rfl⟩
theorem may_any (r:Int) (b:Nat) (w:World) (hb:w.cell? ⟨b,0,none⟩=some (.func (.func 146) #[] #[])):Calls Tryz.prog 149 #[.int .i32 r,.pointer (some ⟨b,0,none⟩)] w (zdc (zmv r) w):=by
 have HR:Hid (zmv r=(wordF r || markF r)):=hX rfl
 cases hl:wordF r with
 | true=>
  have HC:Hid (∀W,Calls Tryz.prog 146 #[.int .i32 r] W (zdc true W)):=hX (fun W=>by rw[←hl];exact word_any r W);have HE:Hid (zmv r=true):=hX (by rw[HR.out,hl];rfl);clear hl;go_enter Tryz.func149,Tryz.ntmps149;go_wp2_with fail;refine (HC.out _).mono ?_;rintro e w' ⟨rfl,rfl⟩;go_wp2_with fail;go_ret;rw[HE.out];exact ⟨rfl,rfl⟩
 | false=>
  have HC:Hid (∀W,Calls Tryz.prog 146 #[.int .i32 r] W (zdc false W)):=hX (fun W=>by rw[←hl];exact word_any r W);have HE:Hid (zmv r=markF r):=hX (by rw[HR.out,hl];rfl);clear hl;go_enter Tryz.func149,Tryz.ntmps149;go_wp2_with fail;refine (HC.out _).mono ?_;rintro e w' ⟨rfl,rfl⟩;go_wp2_with fail;refine (zna r _).mono ?_;rintro e w' ⟨rfl,rfl⟩;go_wp2_with fail;go_ret;rw[HE.out];exact ⟨rfl,rfl⟩
theorem zpb (r:Int) (w:World):Calls Tryz.prog 117 #[.int .i32 r] w (zdc (zd4 r) w):=by
 have HR:Hid (zd4 r = !zly r):=hX rfl;have HC:=hX (zxj r);generalize zly r=b at *;go_enter Tryz.func117,Tryz.ntmps117;go_wp2_with fail;refine (HC.out _).mono ?_;rintro e w' ⟨rfl,rfl⟩;go_wp2_with fail;go_ret;rw[HR.out];exact ⟨rfl,rfl⟩
theorem yab (r:Int) (w:World):Calls Tryz.prog 120 #[.int .i32 r] w (zdc (zpv r) w):=by
 go_enter Tryz.func120,Tryz.ntmps120;go_wp2_with fail;go_ret;exact ⟨rfl,rfl⟩
theorem yac (r:Int) (w:World):Calls Tryz.prog 121 #[.int .i32 r] w (zdc (zpv r) w):=by
 go_enter Tryz.func121,Tryz.ntmps121;go_wp2_with fail;go_ret;exact ⟨rfl,rfl⟩
theorem zb1 {ops:Array Oper} {o:Oper} {a:Act} {K:Act→World→Prop} {Q:Exit→Act→World→Prop} {E:Prop} (hgd:o.guard=none) (sl x:Operand)
 (ho:o.op = .call { callee:=.builtin .append,args:=#[sl,x],argTypes:=#[94,94] }) (B:Nat) (ao:Option Addr) (cp:Nat) (ts:List TokD) (w:World)
 (hs:a.eval sl = .slice ao ts.length cp) (hown:w.ownsRow B 98 4 (.slice ao ts.length cp) ts.length (zah ts)) (t:TokD) (hx:a.eval x = .slice (some ⟨w.heap.size,0,none⟩) 1 1)
 (hl:ts.length≤1099511627776) (hB:B≤w.heap.size)
 (h:∀g cap w',w'.ownsRow B 98 4 (.slice (some ⟨g,0,none⟩) (ts.length+1) cap) (ts.length+1) (zah (ts++[t]))→(w.alloc (.cells #[.string t.text,.int .i64 t.pos,.int .i64 t.frm,.int .i64 t.til] 98)).grownBy w' (Value.slice ao ts.length cp).ownBlock→((Value.slice ao ts.length cp).ownBlock=some g∨g=w.heap.size+1)→K (a.put o.dst (.slice (some ⟨g,0,none⟩) (ts.length+1) cap)) w') :
 if Region.wanted o (yielded ops a.tmps)=true then Oper.wp Tryz.prog o a (w.alloc (.cells #[.string t.text,.int .i64 t.pos,.int .i64 t.frm,.int .i64 t.til] 98)) K Q else E:=by
 obtain ⟨i0,hi,hz0,hz1,hz2⟩:=info_parts zm9
 refine step_append_lies _ hgd sl x _ ho B 98 i0 (.agg #[.string ⟨#[]⟩,.int .i64 0,.int .i64 0,.int .i64 0]) 4 40 Tryz.underlying94 hi hz0 hz1 hz2 rfl (by decide) _ ts.length (zah ts) hs (hown.alloc _) ⟨w.heap.size,0,none⟩ 1 1
  [.string t.text,.int .i64 t.pos,.int .i64 t.frm,.int .i64 t.til] hx rfl ?_ ?_ (by decide) (by unfold maxLen;omega) (by omega) (by simp;omega) _ rfl ?_
 ·intro j u hu;exact cells_new w [.string t.text,.int .i64 t.pos,.int .i64 t.frm,.int .i64 t.til] _ j u hu
 ·intro u hu;exact zq1 (ts:=[t]) hu
 ·intro g cap w' h1 h2 h3 _;exact h g cap w' (by rw[zdy];exact h1) h2 (by simpa using h3)
structure EndW (B bf bo:Nat) (ts:List TokD) (w w':World):Prop where
 out:∃v,Boxed w' bo 94 v∧w'.ownsRow B 98 4 v ts.length (zah ts)
 frm:Boxed w' bf 3 (.int .i64 (-1))
 others:KeepsOthers w w'
 below:Below B w w'
 cells:∀g t cs,Blk w g t cs→t≠98→g≠bf→g≠bo→Blk w' g t cs
def zxo (B bf bo:Nat) (ts:List TokD) (w:World) (e:Ending) (w':World):Prop:=e = .returned (.tuple #[])∧EndW B bf bo ts w w'
structure EndStart (B:Nat) (w w':World):Prop where
 below:Below B w w'
 others:KeepsOthers w w'
 cells:∀g t cs,Blk w g t cs→Blk w' g t cs
theorem zsl (B bf bo bt:Nat) (at_:Int) (ts:List TokD) (v:Value) (w:World) (hB:B≤bf) (hF:Boxed w bf 3 (.int .i64 (-1))) (hO:Boxed w bo 94 v) (ho:w.ownsRow B 98 4 v ts.length (zah ts)) :
 Calls Tryz.prog 151 #[.int .i64 at_,.pointer (some ⟨bf,0,none⟩),.pointer (some ⟨bo,0,none⟩),.pointer (some ⟨bt,0,none⟩)] w (zxo B bf bo ts w):=by
 have c1:=hF.cell;have c2:=hF.frozen;have hne:bo≠bf:=fun e=>by subst e;exact Blk.ne_ (t:=94) (t':=3) hO hF (by decide) rfl
 have HP:Hid (EndW B bf bo ts w (w.setCell ⟨bf,0,none⟩ (.int .i64 (-1)))):=hX
  ⟨⟨v,hO.other hne _,ho.kept (row:=some bf) (grownBy_setCell' w bf _) (.inr (hF.not_row (by decide) ho).symm)⟩,hF.set _,KeepsOthers.setCell _ _ _,(Below.refl _ _).setCell (p:=⟨bf,0,none⟩) hB _,fun g t cs h _ h1 _=>h.far (p:=⟨bf,0,none⟩) h1 _⟩
 clear hF hO ho;go_enter Tryz.func151,Tryz.ntmps151;go_wp2_with fail;go_end0;exact ⟨rfl,HP.out⟩
theorem zsm (B bf bo bt a j:Nat) (s:ByteArray) (ts:List TokD) (v:Value) (w:World) (hB:B≤bf) (hBo:B≤bo) (haj:a≤j) (hj:j≤s.size) (hs:s.size≤1099511627776) (hl:ts.length≤1099511627776)
 (hF:Boxed w bf 3 (.int .i64 (a:Int))) (hO:Boxed w bo 94 v) (hT:Boxed w bt 9 (.string s)) (ho:w.ownsRow B 98 4 v ts.length (zah ts)) :
 Calls Tryz.prog 151 #[.int .i64 (j:Int),.pointer (some ⟨bf,0,none⟩),.pointer (some ⟨bo,0,none⟩),.pointer (some ⟨bt,0,none⟩)] w (zxo B bf bo (ts++[⟨s.extract a j,ts.length,a,j⟩]) w):=by
 obtain ⟨i0,hi,hz0,hz1,hz2⟩:=info_parts zm9;have c1:=hF.cell;have c2:=hF.frozen;have c3:=hO.cell;have c4:=hO.frozen;have c5:=hT.cell;have hBw:B≤w.heap.size:=by have:=hF.lt;omega
 have hx1:(0:Int)≤(a:Int):=by omega
 have hx2:(a:Int)≤(j:Int):=by omega
 have hx3:(j:Int)≤(s.size:Int):=by omega
 obtain ⟨ao,cp,rfl⟩:∃ao cp,v = .slice ao ts.length cp:=(by obtain ⟨ao,c,e,_⟩:=zha ho;exact ⟨ao,c,e⟩)
 have ag:(Value.slice ao ts.length cp).ownBlock≠some bf:=(hF.not_row (by decide) ho).symm;have ak:(Value.slice ao ts.length cp).ownBlock≠some bo:=(hO.not_row (by decide) ho).symm;have hne:bo≠bf:=fun e=>by subst e;exact Blk.ne_ (t:=94) (t':=3) hO hF (by decide) rfl
 have h63:ts.length+1≤maxLen:=by unfold maxLen;omega
 have hby:(ts.length+1)*40≤140737488355328:=by omega
 have hF2:=hF;have hO2:=hO;go_enter Tryz.func151,Tryz.ntmps151;go_wp2_with fail;have hoW:w.drew.ownsRow B 98 4 (.slice ao ts.length cp) ts.length (zah ts):=ho;have hFW:Boxed w.drew bf 3 (.int .i64 (a:Int)):=hF2;have hOW:Boxed w.drew bo 94 (.slice ao ts.length cp):=hO2;have hTW:Boxed w.drew bt 9 (.string s):=hT;have hBw:B≤w.drew.heap.size:=hBw;have HB0:Hid (EndStart B w w.drew):=hX ⟨(Below.refl _ _).drew,⟨Nat.le_refl _,fun _ _ h _=>h⟩,fun _ _ _ h=>h⟩;clear hF hO c1 c2 c3 c4 c5 ho hF2 hO2 hT
 have hs0:w.drew.cell? ⟨bf,0,none⟩=some (.int .i64 (a:Int))∧w.drew.cell? ⟨bt,0,none⟩=some (.string s):=⟨hFW.cell,hTW.cell⟩
 have hco:w.drew.cell? ⟨bo,0,none⟩=some (.slice ao ts.length cp):=hOW.cell;refine wp_region_held_drew (S:=fun W=>W.cell? ⟨bf,0,none⟩=some (.int .i64 (a:Int))∧W.cell? ⟨bt,0,none⟩=some (.string s)) (by kernel_rfl) hs0 (fun hS0=>?_);generalize w.drew=W at *;have ag':(Value.slice ao ts.length cp).ownBlock≠some bt:=(hTW.not_row (by decide) hoW).symm;have hnt:bo≠bt:=fun e=>by subst e;exact Blk.ne_ (t:=94) (t':=9) hOW hTW (by decide) rfl
 have SA:(W.alloc (.cells #[.string (s.extract a j),.int .i64 (ts.length:Int),.int .i64 (a:Int),.int .i64 (j:Int)] 98)).cell? ⟨bf,0,none⟩=some (.int .i64 (a:Int))∧(W.alloc (.cells #[.string (s.extract a j),.int .i64 (ts.length:Int),.int .i64 (a:Int),.int .i64 (j:Int)] 98)).cell? ⟨bt,0,none⟩=some (.string s):=⟨(hFW.alloc _).cell,(hTW.alloc _).cell⟩
 have SB:(W.alloc (.cells #[.string (s.extract a j),.int .i64 (ts.length:Int),.int .i64 (a:Int),.int .i64 (j:Int)] 98)).cell? ⟨bo,0,none⟩=some (.slice ao ts.length cp):=(hOW.alloc _).cell
 have SG:∀w3,(W.alloc (.cells #[.string (s.extract a j),.int .i64 (ts.length:Int),.int .i64 (a:Int),.int .i64 (j:Int)] 98)).grownBy w3 (Value.slice ao ts.length cp).ownBlock→w3.cell? ⟨bf,0,none⟩=some (.int .i64 (a:Int))∧w3.cell? ⟨bt,0,none⟩=some (.string s):=fun w3 h=>⟨((hFW.alloc _).kept h (Ne.symm ag)).cell,((hTW.alloc _).kept h (Ne.symm ag')).cell⟩
 have SC:∀w3,(W.alloc (.cells #[.string (s.extract a j),.int .i64 (ts.length:Int),.int .i64 (a:Int),.int .i64 (j:Int)] 98)).grownBy w3 (Value.slice ao ts.length cp).ownBlock→w3.cell? ⟨bo,0,none⟩=some (.slice ao ts.length cp):=fun w3 h=>((hOW.alloc _).kept h (Ne.symm ak)).cell;have SF:∀w3,(W.alloc (.cells #[.string (s.extract a j),.int .i64 (ts.length:Int),.int .i64 (a:Int),.int .i64 (j:Int)] 98)).grownBy w3 (Value.slice ao ts.length cp).ownBlock→w3.frozen? ⟨bo,0,none⟩=false:=fun w3 h=>((hOW.alloc _).kept h (Ne.symm ak)).frozen
 have SS:∀(w3:World) (u:Value),(w3.cell? ⟨bf,0,none⟩=some (.int .i64 (a:Int))∧w3.cell? ⟨bt,0,none⟩=some (.string s))→((w3.setCell ⟨bo,0,none⟩ u).cell? ⟨bf,0,none⟩=some (.int .i64 (a:Int))∧(w3.setCell ⟨bo,0,none⟩ u).cell? ⟨bt,0,none⟩=some (.string s)):=fun w3 u h=>
  ⟨(World.cell?_setCell_far w3 ⟨bo,0,none⟩ ⟨bf,0,none⟩ u hne).trans h.1,(World.cell?_setCell_far w3 ⟨bo,0,none⟩ ⟨bt,0,none⟩ u hnt).trans h.2⟩
 have SN:∀w3,(W.alloc (.cells #[.string (s.extract a j),.int .i64 (ts.length:Int),.int .i64 (a:Int),.int .i64 (j:Int)] 98)).grownBy w3 (Value.slice ao ts.length cp).ownBlock→w3.frozen? ⟨bf,0,none⟩=false:=fun w3 h=>((hFW.alloc _).kept h (Ne.symm ag)).frozen
 have FIN:∀gg cap3 w3,w3.ownsRow B 98 4 (.slice (some ⟨gg,0,none⟩) (ts.length+1) cap3) (ts.length+1) (zah (ts++[(⟨s.extract a j,ts.length,a,j⟩:TokD)]))→(W.alloc (.cells #[.string (s.extract a j),.int .i64 (ts.length:Int),.int .i64 (a:Int),.int .i64 (j:Int)] 98)).grownBy w3 (Value.slice ao ts.length cp).ownBlock→
  EndW B bf bo (ts++[(⟨s.extract a j,ts.length,a,j⟩:TokD)]) w ((w3.setCell ⟨bo,0,none⟩ (.slice (some ⟨gg,0,none⟩) (ts.length+1) cap3)).setCell ⟨bf,0,none⟩ (.int .i64 (-1))):=fun gg cap3 w3 h1 h2=>by
  obtain ⟨_,q2,q3,q4,q5⟩:=hOW.appended (by decide) hoW hBw hBo h1 h2;have q6:Boxed (w3.setCell ⟨bo,0,none⟩ (.slice (some ⟨gg,0,none⟩) (ts.length+1) cap3)) bf 3 (.int .i64 (a:Int)):=((hFW.alloc _).kept h2 (Ne.symm ag)).other (Ne.symm hne) _;refine ⟨⟨_,q2.other hne _,?_⟩,q6.set _,(HB0.out.others.trans q4).trans (KeepsOthers.setCell _ _ _),(HB0.out.below.trans q5).setCell (p:=⟨bf,0,none⟩) hB _,fun g t cs h h3 h4 h5=>?_⟩
  ·rw[List.length_append,List.length_singleton];exact q3.kept (row:=some bf) (grownBy_setCell' _ bf _) (.inr (q6.not_row (by decide) q3).symm)
  ·have k1:=HB0.out.cells g t cs h;have k2:Blk w3 g t cs:=(k1.alloc _).grown h2 (Ne.symm (zfv hoW k1 (Ne.symm h3)));exact (k2.far (p:=⟨bo,0,none⟩) h5 _).far (p:=⟨bf,0,none⟩) h4 _
 clear hFW hOW hTW;refine' wpAnyH_take (i:=1) (v:=_) (by simp only[tkD,tkE,tkG];rfl) (by kernel_rfl) (by kernel_rfl) (by kernel_rfl) (by exact fun _ _ _ h=>h) (Or.inl ⟨by rfl,?hx1⟩) hS0 ?rx1;case hx1=>intro V hSw;obtain ⟨f0,f2⟩:=hSw;go_simp;try with_reducible rfl
 try simp only[Act.put,tkA,tkB,tkC]
 refine' wpAnyH_take (i:=2) (v:=_) (by simp only[tkD,tkE,tkG];rfl) (by kernel_rfl) (by kernel_rfl) (by kernel_rfl) (by exact fun _ _ _ h=>h) (Or.inl ⟨by rfl,?hx2⟩) hS0 ?rx2;case hx2=>intro V hSw;obtain ⟨f0,f2⟩:=hSw;go_simp;try with_reducible rfl
 try simp only[Act.put,tkA,tkB,tkC]
 refine' tk 3 (by simp only[tkD,tkE,tkG];rfl) (by kernel_rfl) (by exact fun _ _ _ h=>h) (by rfl) hS0 (by intro V hSw;clear hSw;go_simp;try with_reducible rfl) ?_;try simp only[Act.put,tkA,tkB,tkC]
 refine' tk 4 (by simp only[tkD,tkE,tkG];rfl) (by kernel_rfl) (by exact fun _ _ _ h=>h) (by rfl) hS0 (by intro V hSw;clear hSw;go_simp;try with_reducible rfl) ?_;try simp only[Act.put,tkA,tkB,tkC]
 refine' wpAnyH_take (i:=7) (v:=_) (by simp only[tkD,tkE,tkG];rfl) (by kernel_rfl) (by kernel_rfl) (by kernel_rfl) (by exact fun _ _ _ h=>h) (Or.inl ⟨by rfl,?hx5⟩) hS0 ?rx5;case hx5=>intro V hSw;obtain ⟨f0,f2⟩:=hSw;go_simp;try with_reducible rfl
 try simp only[Act.put,tkA,tkB,tkC]
 refine' tk 8 (by simp only[tkD,tkE,tkG];rfl) (by kernel_rfl) (by exact fun _ _ _ h=>h) (by rfl) hS0 (by intro V hSw;clear hSw;go_simp;try with_reducible rfl) ?_;try simp only[Act.put,tkA,tkB,tkC]
 refine wpAnyH_ready (rs:=[0,5]) (by kernel_rfl) (by simp) ?_;refine' AllReadyH.cons (by simp only[tkD,tkG];rfl) (fun K hK=>?_) ?_
 ·go_simp;refine hK.out _ _ hS0 (fun hS1=>?_);try simp only[Act.put,tkA,tkB,tkC]
  refine wpAnyH_ready (rs:=[5]) (by kernel_rfl) (by simp) ?_;refine' AllReadyH.cons (by simp only[tkD,tkE,tkG];rfl) (fun K hK=>?_) AllReadyH.nil;go_simp;refine hK.out _ _ hS0 (fun hS1=>?_);try simp only[Act.put,tkA,tkB,tkC]
  refine' tk 6 (by simp only[tkD,tkE,tkG];rfl) (by kernel_rfl) (by exact fun _ _ _ h=>h) (by rfl) hS0 (by intro V hSw;clear hSw;go_simp;try with_reducible rfl) ?_;try simp only[Act.put,tkA,tkB,tkC]
  refine' tk 9 (by simp only[tkD,tkE,tkG];rfl) (by kernel_rfl) (by exact fun _ _ _ h=>h) (by rfl) hS0 (by intro V hSw;clear hSw;go_simp;try with_reducible rfl) ?_;try simp only[Act.put,tkA,tkB,tkC]
  refine wpAnyH_ready (rs:=[10]) (by kernel_rfl) (by simp) ?_;refine' AllReadyH.cons (by simp only[tkD,tkE,tkG];rfl) (fun K hK=>?_) AllReadyH.nil;go_simp;refine hK.out _ _ SA (fun hS1=>?_);try simp only[Act.put,tkA,tkB,tkC]
  refine wpAnyH_ready (rs:=[11]) (by kernel_rfl) (by simp) ?_;refine' AllReadyH.cons (by simp only[tkD,tkE,tkG];rfl) (fun K hK=>?_) AllReadyH.nil;refine zb1 (by rfl) _ _ (by rfl) B ao cp ts W (by rfl) hoW ⟨s.extract a j,ts.length,a,j⟩ (by rfl) hl hBw ?_;intro gg cap3 w3 hown3 hgrow3 _;have hS3:=SG _ hgrow3;have h3c:=SC _ hgrow3;have h3f:=SF _ hgrow3;have h3g:=SN _ hgrow3;refine hK.out _ _ hS3 (fun hS2=>?_);try simp only[Act.put,tkA,tkB,tkC]
  refine wpAnyH_ready (rs:=[12]) (by kernel_rfl) (by simp) ?_;refine' AllReadyH.cons (by simp only[tkD,tkE,tkG];rfl) (fun K hK=>?_) AllReadyH.nil;go_simp;refine hK.out _ _ (SS _ _ hS2) (fun hS4=>?_);try simp only[Act.put,tkA,tkB,tkC]
  refine wpAnyH_done (by kernel_rfl) ?_ _;have HFIN:=hX (FIN _ _ _ hown3 hgrow3);clear hown3 hgrow3 h3c h3f hS3 hS2;go_wp2_with fail;go_end0;exact ⟨rfl,HFIN.out⟩
 refine' AllReadyH.cons (by simp only[tkD,tkE,tkG];rfl) (fun K hK=>?_) AllReadyH.nil;go_simp;refine hK.out _ _ hS0 (fun hS1=>?_);try simp only[Act.put,tkA,tkB,tkC]
 refine' tk 6 (by simp only[tkD,tkE,tkG];rfl) (by kernel_rfl) (by exact fun _ _ _ h=>h) (by rfl) hS0 (by intro V hSw;clear hSw;go_simp;try with_reducible rfl) ?_;try simp only[Act.put,tkA,tkB,tkC]
 refine' tk 9 (by simp only[tkD,tkE,tkG];rfl) (by kernel_rfl) (by exact fun _ _ _ h=>h) (by rfl) hS0 (by intro V hSw;clear hSw;go_simp;try with_reducible rfl) ?_;try simp only[Act.put,tkA,tkB,tkC]
 refine wpAnyH_ready (rs:=[0,10]) (by kernel_rfl) (by simp) ?_;refine' AllReadyH.cons (by simp only[tkD,tkG];rfl) (fun K hK=>?_) ?_
 ·go_simp;refine hK.out _ _ hS0 (fun hS1=>?_);try simp only[Act.put,tkA,tkB,tkC]
  refine wpAnyH_ready (rs:=[10]) (by kernel_rfl) (by simp) ?_;refine' AllReadyH.cons (by simp only[tkD,tkE,tkG];rfl) (fun K hK=>?_) AllReadyH.nil;go_simp;refine hK.out _ _ SA (fun hS1=>?_);try simp only[Act.put,tkA,tkB,tkC]
  refine wpAnyH_ready (rs:=[11]) (by kernel_rfl) (by simp) ?_;refine' AllReadyH.cons (by simp only[tkD,tkE,tkG];rfl) (fun K hK=>?_) AllReadyH.nil;refine zb1 (by rfl) _ _ (by rfl) B ao cp ts W (by rfl) hoW ⟨s.extract a j,ts.length,a,j⟩ (by rfl) hl hBw ?_;intro gg cap3 w3 hown3 hgrow3 _;have hS3:=SG _ hgrow3;have h3c:=SC _ hgrow3;have h3f:=SF _ hgrow3;have h3g:=SN _ hgrow3;refine hK.out _ _ hS3 (fun hS2=>?_);try simp only[Act.put,tkA,tkB,tkC]
  refine wpAnyH_ready (rs:=[12]) (by kernel_rfl) (by simp) ?_;refine' AllReadyH.cons (by simp only[tkD,tkE,tkG];rfl) (fun K hK=>?_) AllReadyH.nil;go_simp;refine hK.out _ _ (SS _ _ hS2) (fun hS4=>?_);try simp only[Act.put,tkA,tkB,tkC]
  refine wpAnyH_done (by kernel_rfl) ?_ _;have HFIN:=hX (FIN _ _ _ hown3 hgrow3);clear hown3 hgrow3 h3c h3f hS3 hS2;go_wp2_with fail;go_end0;exact ⟨rfl,HFIN.out⟩
 refine' AllReadyH.cons (by simp only[tkD,tkE,tkG];rfl) (fun K hK=>?_) AllReadyH.nil;go_simp;refine hK.out _ _ SA (fun hS1=>?_);try simp only[Act.put,tkA,tkB,tkC]
 refine wpAnyH_ready (rs:=[0]) (by kernel_rfl) (by simp) ?_;refine' AllReadyH.cons (by simp only[tkD,tkG];rfl) (fun K hK=>?_) AllReadyH.nil;have hca:=SB;go_simp;refine hK.out _ _ hS1 (fun hS5=>?_);try simp only[Act.put,tkA,tkB,tkC]
 refine wpAnyH_ready (rs:=[11]) (by kernel_rfl) (by simp) ?_;refine' AllReadyH.cons (by simp only[tkD,tkE,tkG];rfl) (fun K hK=>?_) AllReadyH.nil;refine zb1 (by rfl) _ _ (by rfl) B ao cp ts W (by rfl) hoW ⟨s.extract a j,ts.length,a,j⟩ (by rfl) hl hBw ?_;intro gg cap3 w3 hown3 hgrow3 _;have hS3:=SG _ hgrow3;have h3c:=SC _ hgrow3;have h3f:=SF _ hgrow3;have h3g:=SN _ hgrow3;refine hK.out _ _ hS3 (fun hS2=>?_);try simp only[Act.put,tkA,tkB,tkC]
 refine wpAnyH_ready (rs:=[12]) (by kernel_rfl) (by simp) ?_;refine' AllReadyH.cons (by simp only[tkD,tkE,tkG];rfl) (fun K hK=>?_) AllReadyH.nil;go_simp;refine hK.out _ _ (SS _ _ hS2) (fun hS4=>?_);try simp only[Act.put,tkA,tkB,tkC]
 refine wpAnyH_done (by kernel_rfl) ?_ _;have HFIN:=hX (FIN _ _ _ hown3 hgrow3);clear hown3 hgrow3 h3c h3f hS3 hS2;go_wp2_with fail;go_end0;exact ⟨rfl,HFIN.out⟩
end Go.Proofs.YtplkbdncgkgppaaGreatDoor.Ana
end
section
namespace Go.Proofs.YtplkbdncgkgppaaGreatDoor.Range
open Go.RowKit
variable {F:Fence} {n:Nat} {P:Program}
def yev {α:Type} (F:Fence) (n:Nat) (P:Program) (g:Nat) (lb:Array Value) (encs:α→Array Value) (Kp:World→World→Prop) (Nx:List α→α→Prop) (S:List α→Prop) (w:World):Prop:=
 ∀(l:Nat) (J:List α→World→Prop) (W:World),Below w.heap.size w W→AbidesFrom W.heap.size J→
  (∀pre x W1,Nx pre x→J pre W1→YieldAt F (n - 1) P l (encs x) W1 fun e W'=>e = .returned (.bool true)∧J (pre++[x]) W'∧Kp W1 W')→J [] W→
  CallsIn F n P g (#[.func (.yield l) #[] #[]]++lb) W fun e W'=>(∃v,e = .returned v)∧∃xs,S xs∧J xs W'
def zxp {α:Type} (B:Nat) (Kp:World→World→Prop) (I:List α→World→Prop) (xs:List α) (W:World):Exit→Act→World→Prop
 | .normal,_,W'=>KeepsFrom B W W'∧Kp W W'∧I xs W'
 | _,_,_=>False
theorem zt6 {α:Type} {g:Operand} {ps:Array Tmp} {assign body:Code} {Q:Exit→Act→World→Prop} {a:Act} {w:World}
 (hro:F.round=none) (h1:1≤n) {gf:Nat} {lb:Array Value} (hg:a.eval g = .func (.func gf) #[] lb) (hFg:F.fn gf) (eg:∀args w,(callFunc gf args).run P w = .ok (.enter gf args) w)
 {encs:α→Array Value} {Kp:World→World→Prop} {Nx:List α→α→Prop} {S:List α→Prop} {w0:World} (hseq:yev F (n - 1) P gf lb encs Kp Nx S w0)
 (hKt:∀{A B C:World},Kp A B→Kp B C→Kp A C) (hKb:∀(W:World) (l:Nat) (o o':Obj),w.heap.size≤l→W.heap[l]?=some o→o.isCells=false→o.isWalk=false→Kp W (W.putObj l o')) (hb0:Below w0.heap.size w0 w) (hps:∀x,(encs x).size=ps.size)
 (I:List α→World→Prop) (hI:OwnFrom w.heap.size I) (h0:I [] w) (a₁:α→Act)
 (hassign:∀(l:Nat) (x:α) (W:World) (K:Act→World→Prop),K (a₁ x) W→
   assign.wpIn (F.inRound l) (n - 1 - 1) P (Exit.then K (fun _ _ _=>False)) { tmps:=(ps.zip (encs x)).foldl (fun t (p,v)=>t.setIfInBounds p v) a.tmps,defers:=[] } W)
 (hbody:∀(l:Nat) (pre:List α) (x:α) (W:World),Nx pre x→I pre W→body.wpIn (F.inRound l) (n - 1 - 1) P (zxp w.heap.size Kp I (pre++[x]) W) (a₁ x) W)
 (hdone:∀(D:Nat) (xs:List α) (W:World),w.heap.size≤D→S xs→I xs W→W.heap[D]?=some (.deferred (some []))→Q .normal { a with defers:={ target:=.collected D,args:=#[] }::a.defers } W) :
 (Code.rangeFunc g ps assign body).wpIn F n P Q a w:=by
 refine wpIn_rangeFunc ?_;intro fn hfn;rw[hro]
 obtain ⟨rec,hrec⟩:∃rec:LoopState→Loop,rec=fun st=>{ state:=st,pending:=none,fn,tmps:=a.tmps,params:=ps,assign,body,defers:=w.heap.size }:=⟨_,rfl⟩
 obtain ⟨W1,hW1⟩:∃W1,(w.alloc (.deferred (some []))).alloc (.loop (rec .ready))=W1:=⟨_,rfl⟩
 have hz1:W1.heap.size=w.heap.size+2:=by rw[←hW1];simp
 have hL1:W1.heap[w.heap.size+1]?=some (.loop (rec .ready)):=(by have:=World.alloc_heap_new (w.alloc (.deferred (some []))) (.loop (rec .ready));rw[World.size_alloc,hW1] at this;exact this)
 have hK1:W1.heap[w.heap.size]?=some (.deferred (some [])):=(by rw[←hW1];exact (Below.heap_alloc _ _ _ (by simp)).trans (World.alloc_heap_new w _))
 have hI1:I [] W1:=by rw[←hW1];exact hI.alloc _ (hI.alloc _ h0)
 have hb1:Below w0.heap.size w0 W1:=(by rw[←hW1];exact (hb0.alloc hb0.size _).alloc (by have:=hb0.size;simp;omega) _)
 refine ⟨w.heap.size+1,[{ target:=.collected w.heap.size,args:=#[] }],W1,{ target:=.fn (.func gf) lb,args:=#[.func (.yield (w.heap.size+1)) #[] #[]] },W1,gf,
  #[.func (.yield (w.heap.size+1)) #[] #[]]++lb,W1,by rw[←hW1,hrec];exact run_enterLoop_outer _ _ _ _ _,by simp only[resolve,hg];simp[go_sem],fun f' hf'=>by simp[Target.leads] at hf';subst hf';exact hFg,
  by simp[invoke,go_sem,eg],fun _=>h1,?_⟩
 have far:∀{A B:World} {row:Option Nat},(∀r,row=some r→W1.heap.size≤r∧∃o:Obj,A.heap[r]?=some o∧o.isWalk=true)→A.grownBy B row→∀{k:Nat} {o:Obj},k<W1.heap.size→A.heap[k]?=some o→B.heap[k]?=some o:=
  fun hr hg' k o hk ho=>(hg'.block k (Array.getElem?_eq_some_iff.1 ho).1 (fun e=>by have:=(hr k e.symm).1;omega)).trans ho
 refine (hseq (w.heap.size+1) (fun pre W=>I pre W∧W.heap[w.heap.size+1]?=some (.loop (rec .ready))∧W.heap[w.heap.size]?=some (.deferred (some []))) W1 hb1
  (fun s A B row hs hg' hr=>⟨hI s A B row hs.1 hg' (fun r e=>by obtain ⟨hB,o,ho,hw⟩:=hr r e;exact ⟨by omega,o,ho,Obj.not_cells_of_walk hw⟩),far (B:=B) hr hg' (by omega) hs.2.1,far (B:=B) hr hg' (by omega) hs.2.2⟩)
  ?_ ⟨hI1,hL1,hK1⟩).mono ?_
 ·rintro pre x W hnx ⟨hi,hl,hk⟩;have hlt:w.heap.size+1<W.heap.size:=(Array.getElem?_eq_some_iff.1 hl).1;have hy:=run_yield (P:=P) (args:=encs x) hl (by rw[hrec];exact hps x);rw[hrec] at hy;refine ⟨fn,_,assign,body,hy,roundIn_of_wpIn hfn (hassign _ x W _ ⟨_,run_beginRound hl (by rw[hrec]),?_⟩)⟩;have hl2:(W.putObj (w.heap.size+1) (.loop { rec .ready with state:=.busy })).heap[w.heap.size+1]?=some (.loop { rec .ready with state:=.busy }):=World.putObj_heap_same hlt;have hk2:(W.putObj (w.heap.size+1) (.loop { rec .ready with state:=.busy })).heap[w.heap.size]?=some (.deferred (some [])):=(World.putObj_heap_other (by omega)).trans hk;have hw2:Kp W (W.putObj (w.heap.size+1) (.loop { rec .ready with state:=.busy })):=hKb _ _ _ _ (by omega) hl rfl rfl;refine wpIn_mono (hbody _ pre x _ hnx (hI.putObj _ hi (by omega) hl rfl)) ?_;rintro e a3 W3 hp
  cases e with
  | normal=>
   obtain ⟨hk3,hkp3,hi3⟩:=hp;have hl3:=hk3.same _ _ (by omega) hl2 rfl;have hr:=run_endRound (P:=P) none hl3;have hl4:(W3.putObj (w.heap.size+1) (.loop (rec .ready))).heap[w.heap.size+1]?=some (.loop (rec .ready)):=World.putObj_heap_same (Array.getElem?_eq_some_iff.1 hl3).1;have hk4:(W3.putObj (w.heap.size+1) (.loop (rec .ready))).heap[w.heap.size]?=some (.deferred (some [])):=(World.putObj_heap_other (by omega)).trans (hk3.same _ _ (Nat.le_refl _) hk2 rfl);have hkk:=hKt (hKt hw2 hkp3) (hKb W3 _ _ (.loop (rec .ready)) (by omega) hl3 rfl rfl);have hii:=hI.putObj (.loop (rec .ready)) hi3 (by omega) hl3 rfl;rw[hrec] at hr hl4 hk4 hkk hii ⊢;exact ⟨_,_,hr,rfl,⟨hii,hl4,hk4⟩,hkk⟩
  | ret=>exact hp.elim
  | exit id=>exact hp.elim
  | goto t=>exact hp.elim
  | panic ch=>exact hp.elim
  | outgrown=>exact hp.elim
 ·rintro e W2 ⟨⟨v,rfl⟩,xs,hS,hi,hl,hk⟩;exact ⟨none,_,by have:=run_endLoop (P:=P) hl (by rw[hrec];simp);rw[hrec] at this;exact this,hdone _ xs _ (Nat.le_refl _) hS (hI.putObj _ hi (by omega) hl rfl) ((World.putObj_heap_other (by omega)).trans hk)⟩
end Go.Proofs.YtplkbdncgkgppaaGreatDoor.Range
end
section
namespace Go.Proofs.YtplkbdncgkgppaaGreatDoor.Ana
open Go.RowKit Go.Lib FoldP FoldInts Kit FoldForms FoldNext FoldIter AnaP Range
attribute [local go_sem] Oper.semAt_some
def NxR (l:List UInt8) (pre:List (Nat × Int)) (x:Nat × Int):Prop:=∃rest,pre++x::rest=zbe l
def yff (x:Nat × Int):Array Value:=#[.int .i64 (x.1:Int),.int .i32 x.2]
theorem yew {l:List UInt8} {pre:List (Nat × Int)} {x:Nat × Int} (h:NxR l pre x):pre.length<nR l∧x.1=zae l pre.length∧x.1<l.length∧(zbt l).drop pre.length=x.2::(zbt l).drop (pre.length+1):=by
 obtain ⟨rest,h⟩:=h;have hl:pre.length<nR l:=by unfold nR;rw[←h];simp
 have hg:=zom l pre.length hl;rw[←h,List.getElem?_append_right (Nat.le_refl _),Nat.sub_self,List.getElem?_cons_zero] at hg;have hx:=Option.some.inj hg;have hm:x∈zbe l:=by rw[←h];simp
 refine ⟨hl,by rw[hx],(zgj hm).1,?_⟩;unfold zbt;rw[←h,List.map_append,List.map_cons];have e1:pre.length=(pre.map (·.2)).length:=by simp
 rw[e1,List.drop_left,List.drop_append,show (pre.map (·.2)).length+1 - (pre.map (·.2)).length=1 by omega,List.drop_eq_nil_of_le (by omega)];rfl
theorem zpc (l0 Bs:Nat) (s:ByteArray) (hs:s.size≤9223372036854775807) (J:List (Nat × Int)→World→Prop) (W:World)
 (hJ:AbidesFrom W.heap.size J)
 (hY:∀pre x W1,NxR s.data.toList pre x→J pre W1→YieldAt Fence.wide 4 Tryz.prog l0 (yff x) W1 fun e W'=>e = .returned (.bool true)∧J (pre++[x]) W'∧KpR Bs W1 W')
 (hBs:W.heap[Bs]?=some (.cells #[.string s] 9 (0,0))) (hT:zdi W) (h0:J [] W) :
 CallsIn Fence.wide 5 Tryz.prog 168 #[.func (.yield l0) #[] #[],.pointer (some ⟨Bs,0,none⟩)] W fun e W'=>(∃v,e = .returned v)∧∃ys,ys=zbe s.data.toList∧J ys W':=by
 have HJ:=hX hJ;clear hJ;have HY:=hX hY;clear hY;have HBS:=hX hBs;clear hBs;refine callsIn_of_wp Tryz.func168 rfl trivial ?_ rfl;simp only[Tryz.ntmps168,List.size_toArray,List.length_cons,List.length_nil,Nat.reduceAdd,Nat.reduceSub,Array.replicate_succ,Array.replicate_zero,List.push_toArray,List.append_toArray,List.nil_append,List.cons_append];gi_wp2
 gi_loopw [3] (fun i wr=>∃(k:Nat) (pre:List (Nat × Int)),k≤s.size∧i = .int .i64 k∧J pre wr∧Hid (pre++za9 k (s.data.toList.drop k)=zbe s.data.toList)∧KpR Bs W wr∧W.heap.size≤wr.heap.size)
  (fun i _=>s.size - (RowKit.intOf i).toNat)
 case atStart=>exact ⟨0,[],Nat.zero_le _,rfl,h0,hX rfl,⟨Below.refl _ _,rfl⟩,Nat.le_refl _⟩
 case round=>
  obtain ⟨k,pre,hk,rfl,hJs,hpre,hkp,hsz⟩:=hrel;have hlen:s.data.toList.length=s.size:=by simp
  have hcb:wr.cell? ⟨Bs,0,none⟩=some (.string s):=znf (hkp.2.trans HBS.out);have hTr:zdi wr:=hT.below hkp.1 (Nat.le_refl _);by_cases hlt:k<s.size
  ·have hst:=zfm s.data.toList k (by rw[hlen];exact hlt);have hat:=zg1 s.data.toList k (by rw[hlen];exact hlt);have hnx:=zne s k wr (by unfold maxLen;omega) hTr;unfold znb at hnx;rw[znc _ k (by rw[hlen];exact hlt)] at hnx;have hle:=decodeL_rune (s.data.toList.drop k);rw[hat] at hpre;rw[hlen] at hst;clear hat hlen;generalize hdr:decodeL (s.data.toList.drop k)=d at *;have HDR:=hX hdr;clear hdr;obtain ⟨rr,nn⟩:=d;dsimp only at *;obtain ⟨hst1,hst2⟩:=hst
   have HP:Hid ((pre++[(k,(rr:Int))])++za9 (k+nn) (s.data.toList.drop (k+nn))=zbe s.data.toList):=(by unfold Hid;refine Eq.trans ?_ hpre.out;simp)
   have HX:Hid (NxR s.data.toList pre (k,(rr:Int))):=hX ⟨_,hpre.out⟩;have HN:=hX hnx;clear hnx;gi_wp2_with fail
   refine ⟨trivial,?_⟩;refine (callsIn_wide.2 HN.out).mono ?_;rintro e w2 ⟨rfl,hb2⟩;have hJ2:J pre w2:=HJ.out _ _ _ none hJs (only_of_below hb2 none) (fun r e=>by cases e)
   have hB2:Bs<wr.heap.size:=by
    have h1:=hkp.2.trans HBS.out;rcases Nat.lt_or_ge Bs wr.heap.size with h' | h'
    ·exact h'
    ·rw[Array.getElem?_eq_none h'] at h1;cases h1
   have hkp2:KpR Bs W w2:=hkp.trans (KpR.below hb2 hTr.2 hB2);have hsz2:W.heap.size≤w2.heap.size:=Nat.le_trans hsz hb2.size;obtain ⟨fn,tmps,assign,body,hy,hR⟩:=HY.out pre (k,(rr:Int)) w2 HX.out hJ2;dsimp only[yff] at hy;have HKP:=hX hkp2;clear hkp hkp2 hb2;gi_wp2
   refine hR.mono ?_;rintro e W3 ⟨rfl,hJ3,hk3⟩;have HK3:=hX hk3;clear hk3;gi_wp2
   go_roundw;case rel=>exact ⟨k+nn,_,hst2,by go_num,hJ3,HP,HKP.out.trans HK3.out,Nat.le_trans hsz2 HK3.out.1.size⟩
   case measure=>simp[RowKit.intOf];omega
  ·obtain rfl:k=s.size:=by omega
   have hfin:pre=zbe s.data.toList:=(by have:=hpre.out;rw[zci _ _ (by rw[hlen];exact Nat.le_refl _),List.append_nil] at this;exact this)
   have HF:=hX hfin;clear hfin hlen;gi_wp2
   go_end0;exact ⟨⟨_,rfl⟩,_,HF.out,hJs⟩
theorem zq7 (Bs:Nat) (s:ByteArray) (hs:s.size≤9223372036854775807) (w:World) (hBs:w.heap[Bs]?=some (.cells #[.string s] 9 (0,0))) (hT:zdi w) :
 yev Fence.wide 5 Tryz.prog 168 #[.pointer (some ⟨Bs,0,none⟩)] yff (KpR Bs) (NxR s.data.toList) (fun xs=>xs=zbe s.data.toList) w:=fun l J W hW hJ hY h0=>by
 have hlt:Bs<w.heap.size:=by
  rcases Nat.lt_or_ge Bs w.heap.size with h' | h'
  ·exact h'
  ·rw[Array.getElem?_eq_none h'] at hBs;cases hBs
 exact zpc l Bs s hs J W hJ hY ((hW.block Bs hlt).trans hBs) (hT.next hW) h0
end Go.Proofs.YtplkbdncgkgppaaGreatDoor.Ana
end
section
namespace Go.Proofs.YtplkbdncgkgppaaGreatDoor.Ana
open Go.RowKit Go.Lib FoldP FoldInts Kit FoldForms FoldNext FoldIter AnaP Words Owned Tree Range
def frV (l:List UInt8):Option Nat→Int
 | none=>-1
 | some a=>(zae l a:Int)
theorem Blk.nc {A B:World} {g:Nat} {t:TypeId} {cs:Array Value} {row:Option Nat} (h:Blk A g t cs) (hg:A.grownBy B row) (hr:∀r,row=some r→∃o:Obj,A.heap[r]?=some o∧o.isCells=false):Blk B g t cs:=
 h.grown hg (fun e=>by obtain ⟨o,ho,hc⟩:=hr g e.symm;rw[show A.heap[g]?=_ from h] at ho;cases ho;cases hc)
structure RunI (may begins:Int→Bool) (s:ByteArray) (mv bv:Value) (w:World) (R:List (Nat × Nat)) (cuts:List (Nat × Nat)) (fr:Option Nat) (j:Nat) (W:World):Prop where
 len:cuts.length≤j
 from_:∀a,fr=some a→a<j
 all:cuts++za2 may begins ((zbt s.data.toList).drop j) j fr=R
 out:∃v,Boxed W (w.heap.size+3) 94 v∧W.ownsRow w.heap.size 98 4 v (za7 s cuts).length (zah (za7 s cuts))
 frm:Boxed W (w.heap.size+4) 3 (.int .i64 (frV s.data.toList fr))
 txt:Boxed W w.heap.size 9 (.string s)
 mayB:Blk W (w.heap.size+1) 163 #[mv]
 begB:Blk W (w.heap.size+2) 163 #[bv]
 endB:Blk W (w.heap.size+5) 106 #[.func (.func 151) #[] #[.pointer (some ⟨w.heap.size+4,0,none⟩),.pointer (some ⟨w.heap.size+3,0,none⟩),.pointer (some ⟨w.heap.size,0,none⟩)]]
 iter:Blk W (w.heap.size+6) 9 #[.string s]
 below:Below w.heap.size w W
def yex (may begins:Int→Bool) (s:ByteArray) (mv bv:Value) (w:World) (R:List (Nat × Nat)) (pre:List (Nat × Int)) (W:World):Prop:=∃cuts fr,RunI may begins s mv bv w R cuts fr pre.length W
theorem yad (may begins:Int→Bool) (s:ByteArray) (mv bv:Value) (w:World) (R:List (Nat × Nat)) (B:Nat) (hB:w.heap.size≤B):OwnFrom B (yex may begins s mv bv w R):=by
 rintro pre A W row ⟨cuts,fr,h⟩ hg hr;have hr2:∀r,row=some r→∃o:Obj,A.heap[r]?=some o∧o.isCells=false:=fun r e=>(hr r e).2;obtain ⟨v,h1,h2⟩:=h.out
 exact ⟨cuts,fr,h.len,h.from_,h.all,⟨v,Blk.nc h1 hg hr2,zgr h2 hg (fun r e=>by obtain ⟨o,ho,hc⟩:=hr2 r e;exact ⟨o,ho,zo8 hc⟩)⟩,
  Blk.nc h.frm hg hr2,Blk.nc h.txt hg hr2,Blk.nc h.mayB hg hr2,Blk.nc h.begB hg hr2,Blk.nc h.endB hg hr2,Blk.nc h.iter hg hr2,h.below.grown hg h.below.size (fun k e=>by have:=(hr k e).1;omega)⟩
theorem RunI.ended {may begins:Int→Bool} {s:ByteArray} {mv bv:Value} {w:World} {R cuts cuts':List (Nat × Nat)} {fr:Option Nat} {j j':Nat} {W W':World} (h:RunI may begins s mv bv w R cuts fr j W) (he:EndW w.heap.size (w.heap.size+4) (w.heap.size+3) (za7 s cuts') W W')
 (hl:cuts'.length≤j') (ha:cuts'++za2 may begins ((zbt s.data.toList).drop j') j' none=R):RunI may begins s mv bv w R cuts' none j' W':=by
 obtain ⟨v,h1,h2⟩:=he.out
 refine ⟨hl,(fun a e=>by cases e),ha,⟨v,h1,h2⟩,he.frm,he.cells _ _ _ h.txt (by decide) (by omega) (by omega),he.cells _ _ _ h.mayB (by decide) (by omega) (by omega),he.cells _ _ _ h.begB (by decide) (by omega) (by omega),
  he.cells _ _ _ h.endB (by decide) (by omega) (by omega),he.cells _ _ _ h.iter (by decide) (by omega) (by omega),h.below.trans he.below⟩
theorem RunI.stays {may begins:Int→Bool} {s:ByteArray} {mv bv:Value} {w:World} {R cuts:List (Nat × Nat)} {fr:Option Nat} {j:Nat} {W:World} (h:RunI may begins s mv bv w R cuts fr j W)
 (ha:cuts++za2 may begins ((zbt s.data.toList).drop (j+1)) (j+1) fr=R):RunI may begins s mv bv w R cuts fr (j+1) W:=
 ⟨Nat.le_succ_of_le h.len,fun a e=>Nat.lt_succ_of_lt (h.from_ a e),ha,h.out,h.frm,h.txt,h.mayB,h.begB,h.endB,h.iter,h.below⟩
theorem RunI.begun {may begins:Int→Bool} {s:ByteArray} {mv bv:Value} {w:World} {R cuts:List (Nat × Nat)} {fr:Option Nat} {j:Nat} {W:World} (h:RunI may begins s mv bv w R cuts fr j W)
 (ha:cuts++za2 may begins ((zbt s.data.toList).drop (j+1)) (j+1) (some j)=R):RunI may begins s mv bv w R cuts (some j) (j+1) (W.setCell ⟨w.heap.size+4,0,none⟩ (.int .i64 (zae s.data.toList j:Int))):=by
 obtain ⟨v,h1,h2⟩:=h.out
 refine ⟨Nat.le_succ_of_le h.len,(fun a e=>by cases e;omega),ha,⟨v,h1.other (by omega) _,h2.kept (row:=some (w.heap.size+4)) (grownBy_setCell' W _ _) (.inr (h.frm.not_row (by decide) h2).symm)⟩,h.frm.set _,h.txt.other (by omega) _,
  h.mayB.far (p:=⟨w.heap.size+4,0,none⟩) (by dsimp only;omega) _,h.begB.far (p:=⟨w.heap.size+4,0,none⟩) (by dsimp only;omega) _,h.endB.far (p:=⟨w.heap.size+4,0,none⟩) (by dsimp only;omega) _,h.iter.far (p:=⟨w.heap.size+4,0,none⟩) (by dsimp only;omega) _,h.below.setCell (p:=⟨w.heap.size+4,0,none⟩) (by dsimp only;omega) _⟩
theorem zt7 {may begins:Int→Bool} {s:ByteArray} {mv bv:Value} {w:World} {R:List (Nat × Nat)} (hR:za2 may begins (zbt s.data.toList) 0 none=R) :
 RunI may begins s mv bv w R [] none 0 (((((((w.alloc (.cells #[.string s] 9)).alloc (.cells #[mv] 163)).alloc (.cells #[bv] 163)).alloc (.cells #[.slice none 0 0] 94)).alloc (.cells #[.int .i64 (-1)] 3)).alloc
  (.cells #[.func (.func 151) #[] #[.pointer (some ⟨w.heap.size+4,0,none⟩),.pointer (some ⟨w.heap.size+3,0,none⟩),.pointer (some ⟨w.heap.size,0,none⟩)]] 106)).alloc (.cells #[.string s] 9)):=by
 have hb:∀(X:World) (n:Nat) (t:TypeId) (cs:Array Value),X.heap.size=n→Blk (X.alloc (.cells cs t)) n t cs:=fun X n t cs h=>by subst h;exact Blk.new X t cs
 refine ⟨Nat.le_refl _,(fun a e=>by cases e),hR,⟨.slice none 0 0,?_,World.ownsRow_nil _ _ _ _⟩,?_,?_,?_,?_,?_,?_,?_⟩
 ·exact (((hb _ _ _ _ (by simp)).alloc _).alloc _).alloc _
 ·exact ((hb _ _ _ _ (by simp)).alloc _).alloc _
 ·exact ((((((hb _ _ _ _ (by simp)).alloc _).alloc _).alloc _).alloc _).alloc _).alloc _
 ·exact (((((hb _ _ _ _ (by simp)).alloc _).alloc _).alloc _).alloc _).alloc _
 ·exact ((((hb _ _ _ _ (by simp)).alloc _).alloc _).alloc _).alloc _
 ·exact (hb _ _ _ _ (by simp)).alloc _
 ·exact hb _ _ _ _ (by simp)
 ·exact (((((((Below.refl _ _).alloc (Nat.le_refl _) _).alloc (by simp) _).alloc (by simp;omega) _).alloc (by simp;omega) _).alloc (by simp;omega) _).alloc (by simp;omega) _).alloc (by simp;omega) _
theorem RunI.kp {may begins:Int→Bool} {s:ByteArray} {mv bv:Value} {w:World} {R cuts cuts':List (Nat × Nat)} {fr fr':Option Nat} {j j':Nat} {W W':World} (h:RunI may begins s mv bv w R cuts fr j W) (h':RunI may begins s mv bv w R cuts' fr' j' W') (hb:Below w.heap.size W W') (h2:6≤w.heap.size):KpR (w.heap.size+6) W W':=
 ⟨hb.mono h2,Eq.trans h'.iter h.iter.symm⟩
theorem zsn {s:ByteArray} {cuts:List (Nat × Nat)} {a j p:Nat} (hp:p=zae s.data.toList j):za7 s cuts++[(⟨s.extract (zae s.data.toList a) p,(za7 s cuts).length,zae s.data.toList a,p⟩:TokD)]=za7 s (cuts++[(a,j)]):=by
 subst hp;rw[zl0,zcj];rfl
end Go.Proofs.YtplkbdncgkgppaaGreatDoor.Ana
end
