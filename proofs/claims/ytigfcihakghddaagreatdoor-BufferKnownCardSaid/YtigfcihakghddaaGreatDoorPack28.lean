/- Lemmas that the last text leans on. -/
import Derived.Test.YtigfcihakghddaaGreatDoorTake
import Derived.Test.YtigfcihakghddaaGreatDoorPack27
import Derived.Laws.EntriesVeiled
import Derived.Outline
import Derived.Test.YtigfcihakghddaaGreatDoorPack13
import Derived.Deep.QuietTactic
import Derived.BigQuiet
import Derived.Test.YtigfcihakghddaaGreatDoorFoldAmong
import Derived.Test.YtigfcihakghddaaGreatDoorPack26
set_option linter.all false
section
namespace Go.Proofs.YtigfcihakghddaaGreatDoor.Ana
open Go.RowKit Go.Lib FoldP FoldInts Kit FoldForms FoldNext FoldIter AnaP Words Owned Tree Range
attribute [local go_sem] Oper.semAt_some
def OwnToks (ts:List TokD) (w:World) (e:Ending) (w':World):Prop:=∃v,e = .returned v∧w'.ownsRow w.heap.size 179 4 v ts.length (tokCells ts)∧Below w.heap.size w w'
set_option maxRecDepth 100000 in
set_option maxHeartbeats 4000000 in
theorem runs_gen_in (s:ByteArray) (F1 F2:FuncId) (C1:Array Value) (may beg:Int→Bool) (hE1:∀args w,(callFunc F1 args).run Tryz.prog w = .ok (.enter F1 args) w) (hE2:∀args w,(callFunc F2 args).run Tryz.prog w = .ok (.enter F2 args) w) (w:World) (hs:s.size≤1099511627776) (hT:Tabs w) (hM:∀(r:Int) (W:World),Below w.heap.size w W→Calls Tryz.prog F1 (#[.int .i32 r]++C1) W (PureB (may r) W)) (hB:∀(r:Int) (W:World),Below w.heap.size w W→Calls Tryz.prog F2 #[.int .i32 r] W (PureB (beg r) W)) :
 CallsIn Fence.wide 6 Tryz.prog 148 #[.string s,.func (.func F1) #[] C1,.func (.func F2) #[] #[]] w (OwnToks (tokOf s (runIx may beg (runeL s.data.toList) 0 none)) w):=by
 obtain ⟨R,hR⟩:∃R,runIx may beg (runeL s.data.toList) 0 none=R:=⟨_,rfl⟩
 rw[hR];have HR:=hX hR;clear hR;have HT:=hX hT;clear hT;have HM:Hid (∀(r:Int) (W:World),Below w.heap.size w W→Calls Tryz.prog F1 (#[.int .i32 r]++C1) W (PureB (may r) W)):=hX (hM);have HB:Hid (∀(r:Int) (W:World),Below w.heap.size w W→Calls Tryz.prog F2 #[.int .i32 r] W (PureB (beg r) W)):=hX (hB);have hmf:∀(fn:Fn) (first cap:Array Value) (w:World),(Instr.makeFunc fn first cap).run Tryz.prog w = .ok (.func fn first cap) w:=fun _ _ _ _=>rfl;clear hM hB;refine callsIn_of_wp_marks Tryz.func148 rfl trivial ?_ rfl;simp only[Tryz.ntmps148,List.size_toArray,List.length_cons,List.length_nil,Nat.reduceAdd,Nat.reduceSub,Array.replicate_succ,Array.replicate_zero,List.push_toArray,List.append_toArray,List.nil_append,List.cons_append];gi_wp2_with fail
 refine ⟨trivial,?_⟩;refine (runes_in _ _ _).mono ?_;rintro e w' ⟨rfl,rfl⟩;gi_wp2_with fail
 simp only[Nat.add_assoc,Nat.reduceAdd];have HI0:=hX (runI_start (mv:=.func (.func F1) #[] C1) (bv:=.func (.func F2) #[] #[]) (w:=w) HR.out);have hsz:(((((((w.alloc (.cells #[.string s] 9)).alloc (.cells #[.func (.func F1) #[] C1] 219)).alloc (.cells #[.func (.func F2) #[] #[]] 219)).alloc (.cells #[.slice none 0 0] 156)).alloc (.cells #[.int .i64 (-1)] 3)).alloc (.cells #[.func (.func 208) #[] #[.pointer (some ⟨w.heap.size+4,0,none⟩),.pointer (some ⟨w.heap.size+3,0,none⟩),.pointer (some ⟨w.heap.size,0,none⟩)]] 229)).alloc (.cells #[.string s] 9)).heap.size=w.heap.size+7:=by simp
 have hlen:s.data.toList.length=s.size:=by simp
 obtain ⟨W0,hW0⟩:∃W0,(((((((w.alloc (.cells #[.string s] 9)).alloc (.cells #[.func (.func F1) #[] C1] 219)).alloc (.cells #[.func (.func F2) #[] #[]] 219)).alloc (.cells #[.slice none 0 0] 156)).alloc (.cells #[.int .i64 (-1)] 3)).alloc (.cells #[.func (.func 208) #[] #[.pointer (some ⟨w.heap.size+4,0,none⟩),.pointer (some ⟨w.heap.size+3,0,none⟩),.pointer (some ⟨w.heap.size,0,none⟩)]] 229)).alloc (.cells #[.string s] 9))=W0:=⟨_,rfl⟩
 rw[hW0] at hsz HI0 ⊢;have hT0:Tabs W0:=HT.out.next HI0.out.below;have h2:5≤w.heap.size:=HT.out.2;clear hW0
 refine wpIn_gives rfl (by omega) (gf:=247) (lb:=#[.pointer (some ⟨w.heap.size+6,0,none⟩)]) rfl trivial (enters_of Tryz.func247 (by kernel_rfl) rfl)
  (runes_gives (w.heap.size+6) s (by omega) W0 HI0.out.iter hT0) KpR.trans (kpR_b (by omega) (by omega)) (Below.refl _ _) (fun _=>rfl)
  (RunI2 may beg s (.func (.func F1) #[] C1) (.func (.func F2) #[] #[]) w R) (runI_own _ _ _ _ _ _ _ _ (by omega)) ⟨[],none,HI0.out⟩
  (fun x=>{ tmps:=#[.string s,.func (.func F1) #[] C1,.func (.func F2) #[] #[],.pointer (some ⟨w.heap.size,0,none⟩),.pointer (some ⟨w.heap.size+1,0,none⟩),.pointer (some ⟨w.heap.size+2,0,none⟩),.slice none 0 0,.pointer (some ⟨w.heap.size+3,0,none⟩),.pointer (some ⟨w.heap.size+4,0,none⟩),.pointer (some ⟨w.heap.size+5,0,none⟩),
    .int .i64 (x.1:Int),.int .i32 x.2,.func (.func 208) #[] #[.pointer (some ⟨w.heap.size+4,0,none⟩),.pointer (some ⟨w.heap.size+3,0,none⟩),.pointer (some ⟨w.heap.size,0,none⟩)],.string s,.func (.func 247) #[] #[.pointer (some ⟨w.heap.size+6,0,none⟩)],.int .i64 (x.1:Int),.int .i32 x.2,undef,undef,undef,undef,undef,undef,undef,undef,undef,undef,undef,undef,undef,undef,undef,undef,undef,undef,undef,undef,undef,undef],defers:=[] }) ?assign ?body ?done
 case assign=>
  intro l x W K hK;dsimp only[encP];gi_wp2
  exact hK
 case body=>
  rintro l0 pre x W hnx ⟨cuts,fr,hI⟩;obtain ⟨hj,hx1,hx2,hd⟩:=nx_get hnx;have hnl:=nR_le s.data.toList;rw[hlen] at hnl hx2;obtain ⟨p,r⟩:=x;dsimp only at hx1 hx2 hd ⊢;have cM:W.cell? ⟨w.heap.size+1,0,none⟩=some (.func (.func F1) #[] C1):=hI.mayB.cell 0;have cB:W.cell? ⟨w.heap.size+2,0,none⟩=some (.func (.func F2) #[] #[]):=hI.begB.cell 0;have cE:W.cell? ⟨w.heap.size+5,0,none⟩=some (.func (.func 208) #[] #[.pointer (some ⟨w.heap.size+4,0,none⟩),.pointer (some ⟨w.heap.size+3,0,none⟩),.pointer (some ⟨w.heap.size,0,none⟩)]):=hI.endB.cell 0;have cF:=hI.frm.cell;have cN:=hI.frm.frozen;have hcl:=hI.len;obtain ⟨v,hv1,hv2⟩:=hI.out;have HI:=hX hI;have HD:=hX hd;have HV1:=hX hv1;have HV2:=hX hv2;have HPJ:=hX hx1;have htl:=tokOf_len s cuts;have htl2:(tokOf s cuts).length≤1099511627776:=by omega
  have HLN:Hid ((pre++[((p,r):Nat × Int)]).length=pre.length+1):=hX (by simp);clear hI hd hv1 hv2 hx1 htl hlen
  cases hm:may r with
  | false=>
   have HC:Hid (∀W,Below w.heap.size w W→Calls Tryz.prog F1 (#[.int .i32 r]++C1) W (PureB false W)):=hX (fun W h=>by rw[←hm];exact HM.out r W h);have HMR:=hX hm;clear hm
   cases fr with
   | none=>
    have HE:Hid (cuts++runIx may beg ((runeL s.data.toList).drop (pre.length+1)) (pre.length+1) none=R):=hX (by have:=HI.out.all;rw[HD.out] at this;unfold runIx at this;rw[HMR.out] at this;exact this);dsimp only[frV] at cF;gi_wp2_with fail
    refine ⟨trivial,?_⟩;refine CallsIn.inRound l0 (callsIn_wide.2 (HC.out W HI.out.below)) |>.mono ?_
    rintro e w' ⟨rfl,rfl⟩;gi_wp2_with fail
    refine ⟨trivial,?_⟩;refine CallsIn.inRound l0 (callsIn_wide.2 (end_none w.heap.size (w.heap.size+4) (w.heap.size+3) w.heap.size (p:Int) (tokOf s cuts) v W (by omega) HI.out.frm HV1.out HV2.out)) |>.mono ?_
    rintro e w3 ⟨rfl,he⟩;have HW:=hX he;clear he cM cB cE cF cN;gi_wp2_with fail
    have hI3:=HI.out.ended HW.out (j':=pre.length+1) (by omega) HE.out;exact ⟨HW.out.others.from _,HI.out.kp hI3 HW.out.below h2,cuts,none,by rw[HLN.out];exact hI3⟩
   | some a=>
    have ha:=HI.out.from_ a rfl;have hpa:posAt s.data.toList a≤p:=by rw[HPJ.out];exact posAt_mono _ _ _ (by omega) (by omega)
    have HE:Hid ((cuts++[(a,pre.length)])++runIx may beg ((runeL s.data.toList).drop (pre.length+1)) (pre.length+1) none=R):=hX (by have:=HI.out.all;rw[HD.out] at this;unfold runIx at this;rw[HMR.out] at this;simpa using this);dsimp only[frV] at cF;gi_wp2_with fail
    refine ⟨trivial,?_⟩;refine CallsIn.inRound l0 (callsIn_wide.2 (HC.out W HI.out.below)) |>.mono ?_
    rintro e w' ⟨rfl,rfl⟩;gi_wp2_with fail
    refine ⟨trivial,?_⟩;refine CallsIn.inRound l0 (callsIn_wide.2 (end_some w.heap.size (w.heap.size+4) (w.heap.size+3) w.heap.size (posAt s.data.toList a) p s (tokOf s cuts) v W (by omega) (by omega) hpa (by omega) hs htl2 HI.out.frm HV1.out HI.out.txt HV2.out)) |>.mono ?_
    rintro e w3 ⟨rfl,he⟩;rw[tok_snoc HPJ.out] at he;have HW:=hX he;clear he cM cB cE cF cN;gi_wp2_with fail
    have hI3:=HI.out.ended HW.out (j':=pre.length+1) (by simp;omega) HE.out;exact ⟨HW.out.others.from _,HI.out.kp hI3 HW.out.below h2,_,none,by rw[HLN.out];exact hI3⟩
  | true=>
   have HC:Hid (∀W,Below w.heap.size w W→Calls Tryz.prog F1 (#[.int .i32 r]++C1) W (PureB true W)):=hX (fun W h=>by rw[←hm];exact HM.out r W h);have HMR:=hX hm;clear hm
   cases fr with
   | some a=>
    have HE:Hid (cuts++runIx may beg ((runeL s.data.toList).drop (pre.length+1)) (pre.length+1) (some a)=R):=hX (by have:=HI.out.all;rw[HD.out] at this;unfold runIx at this;rw[HMR.out] at this;exact this);dsimp only[frV] at cF;have hneg:decide ((posAt s.data.toList a:Int)<0)=false:=by rw[decide_eq_false_iff_not];omega
    gi_wp2_with fail
    refine ⟨trivial,?_⟩;refine CallsIn.inRound l0 (callsIn_wide.2 (HC.out W HI.out.below)) |>.mono ?_
    rintro e w' ⟨rfl,rfl⟩;gi_wp2_with fail
    refine ⟨fun f e=>(by cases e),?_⟩;gi_wp2_with fail
    have hI3:=HI.out.stays HE.out;exact ⟨KeepsFrom.refl _ _,HI.out.kp hI3 (Below.refl _ _) h2,_,_,by rw[HLN.out];exact hI3⟩
   | none=>
    dsimp only[frV] at cF
    cases hb:beg r with
    | true=>
     have HC2:Hid (∀W,Below w.heap.size w W→Calls Tryz.prog F2 #[.int .i32 r] W (PureB true W)):=hX (fun W h=>by rw[←hb];exact HB.out r W h);have HE:Hid (cuts++runIx may beg ((runeL s.data.toList).drop (pre.length+1)) (pre.length+1) (some pre.length)=R):=hX (by have:=HI.out.all;rw[HD.out] at this;unfold runIx at this;rw[HMR.out] at this;(try rw[hb] at this);first | exact this | cases hb.symm.trans HMR.out);clear hb;gi_wp2_with fail
     refine ⟨trivial,?_⟩;refine CallsIn.inRound l0 (callsIn_wide.2 (HC.out W HI.out.below)) |>.mono ?_
     rintro e w' ⟨rfl,rfl⟩;gi_wp2_with fail
     refine ⟨trivial,?_⟩;refine CallsIn.inRound l0 (callsIn_wide.2 (HC2.out W HI.out.below)) |>.mono ?_
     rintro e w' ⟨rfl,rfl⟩;gi_wp2_with fail
     have hI3:=HI.out.begun HE.out;rw[←HPJ.out] at hI3;exact ⟨(KeepsOthers.setCell _ _ _).from _,HI.out.kp hI3 ((Below.refl _ _).setCell (p:=⟨w.heap.size+4,0,none⟩) (by dsimp only;omega) _) h2,_,_,by rw[HLN.out];exact hI3⟩
    | false=>
     have HC2:Hid (∀W,Below w.heap.size w W→Calls Tryz.prog F2 #[.int .i32 r] W (PureB false W)):=hX (fun W h=>by rw[←hb];exact HB.out r W h);have HE:Hid (cuts++runIx may beg ((runeL s.data.toList).drop (pre.length+1)) (pre.length+1) none=R):=hX (by have:=HI.out.all;rw[HD.out] at this;unfold runIx at this;rw[HMR.out] at this;(try rw[hb] at this);first | exact this | cases hb.symm.trans HMR.out);clear hb;gi_wp2_with fail
     refine ⟨trivial,?_⟩;refine CallsIn.inRound l0 (callsIn_wide.2 (HC.out W HI.out.below)) |>.mono ?_
     rintro e w' ⟨rfl,rfl⟩;gi_wp2_with fail
     refine ⟨trivial,?_⟩;refine CallsIn.inRound l0 (callsIn_wide.2 (HC2.out W HI.out.below)) |>.mono ?_
     rintro e w' ⟨rfl,rfl⟩;gi_wp2_with fail
     have hI3:=HI.out.stays HE.out;exact ⟨KeepsFrom.refl _ _,HI.out.kp hI3 (Below.refl _ _) h2,_,_,by rw[HLN.out];exact hI3⟩
 case done=>
  rintro D ys W hD rfl ⟨cuts,fr,hI⟩ hK;have hjn:(runesL s.data.toList).length=nR s.data.toList:=rfl;have hnl:=nR_le s.data.toList;rw[hlen] at hnl;rw[hjn] at hI;have hcl:=hI.len;have htl:=tokOf_len s cuts;have htl2:(tokOf s cuts).length≤1099511627776:=by omega
  have hdr:(runeL s.data.toList).drop (nR s.data.toList)=[]:=List.drop_eq_nil_of_le (by rw[runeL_len];exact Nat.le_refl _);have cT:W.cell? ⟨w.heap.size,0,none⟩=some (.string s):=hI.txt.cell;have cE:W.cell? ⟨w.heap.size+5,0,none⟩=some (.func (.func 208) #[] #[.pointer (some ⟨w.heap.size+4,0,none⟩),.pointer (some ⟨w.heap.size+3,0,none⟩),.pointer (some ⟨w.heap.size,0,none⟩)]):=hI.endB.cell 0;obtain ⟨v,hv1,hv2⟩:=hI.out;have HI:=hX hI;have HV1:=hX hv1;have HV2:=hX hv2;have HDR:=hX hdr;have HKD:=hX hK;have HEND:Hid (posAt s.data.toList (nR s.data.toList)=s.size):=hX (by rw[posAt_end];exact hlen);clear hI hv1 hv2 hdr htl hlen hjn hK
  have HC:Hid (Calls Tryz.prog 208 #[.int .i64 (s.size:Int),.pointer (some ⟨w.heap.size+4,0,none⟩),.pointer (some ⟨w.heap.size+3,0,none⟩),.pointer (some ⟨w.heap.size,0,none⟩)] W (EndRet w.heap.size (w.heap.size+4) (w.heap.size+3) (tokOf s R) W)):=hX (by
   cases fr with
   | none=>
    have e:=HI.out.all;rw[HDR.out] at e;simp only[runIx,List.append_nil] at e;subst e;exact end_none _ _ _ _ _ _ v W (by omega) HI.out.frm HV1.out HV2.out
   | some a=>
    have e:=HI.out.all;rw[HDR.out] at e;simp only[runIx] at e;subst e;have ha:=HI.out.from_ a rfl;rw[←tok_snoc HEND.out.symm]
    exact end_some _ _ _ _ _ _ s _ v W (by omega) (by omega) (by rw[←HEND.out];exact posAt_mono _ _ _ (by omega) (Nat.le_refl _)) (Nat.le_refl _) hs htl2 HI.out.frm HV1.out HI.out.txt HV2.out)
  gi_wp2_with fail
  refine ⟨trivial,?_⟩;refine (callsIn_wide.2 HC.out).mono ?_;rintro e w3 ⟨rfl,he⟩;obtain ⟨u,hu1,hu2⟩:=he.out;have cU:=hu1.cell;have hK3:w3.heap[D]?=some (.deferred (some [])):=he.others.same D _ HKD.out rfl;have HW:=hX he;have HU2:=hX hu2;have HK3:=hX hK3;clear he hu1 hu2 hK3 cT cE;gi_wp2_with fail
  refine ⟨by simp,.inl ⟨_,_,rfl,run_takeDeferred HK3.out,?_⟩⟩;refine ⟨_,results_tmp rfl _ _ _,?_⟩;exact ⟨_,rfl,ownsRow_putObj HU2.out _ HK3.out rfl,(HI.out.below.trans HW.out.below).trans (belowK_b (w:=w) (Nat.le_refl _) _ D _ _ (by omega) HK3.out rfl rfl)⟩
theorem runs_gen (s:ByteArray) (F1 F2:FuncId) (C1:Array Value) (may beg:Int→Bool) (hE1:∀args w,(callFunc F1 args).run Tryz.prog w = .ok (.enter F1 args) w) (hE2:∀args w,(callFunc F2 args).run Tryz.prog w = .ok (.enter F2 args) w) (w:World) (hs:s.size≤1099511627776) (hT:Tabs w) (hM:∀(r:Int) (W:World),Below w.heap.size w W→Calls Tryz.prog F1 (#[.int .i32 r]++C1) W (PureB (may r) W)) (hB:∀(r:Int) (W:World),Below w.heap.size w W→Calls Tryz.prog F2 #[.int .i32 r] W (PureB (beg r) W)):Calls Tryz.prog 148 #[.string s,.func (.func F1) #[] C1,.func (.func F2) #[] #[]] w (OwnToks (tokOf s (runIx may beg (runeL s.data.toList) 0 none)) w):=(callsIn_wide.1 (runs_gen_in s F1 F2 C1 may beg hE1 hE2 w hs hT hM hB))
theorem runs_solid (s:ByteArray) (w:World) (hs:s.size≤1099511627776) (hT:Tabs w):Calls Tryz.prog 148 #[.string s,.func (.func 146) #[] #[],.func (.func 146) #[] #[]] w (OwnToks (tokOf s (runIx solidF solidF (runeL s.data.toList) 0 none)) w):=
 runs_gen s _ _ #[] solidF solidF (enters_of Tryz.func146 (by kernel_rfl) rfl) (enters_of Tryz.func146 (by kernel_rfl) rfl) w hs hT (fun r W _=>solid_any r W) (fun r W _=>solid_any r W)
theorem runs_whole (s:ByteArray) (w:World) (hs:s.size≤1099511627776) (hT:Tabs w):Calls Tryz.prog 148 #[.string s,.func (.func 149) #[] #[],.func (.func 150) #[] #[]] w (OwnToks (tokOf s (runIx anyF anyF (runeL s.data.toList) 0 none)) w):=
 runs_gen s _ _ #[] anyF anyF (enters_of Tryz.func149 (by kernel_rfl) rfl) (enters_of Tryz.func150 (by kernel_rfl) rfl) w hs hT (fun r W _=>any2_any r W) (fun r W _=>any3_any r W)
theorem runs_words (s:ByteArray) (b:Nat) (w:World) (hs:s.size≤1099511627776) (hT:Tabs w) (hb:b<w.heap.size) (hc:w.cell? ⟨b,0,none⟩=some (.func (.func 204) #[] #[])):Calls Tryz.prog 148 #[.string s,.func (.func 207) #[] #[.pointer (some ⟨b,0,none⟩)],.func (.func 204) #[] #[]] w (OwnToks (tokOf s (runIx mayF wordF (runeL s.data.toList) 0 none)) w):=
 runs_gen s _ _ #[.pointer (some ⟨b,0,none⟩)] mayF wordF (enters_of Tryz.func207 (by kernel_rfl) rfl) (enters_of Tryz.func204 (by kernel_rfl) rfl) w hs hT (fun r W h=>may_any r b W ((h.cell (p:=⟨b,0,none⟩) hb).trans hc)) (fun r W _=>word_any r W)
end Go.Proofs.YtigfcihakghddaaGreatDoor.Ana
end
section
namespace Go.Proofs.YtigfcihakghddaaGreatDoor.Ana
open Go.RowKit Go.Lib FoldP FoldInts Kit FoldForms FoldNext FoldIter AnaP Words Owned Tree
theorem OwnToks.base {ts:List TokD} {w0 w w':World} {e:Ending} (h:OwnToks ts w e w') (hb:Below w0.heap.size w0 w):OwnToks ts w0 e w':=by
 obtain ⟨v,h1,h2,h3⟩:=h;exact ⟨v,h1,own_base h2 hb.size,hb.trans (h3.mono hb.size)⟩
theorem letters_any (s:ByteArray) (w:World) (hs:s.size≤1099511627776) (hT:Tabs w) :
 Calls Tryz.prog 145 #[.string s] w (OwnToks (tokOf s (runIx mayF wordF (runeL s.data.toList) 0 none)) w):=by
 have hb0:Below w.heap.size w (w.alloc (.cells #[.func (.func 204) #[] #[]] 219)):=(Below.refl _ _).alloc (Nat.le_refl _) _;have HC:=hX (runs_words s w.heap.size (w.alloc (.cells #[.func (.func 204) #[] #[]] 219)) hs (hT.next hb0) (by simp) ((Blk.new w 219 #[.func (.func 204) #[] #[]]).cell 0));have HB:=hX hb0;have hmf:∀(fn:Fn) (first cap:Array Value) (w:World),(Instr.makeFunc fn first cap).run Tryz.prog w = .ok (.func fn first cap) w:=fun _ _ _ _=>rfl;generalize tokOf s (runIx mayF wordF (runeL s.data.toList) 0 none)=R at *;clear hb0 hT;go_enter Tryz.func145,Tryz.ntmps145;go_wp2_with fail;refine HC.out.mono ?_;rintro e w' h;obtain ⟨v,rfl,h2,h3⟩:=h.base HB.out;have H2:=hX h2;have H3:=hX h3;clear h h2 h3;go_wp2_with fail;go_ret;exact ⟨v,rfl,H2.out,H3.out⟩
theorem toks_1 (s:ByteArray) (w:World) (hs:s.size≤1099511627776) (hT:Tabs w) :
 Calls Tryz.prog 122 #[.int .i64 1,.string s] w (OwnToks (tokensF 1 s) w):=by
 have HE:Hid (tokensF 1 s=tokOf s (runIx mayF wordF (runeL s.data.toList) 0 none)):=hX rfl;have HC:=hX (letters_any s w hs hT);rw[HE.out];generalize tokOf s (runIx mayF wordF (runeL s.data.toList) 0 none)=R at *;clear hT;go_enter Tryz.func122,Tryz.ntmps122;go_wp2_with fail;refine HC.out.mono ?_;rintro e w' ⟨v,rfl,h2,h3⟩;have H2:=hX h2;have H3:=hX h3;clear h2 h3;go_wp2_with fail;go_ret;exact ⟨v,rfl,H2.out,H3.out⟩
theorem toks_2 (s:ByteArray) (w:World) (hs:s.size≤1099511627776) (hT:Tabs w) :
 Calls Tryz.prog 122 #[.int .i64 2,.string s] w (OwnToks (tokensF 2 s) w):=by
 have HE:Hid (tokensF 2 s=tokOf s (runIx solidF solidF (runeL s.data.toList) 0 none)):=hX rfl;have HC:=hX (runs_solid s w hs hT);rw[HE.out];generalize tokOf s (runIx solidF solidF (runeL s.data.toList) 0 none)=R at *;clear hT;go_enter Tryz.func122,Tryz.ntmps122;go_wp2_with fail;refine HC.out.mono ?_;rintro e w' ⟨v,rfl,h2,h3⟩;have H2:=hX h2;have H3:=hX h3;clear h2 h3;go_wp2_with fail;go_ret;exact ⟨v,rfl,H2.out,H3.out⟩
theorem toks_3 (s:ByteArray) (w:World) (hs:s.size≤1099511627776) (hT:Tabs w) :
 Calls Tryz.prog 122 #[.int .i64 3,.string s] w (OwnToks (tokensF 3 s) w):=by
 have HE:Hid (tokensF 3 s=tokOf s (runIx anyF anyF (runeL s.data.toList) 0 none)):=hX (by rw[runIx_whole];rfl);have HC:=hX (runs_whole s w hs hT);rw[HE.out];generalize tokOf s (runIx anyF anyF (runeL s.data.toList) 0 none)=R at *;clear hT;go_enter Tryz.func122,Tryz.ntmps122;go_wp2_with fail;refine HC.out.mono ?_;rintro e w' ⟨v,rfl,h2,h3⟩;have H2:=hX h2;have H3:=hX h3;clear h2 h3;go_wp2_with fail;go_ret;exact ⟨v,rfl,H2.out,H3.out⟩
end Go.Proofs.YtigfcihakghddaaGreatDoor.Ana
end
section
namespace Go.Proofs.YtigfcihakghddaaGreatDoor.Ana
open Go.RowKit Go.Lib AnaP Words Tree Kit Owned
end Go.Proofs.YtigfcihakghddaaGreatDoor.Ana
end
section
namespace Go.Proofs.YtigfcihakghddaaGreatDoor.FoldAmong
open Go.RowKit FoldP FoldInts Kit
end Go.Proofs.YtigfcihakghddaaGreatDoor.FoldAmong
end
section
namespace Go.Proofs.YtigfcihakghddaaGreatDoor.Ana
open Go.RowKit Go.Lib AnaP Words Tree Kit Owned FoldP FoldInts FoldAmong
def runeCells (l:List Int):List Value:=l.map (Value.int .i32)
theorem own_slice2 {w:World} {B n m:Nat} {e:TypeId} {v:Value} {xs:List Value} (h:w.ownsRow B e m v n xs):∃ao cap,v = .slice ao n cap:=by
 rcases h.2 with ⟨rfl,h0⟩ | ⟨g,cap,cur,rfl,_⟩
 ·exact ⟨none,0,by rw[h0]⟩
 ·exact ⟨_,_,rfl⟩
end Go.Proofs.YtigfcihakghddaaGreatDoor.Ana
end
