/- Lemmas that the last text leans on. -/
import Derived.Test.YtplkbdncgkgppaaGreatDoorTake
import Derived.Test.YtplkbdncgkgppaaGreatDoorPack40
import Derived.Laws.EntriesVeiled
import Derived.Outline
import Derived.Test.YtplkbdncgkgppaaGreatDoorPack25
import Derived.Test.YtplkbdncgkgppaaGreatDoorPack30
import Derived.Deep.QuietTactic
import Derived.BigQuiet
import Derived.Test.YtplkbdncgkgppaaGreatDoorPack37
set_option linter.all false
section
namespace Go.Proofs.YtplkbdncgkgppaaGreatDoor.Ana
open Go.RowKit Go.Lib FoldP FoldInts Kit FoldForms FoldNext FoldIter AnaP Words Owned Tree Range
attribute [local go_sem] Oper.semAt_some
def zcn (ts:List TokD) (w:World) (e:Ending) (w':World):Prop:=∃v,e = .returned v∧w'.ownsRow w.heap.size 98 4 v ts.length (zah ts)∧Below w.heap.size w w'
set_option maxRecDepth 100000 in
set_option maxHeartbeats 4000000 in
theorem zq8 (s:ByteArray) (F1 F2:FuncId) (C1:Array Value) (may beg:Int→Bool) (hE1:∀args w,(callFunc F1 args).run Tryz.prog w = .ok (.enter F1 args) w) (hE2:∀args w,(callFunc F2 args).run Tryz.prog w = .ok (.enter F2 args) w) (w:World) (hs:s.size≤1099511627776) (hT:zdi w) (hM:∀(r:Int) (W:World),Below w.heap.size w W→Calls Tryz.prog F1 (#[.int .i32 r]++C1) W (zdc (may r) W)) (hB:∀(r:Int) (W:World),Below w.heap.size w W→Calls Tryz.prog F2 #[.int .i32 r] W (zdc (beg r) W)) :
 CallsIn Fence.wide 6 Tryz.prog 119 #[.string s,.func (.func F1) #[] C1,.func (.func F2) #[] #[]] w (zcn (za7 s (za2 may beg (zbt s.data.toList) 0 none)) w):=by
 obtain ⟨R,hR⟩:∃R,za2 may beg (zbt s.data.toList) 0 none=R:=⟨_,rfl⟩
 rw[hR];have HR:=hX hR;clear hR;have HT:=hX hT;clear hT;have HM:Hid (∀(r:Int) (W:World),Below w.heap.size w W→Calls Tryz.prog F1 (#[.int .i32 r]++C1) W (zdc (may r) W)):=hX (hM);have HB:Hid (∀(r:Int) (W:World),Below w.heap.size w W→Calls Tryz.prog F2 #[.int .i32 r] W (zdc (beg r) W)):=hX (hB);have hmf:∀(fn:Fn) (first cap:Array Value) (w:World),(Instr.makeFunc fn first cap).run Tryz.prog w = .ok (.func fn first cap) w:=fun _ _ _ _=>rfl;clear hM hB;refine callsIn_of_wp_marks Tryz.func119 rfl trivial ?_ rfl;simp only[Tryz.ntmps119,List.size_toArray,List.length_cons,List.length_nil,Nat.reduceAdd,Nat.reduceSub,Array.replicate_succ,Array.replicate_zero,List.push_toArray,List.append_toArray,List.nil_append,List.cons_append];gi_wp2_with fail
 refine ⟨trivial,?_⟩;refine (zng _ _ _).mono ?_;rintro e w' ⟨rfl,rfl⟩;gi_wp2_with fail
 simp only[Nat.add_assoc,Nat.reduceAdd];have HI0:=hX (zt7 (mv:=.func (.func F1) #[] C1) (bv:=.func (.func F2) #[] #[]) (w:=w) HR.out);have hsz:(((((((w.alloc (.cells #[.string s] 9)).alloc (.cells #[.func (.func F1) #[] C1] 163)).alloc (.cells #[.func (.func F2) #[] #[]] 163)).alloc (.cells #[.slice none 0 0] 94)).alloc (.cells #[.int .i64 (-1)] 3)).alloc (.cells #[.func (.func 151) #[] #[.pointer (some ⟨w.heap.size+4,0,none⟩),.pointer (some ⟨w.heap.size+3,0,none⟩),.pointer (some ⟨w.heap.size,0,none⟩)]] 106)).alloc (.cells #[.string s] 9)).heap.size=w.heap.size+7:=by simp
 have hlen:s.data.toList.length=s.size:=by simp
 obtain ⟨W0,hW0⟩:∃W0,(((((((w.alloc (.cells #[.string s] 9)).alloc (.cells #[.func (.func F1) #[] C1] 163)).alloc (.cells #[.func (.func F2) #[] #[]] 163)).alloc (.cells #[.slice none 0 0] 94)).alloc (.cells #[.int .i64 (-1)] 3)).alloc (.cells #[.func (.func 151) #[] #[.pointer (some ⟨w.heap.size+4,0,none⟩),.pointer (some ⟨w.heap.size+3,0,none⟩),.pointer (some ⟨w.heap.size,0,none⟩)]] 106)).alloc (.cells #[.string s] 9))=W0:=⟨_,rfl⟩
 rw[hW0] at hsz HI0 ⊢;have hT0:zdi W0:=HT.out.next HI0.out.below;have h2:6≤w.heap.size:=HT.out.2;clear hW0
 refine zt6 rfl (by omega) (gf:=168) (lb:=#[.pointer (some ⟨w.heap.size+6,0,none⟩)]) rfl trivial (enters_of Tryz.func168 (by kernel_rfl) rfl)
  (zq7 (w.heap.size+6) s (by omega) W0 HI0.out.iter hT0) KpR.trans (ycy (by omega) (by omega)) (Below.refl _ _) (fun _=>rfl)
  (yex may beg s (.func (.func F1) #[] C1) (.func (.func F2) #[] #[]) w R) (yad _ _ _ _ _ _ _ _ (by omega)) ⟨[],none,HI0.out⟩
  (fun x=>{ tmps:=#[.string s,.func (.func F1) #[] C1,.func (.func F2) #[] #[],.pointer (some ⟨w.heap.size,0,none⟩),.pointer (some ⟨w.heap.size+1,0,none⟩),.pointer (some ⟨w.heap.size+2,0,none⟩),.slice none 0 0,.pointer (some ⟨w.heap.size+3,0,none⟩),.pointer (some ⟨w.heap.size+4,0,none⟩),.pointer (some ⟨w.heap.size+5,0,none⟩),
    .int .i64 (x.1:Int),.int .i32 x.2,.func (.func 151) #[] #[.pointer (some ⟨w.heap.size+4,0,none⟩),.pointer (some ⟨w.heap.size+3,0,none⟩),.pointer (some ⟨w.heap.size,0,none⟩)],.string s,.func (.func 168) #[] #[.pointer (some ⟨w.heap.size+6,0,none⟩)],.int .i64 (x.1:Int),.int .i32 x.2,undef,undef,undef,undef,undef,undef,undef,undef,undef,undef,undef,undef,undef,undef,undef,undef,undef,undef,undef,undef,undef,undef],defers:=[] }) ?assign ?body ?done
 case assign=>
  intro l x W K hK;dsimp only[yff];gi_wp2
  exact hK
 case body=>
  rintro l0 pre x W hnx ⟨cuts,fr,hI⟩;obtain ⟨hj,hx1,hx2,hd⟩:=yew hnx;have hnl:=zol s.data.toList;rw[hlen] at hnl hx2;obtain ⟨p,r⟩:=x;dsimp only at hx1 hx2 hd ⊢;have cM:W.cell? ⟨w.heap.size+1,0,none⟩=some (.func (.func F1) #[] C1):=hI.mayB.cell 0;have cB:W.cell? ⟨w.heap.size+2,0,none⟩=some (.func (.func F2) #[] #[]):=hI.begB.cell 0;have cE:W.cell? ⟨w.heap.size+5,0,none⟩=some (.func (.func 151) #[] #[.pointer (some ⟨w.heap.size+4,0,none⟩),.pointer (some ⟨w.heap.size+3,0,none⟩),.pointer (some ⟨w.heap.size,0,none⟩)]):=hI.endB.cell 0;have cF:=hI.frm.cell;have cN:=hI.frm.frozen;have hcl:=hI.len;obtain ⟨v,hv1,hv2⟩:=hI.out;have HI:=hX hI;have HD:=hX hd;have HV1:=hX hv1;have HV2:=hX hv2;have HPJ:=hX hx1;have htl:=zcj s cuts;have htl2:(za7 s cuts).length≤1099511627776:=by omega
  have HLN:Hid ((pre++[((p,r):Nat × Int)]).length=pre.length+1):=hX (by simp);clear hI hd hv1 hv2 hx1 htl hlen
  cases hm:may r with
  | false=>
   have HC:Hid (∀W,Below w.heap.size w W→Calls Tryz.prog F1 (#[.int .i32 r]++C1) W (zdc false W)):=hX (fun W h=>by rw[←hm];exact HM.out r W h);have HMR:=hX hm;clear hm
   cases fr with
   | none=>
    have HE:Hid (cuts++za2 may beg ((zbt s.data.toList).drop (pre.length+1)) (pre.length+1) none=R):=hX (by have:=HI.out.all;rw[HD.out] at this;unfold za2 at this;rw[HMR.out] at this;exact this);dsimp only[frV] at cF;gi_wp2_with fail
    refine ⟨trivial,?_⟩;refine CallsIn.inRound l0 (callsIn_wide.2 (HC.out W HI.out.below)) |>.mono ?_
    rintro e w' ⟨rfl,rfl⟩;gi_wp2_with fail
    refine ⟨trivial,?_⟩;refine CallsIn.inRound l0 (callsIn_wide.2 (zsl w.heap.size (w.heap.size+4) (w.heap.size+3) w.heap.size (p:Int) (za7 s cuts) v W (by omega) HI.out.frm HV1.out HV2.out)) |>.mono ?_
    rintro e w3 ⟨rfl,he⟩;have HW:=hX he;clear he cM cB cE cF cN;gi_wp2_with fail
    have hI3:=HI.out.ended HW.out (j':=pre.length+1) (by omega) HE.out;exact ⟨HW.out.others.from _,HI.out.kp hI3 HW.out.below h2,cuts,none,by rw[HLN.out];exact hI3⟩
   | some a=>
    have ha:=HI.out.from_ a rfl;have hpa:zae s.data.toList a≤p:=by rw[HPJ.out];exact zb3 _ _ _ (by omega) (by omega)
    have HE:Hid ((cuts++[(a,pre.length)])++za2 may beg ((zbt s.data.toList).drop (pre.length+1)) (pre.length+1) none=R):=hX (by have:=HI.out.all;rw[HD.out] at this;unfold za2 at this;rw[HMR.out] at this;simpa using this);dsimp only[frV] at cF;gi_wp2_with fail
    refine ⟨trivial,?_⟩;refine CallsIn.inRound l0 (callsIn_wide.2 (HC.out W HI.out.below)) |>.mono ?_
    rintro e w' ⟨rfl,rfl⟩;gi_wp2_with fail
    refine ⟨trivial,?_⟩;refine CallsIn.inRound l0 (callsIn_wide.2 (zsm w.heap.size (w.heap.size+4) (w.heap.size+3) w.heap.size (zae s.data.toList a) p s (za7 s cuts) v W (by omega) (by omega) hpa (by omega) hs htl2 HI.out.frm HV1.out HI.out.txt HV2.out)) |>.mono ?_
    rintro e w3 ⟨rfl,he⟩;rw[zsn HPJ.out] at he;have HW:=hX he;clear he cM cB cE cF cN;gi_wp2_with fail
    have hI3:=HI.out.ended HW.out (j':=pre.length+1) (by simp;omega) HE.out;exact ⟨HW.out.others.from _,HI.out.kp hI3 HW.out.below h2,_,none,by rw[HLN.out];exact hI3⟩
  | true=>
   have HC:Hid (∀W,Below w.heap.size w W→Calls Tryz.prog F1 (#[.int .i32 r]++C1) W (zdc true W)):=hX (fun W h=>by rw[←hm];exact HM.out r W h);have HMR:=hX hm;clear hm
   cases fr with
   | some a=>
    have HE:Hid (cuts++za2 may beg ((zbt s.data.toList).drop (pre.length+1)) (pre.length+1) (some a)=R):=hX (by have:=HI.out.all;rw[HD.out] at this;unfold za2 at this;rw[HMR.out] at this;exact this);dsimp only[frV] at cF;have hneg:decide ((zae s.data.toList a:Int)<0)=false:=by rw[decide_eq_false_iff_not];omega
    gi_wp2_with fail
    refine ⟨trivial,?_⟩;refine CallsIn.inRound l0 (callsIn_wide.2 (HC.out W HI.out.below)) |>.mono ?_
    rintro e w' ⟨rfl,rfl⟩;gi_wp2_with fail
    refine ⟨fun f e=>(by cases e),?_⟩;gi_wp2_with fail
    have hI3:=HI.out.stays HE.out;exact ⟨KeepsFrom.refl _ _,HI.out.kp hI3 (Below.refl _ _) h2,_,_,by rw[HLN.out];exact hI3⟩
   | none=>
    dsimp only[frV] at cF
    cases hb:beg r with
    | true=>
     have HC2:Hid (∀W,Below w.heap.size w W→Calls Tryz.prog F2 #[.int .i32 r] W (zdc true W)):=hX (fun W h=>by rw[←hb];exact HB.out r W h);have HE:Hid (cuts++za2 may beg ((zbt s.data.toList).drop (pre.length+1)) (pre.length+1) (some pre.length)=R):=hX (by have:=HI.out.all;rw[HD.out] at this;unfold za2 at this;rw[HMR.out] at this;(try rw[hb] at this);first | exact this | cases hb.symm.trans HMR.out);clear hb;gi_wp2_with fail
     refine ⟨trivial,?_⟩;refine CallsIn.inRound l0 (callsIn_wide.2 (HC.out W HI.out.below)) |>.mono ?_
     rintro e w' ⟨rfl,rfl⟩;gi_wp2_with fail
     refine ⟨trivial,?_⟩;refine CallsIn.inRound l0 (callsIn_wide.2 (HC2.out W HI.out.below)) |>.mono ?_
     rintro e w' ⟨rfl,rfl⟩;gi_wp2_with fail
     have hI3:=HI.out.begun HE.out;rw[←HPJ.out] at hI3;exact ⟨(KeepsOthers.setCell _ _ _).from _,HI.out.kp hI3 ((Below.refl _ _).setCell (p:=⟨w.heap.size+4,0,none⟩) (by dsimp only;omega) _) h2,_,_,by rw[HLN.out];exact hI3⟩
    | false=>
     have HC2:Hid (∀W,Below w.heap.size w W→Calls Tryz.prog F2 #[.int .i32 r] W (zdc false W)):=hX (fun W h=>by rw[←hb];exact HB.out r W h);have HE:Hid (cuts++za2 may beg ((zbt s.data.toList).drop (pre.length+1)) (pre.length+1) none=R):=hX (by have:=HI.out.all;rw[HD.out] at this;unfold za2 at this;rw[HMR.out] at this;(try rw[hb] at this);first | exact this | cases hb.symm.trans HMR.out);clear hb;gi_wp2_with fail
     refine ⟨trivial,?_⟩;refine CallsIn.inRound l0 (callsIn_wide.2 (HC.out W HI.out.below)) |>.mono ?_
     rintro e w' ⟨rfl,rfl⟩;gi_wp2_with fail
     refine ⟨trivial,?_⟩;refine CallsIn.inRound l0 (callsIn_wide.2 (HC2.out W HI.out.below)) |>.mono ?_
     rintro e w' ⟨rfl,rfl⟩;gi_wp2_with fail
     have hI3:=HI.out.stays HE.out;exact ⟨KeepsFrom.refl _ _,HI.out.kp hI3 (Below.refl _ _) h2,_,_,by rw[HLN.out];exact hI3⟩
 case done=>
  rintro D ys W hD rfl ⟨cuts,fr,hI⟩ hK;have hjn:(zbe s.data.toList).length=nR s.data.toList:=rfl;have hnl:=zol s.data.toList;rw[hlen] at hnl;rw[hjn] at hI;have hcl:=hI.len;have htl:=zcj s cuts;have htl2:(za7 s cuts).length≤1099511627776:=by omega
  have hdr:(zbt s.data.toList).drop (nR s.data.toList)=[]:=List.drop_eq_nil_of_le (by rw[zkg];exact Nat.le_refl _);have cT:W.cell? ⟨w.heap.size,0,none⟩=some (.string s):=hI.txt.cell;have cE:W.cell? ⟨w.heap.size+5,0,none⟩=some (.func (.func 151) #[] #[.pointer (some ⟨w.heap.size+4,0,none⟩),.pointer (some ⟨w.heap.size+3,0,none⟩),.pointer (some ⟨w.heap.size,0,none⟩)]):=hI.endB.cell 0;obtain ⟨v,hv1,hv2⟩:=hI.out;have HI:=hX hI;have HV1:=hX hv1;have HV2:=hX hv2;have HDR:=hX hdr;have HKD:=hX hK;have HEND:Hid (zae s.data.toList (nR s.data.toList)=s.size):=hX (by rw[zkd];exact hlen);clear hI hv1 hv2 hdr htl hlen hjn hK
  have HC:Hid (Calls Tryz.prog 151 #[.int .i64 (s.size:Int),.pointer (some ⟨w.heap.size+4,0,none⟩),.pointer (some ⟨w.heap.size+3,0,none⟩),.pointer (some ⟨w.heap.size,0,none⟩)] W (zxo w.heap.size (w.heap.size+4) (w.heap.size+3) (za7 s R) W)):=hX (by
   cases fr with
   | none=>
    have e:=HI.out.all;rw[HDR.out] at e;simp only[za2,List.append_nil] at e;subst e;exact zsl _ _ _ _ _ _ v W (by omega) HI.out.frm HV1.out HV2.out
   | some a=>
    have e:=HI.out.all;rw[HDR.out] at e;simp only[za2] at e;subst e;have ha:=HI.out.from_ a rfl;rw[←zsn HEND.out.symm]
    exact zsm _ _ _ _ _ _ s _ v W (by omega) (by omega) (by rw[←HEND.out];exact zb3 _ _ _ (by omega) (Nat.le_refl _)) (Nat.le_refl _) hs htl2 HI.out.frm HV1.out HI.out.txt HV2.out)
  gi_wp2_with fail
  refine ⟨trivial,?_⟩;refine (callsIn_wide.2 HC.out).mono ?_;rintro e w3 ⟨rfl,he⟩;obtain ⟨u,hu1,hu2⟩:=he.out;have cU:=hu1.cell;have hK3:w3.heap[D]?=some (.deferred (some [])):=he.others.same D _ HKD.out rfl;have HW:=hX he;have HU2:=hX hu2;have HK3:=hX hK3;clear he hu1 hu2 hK3 cT cE;gi_wp2_with fail
  refine ⟨by simp,.inl ⟨_,_,rfl,run_takeDeferred HK3.out,?_⟩⟩;refine ⟨_,results_tmp rfl _ _ _,?_⟩;exact ⟨_,rfl,ownsRow_putObj HU2.out _ HK3.out rfl,(HI.out.below.trans HW.out.below).trans (belowK_b (w:=w) (Nat.le_refl _) _ D _ _ (by omega) HK3.out rfl rfl)⟩
theorem zni (s:ByteArray) (F1 F2:FuncId) (C1:Array Value) (may beg:Int→Bool) (hE1:∀args w,(callFunc F1 args).run Tryz.prog w = .ok (.enter F1 args) w) (hE2:∀args w,(callFunc F2 args).run Tryz.prog w = .ok (.enter F2 args) w) (w:World) (hs:s.size≤1099511627776) (hT:zdi w) (hM:∀(r:Int) (W:World),Below w.heap.size w W→Calls Tryz.prog F1 (#[.int .i32 r]++C1) W (zdc (may r) W)) (hB:∀(r:Int) (W:World),Below w.heap.size w W→Calls Tryz.prog F2 #[.int .i32 r] W (zdc (beg r) W)):Calls Tryz.prog 119 #[.string s,.func (.func F1) #[] C1,.func (.func F2) #[] #[]] w (zcn (za7 s (za2 may beg (zbt s.data.toList) 0 none)) w):=(callsIn_wide.1 (zq8 s F1 F2 C1 may beg hE1 hE2 w hs hT hM hB))
theorem zt8 (s:ByteArray) (w:World) (hs:s.size≤1099511627776) (hT:zdi w):Calls Tryz.prog 119 #[.string s,.func (.func 117) #[] #[],.func (.func 117) #[] #[]] w (zcn (za7 s (za2 zd4 zd4 (zbt s.data.toList) 0 none)) w):=
 zni s _ _ #[] zd4 zd4 (enters_of Tryz.func117 (by kernel_rfl) rfl) (enters_of Tryz.func117 (by kernel_rfl) rfl) w hs hT (fun r W _=>zpb r W) (fun r W _=>zpb r W)
theorem zt9 (s:ByteArray) (w:World) (hs:s.size≤1099511627776) (hT:zdi w):Calls Tryz.prog 119 #[.string s,.func (.func 120) #[] #[],.func (.func 121) #[] #[]] w (zcn (za7 s (za2 zpv zpv (zbt s.data.toList) 0 none)) w):=
 zni s _ _ #[] zpv zpv (enters_of Tryz.func120 (by kernel_rfl) rfl) (enters_of Tryz.func121 (by kernel_rfl) rfl) w hs hT (fun r W _=>yab r W) (fun r W _=>yac r W)
theorem zua (s:ByteArray) (b:Nat) (w:World) (hs:s.size≤1099511627776) (hT:zdi w) (hb:b<w.heap.size) (hc:w.cell? ⟨b,0,none⟩=some (.func (.func 146) #[] #[])):Calls Tryz.prog 119 #[.string s,.func (.func 149) #[] #[.pointer (some ⟨b,0,none⟩)],.func (.func 146) #[] #[]] w (zcn (za7 s (za2 zmv wordF (zbt s.data.toList) 0 none)) w):=
 zni s _ _ #[.pointer (some ⟨b,0,none⟩)] zmv wordF (enters_of Tryz.func149 (by kernel_rfl) rfl) (enters_of Tryz.func146 (by kernel_rfl) rfl) w hs hT (fun r W h=>may_any r b W ((h.cell (p:=⟨b,0,none⟩) hb).trans hc)) (fun r W _=>word_any r W)
end Go.Proofs.YtplkbdncgkgppaaGreatDoor.Ana
end
section
namespace AnaP
open Go.Lib Go FoldP
def D2 (N b0 b1:Nat):Prop:=b0 / 32=6∧1<N∧b1 / 64=2∧128≤b0 % 32*64+b1 % 64
def ok3 (v:Nat):Prop:=v<55296∨(57344≤v∧v≤1114111)
def D3 (N b0 b1 b2:Nat):Prop:=b0 / 16=14∧2<N∧b1 / 64=2∧b2 / 64=2∧2048≤b0 % 16*4096+b1 % 64*64+b2 % 64∧ok3 (b0 % 16*4096+b1 % 64*64+b2 % 64)
def D4 (N b0 b1 b2 b3:Nat):Prop:=b0 / 8=30∧3<N∧b1 / 64=2∧b2 / 64=2∧b3 / 64=2∧65536≤b0 % 8*262144+b1 % 64*4096+b2 % 64*64+b3 % 64∧ok3 (b0 % 8*262144+b1 % 64*4096+b2 % 64*64+b3 % 64)
theorem yey {N b0 b1 b2 b3:Nat} (h:b0<128):decodeN N b0 b1 b2 b3=(b0,1):=by unfold decodeN;rw[if_pos h]
theorem yc4 {N b0 b1 b2 b3:Nat} (h:D2 N b0 b1):decodeN N b0 b1 b2 b3=(b0 % 32*64+b1 % 64,2):=by
 obtain ⟨h1,h2,h3,h4⟩:=h;unfold decodeN;rw[if_neg (by omega),if_pos ⟨h1,h2,h3⟩,if_pos h4]
theorem yc5 {N b0 b1 b2 b3:Nat} (h:D3 N b0 b1 b2):decodeN N b0 b1 b2 b3=(b0 % 16*4096+b1 % 64*64+b2 % 64,3):=by
 obtain ⟨h1,h2,h3,h4,h5,h6⟩:=h;unfold decodeN;rw[if_neg (by omega),if_neg (by omega),if_pos ⟨h1,⟨by omega,h3⟩,h2,h4⟩,if_pos ⟨h5,h6⟩]
theorem yc6 {N b0 b1 b2 b3:Nat} (h:D4 N b0 b1 b2 b3):decodeN N b0 b1 b2 b3=(b0 % 8*262144+b1 % 64*4096+b2 % 64*64+b3 % 64,4):=by
 obtain ⟨h1,h2,h3,h4,h5,h6,h7⟩:=h;unfold decodeN;rw[if_neg (by omega),if_neg (by omega),if_neg (by omega),if_pos ⟨h1,⟨by omega,h3⟩,⟨by omega,h4⟩,h2,h5⟩,if_pos ⟨h6,h7⟩]
theorem yez {N b0 b1 b2 b3:Nat} (h:128≤b0) (h2:¬D2 N b0 b1) (h3:¬D3 N b0 b1 b2) (h4:¬D4 N b0 b1 b2 b3):decodeN N b0 b1 b2 b3=(65533,1):=by
 unfold decodeN;rw[if_neg (by omega)];by_cases c2:b0 / 32=6∧(1<N∧b1 / 64=2)
 ·rw[if_pos c2,if_neg (fun e=>h2 ⟨c2.1,c2.2.1,c2.2.2,e⟩)]
 ·rw[if_neg c2];by_cases c3:b0 / 16=14∧(1<N∧b1 / 64=2)∧(2<N∧b2 / 64=2)
  ·rw[if_pos c3,if_neg (fun e=>h3 ⟨c3.1,c3.2.2.1,c3.2.1.2,c3.2.2.2,e.1,e.2⟩)]
  ·rw[if_neg c3];by_cases c4:b0 / 8=30∧(1<N∧b1 / 64=2)∧(2<N∧b2 / 64=2)∧(3<N∧b3 / 64=2)
   ·rw[if_pos c4,if_neg (fun e=>h4 ⟨c4.1,c4.2.2.2.1,c4.2.1.2,c4.2.2.1.2,c4.2.2.2.2,e.1,e.2⟩)]
   ·rw[if_neg c4]
theorem zpd {N M b0 b1 b2 b3 c1 c2 c3:Nat} (h2:D2 N b0 b1→D2 M b0 c1∧b1=c1) (h3:D3 N b0 b1 b2→D3 M b0 c1 c2∧b1=c1∧b2=c2) (h4:D4 N b0 b1 b2 b3→D4 M b0 c1 c2 c3∧b1=c1∧b2=c2∧b3=c3)
 (k2:D2 M b0 c1→D2 N b0 b1) (k3:D3 M b0 c1 c2→D3 N b0 b1 b2) (k4:D4 M b0 c1 c2 c3→D4 N b0 b1 b2 b3):decodeN N b0 b1 b2 b3=decodeN M b0 c1 c2 c3:=by
 by_cases a1:b0<128
 ·rw[yey a1,yey a1]
 ·by_cases a2:D2 N b0 b1
  ·obtain ⟨e,rfl⟩:=h2 a2;rw[yc4 a2,yc4 e]
  ·by_cases a3:D3 N b0 b1 b2
   ·obtain ⟨e,rfl,rfl⟩:=h3 a3;rw[yc5 a3,yc5 e]
   ·by_cases a4:D4 N b0 b1 b2 b3
    ·obtain ⟨e,rfl,rfl,rfl⟩:=h4 a4;rw[yc6 a4,yc6 e]
    ·rw[yez (by omega) a2 a3 a4,yez (by omega) (fun h=>a2 (k2 h)) (fun h=>a3 (k3 h)) (fun h=>a4 (k4 h))]
theorem zq9 (N M n b0 b1 b2 b3 c1 c2 c3:Nat) (hM:M=min n N) (e1:1<n→c1=b1) (e2:2<n→c2=b2) (e3:3<n→c3=b3) (h:(decodeN N b0 b1 b2 b3).2≤n):decodeN M b0 c1 c2 c3=decodeN N b0 b1 b2 b3:=by
 refine (zpd (fun a=>?_) (fun a=>?_) (fun a=>?_) (fun a=>?_) (fun a=>?_) (fun a=>?_)).symm
 ·rw[yc4 a] at h;obtain rfl:=e1 h;unfold D2 at *;exact ⟨⟨a.1,by have:=a.2.1;dsimp only at h;omega,a.2.2⟩,rfl⟩
 ·rw[yc5 a] at h;dsimp only at h;obtain rfl:=e1 (by omega);obtain rfl:=e2 (by omega);unfold D3 at *;exact ⟨⟨a.1,by have:=a.2.1;omega,a.2.2⟩,rfl,rfl⟩
 ·rw[yc6 a] at h;dsimp only at h;obtain rfl:=e1 (by omega);obtain rfl:=e2 (by omega);obtain rfl:=e3 (by omega);unfold D4 at *;exact ⟨⟨a.1,by have:=a.2.1;omega,a.2.2⟩,rfl,rfl,rfl⟩
 ·have:=a.2.1;obtain rfl:=e1 (by omega);exact ⟨a.1,by omega,a.2.2⟩
 ·have:=a.2.1;obtain rfl:=e1 (by omega);obtain rfl:=e2 (by omega);exact ⟨a.1,by omega,a.2.2⟩
 ·have:=a.2.1;obtain rfl:=e1 (by omega);obtain rfl:=e2 (by omega);obtain rfl:=e3 (by omega);exact ⟨a.1,by omega,a.2.2⟩
theorem zd9 {l:List UInt8} {n i:Nat} (h:i<n):(l.take n).getD i 0=l.getD i 0:=by
 rw[List.getD_eq_getElem?_getD,List.getD_eq_getElem?_getD,List.getElem?_take,if_pos h]
theorem zpe (l:List UInt8) (n:Nat) (hn:(decodeL l).2≤n):decodeL (l.take n)=decodeL l:=by
 have h1:=decodeL_width l;have h0:0<n:=Nat.lt_of_lt_of_le h1 hn;rw[decodeL_N] at hn;rw[decodeL_N (l.take n),decodeL_N l,List.length_take,zd9 h0];exact zq9 _ _ n _ _ _ _ _ _ _ rfl (fun h=>by rw[zd9 h]) (fun h=>by rw[zd9 h]) (fun h=>by rw[zd9 h]) hn
def zjf (l:List UInt8) (a b:Nat):List UInt8:=(l.drop (zae l a)).take (zae l b - zae l a)
theorem zjm (l:List UInt8) (a b:Nat):(zjf l a b).length=zae l b - zae l a:=by
 have:=zd2 l b;simp[zjf];omega
theorem zxq (l:List UInt8) (a b k:Nat):(zjf l a b).drop k=(l.drop (zae l a+k)).take (zae l b - zae l a - k):=by
 unfold zjf;rw[List.drop_take,List.drop_drop]
theorem zpf (l:List UInt8) (a b:Nat) (hab:a≤b) (hb:b≤nR l):∀(f i:Nat),b - i≤f→a≤i→i≤b→
 (za9 (zae l i - zae l a) ((zjf l a b).drop (zae l i - zae l a))).map (·.1)=((List.range (b - i)).map fun k=>zae l (i+k) - zae l a)
 | 0,i,hf,hi,hib=>by
  obtain rfl:i=b:=by omega
  rw[zci _ _ (by rw[zjm];exact Nat.le_refl _)];simp
 | f+1,i,hf,hi,hib=>by
  rcases Nat.lt_or_ge i b with h | h
  ·have h1:=zb3 l a i hi (by omega);obtain ⟨h2,h3⟩:=zii l i (by omega);have h4:=zek l i (by omega);have h5:=zb3 l (i+1) b (by omega) hb
   have e:(zjf l a b).drop (zae l i - zae l a)=(l.drop (zae l i)).take (zae l b - zae l i):=(by rw[zxq,show zae l a+(zae l i - zae l a)=zae l i by omega,show zae l b - zae l a - (zae l i - zae l a)=zae l b - zae l i by omega])
   have hd:decodeL ((zjf l a b).drop (zae l i - zae l a))=decodeL (l.drop (zae l i)):=(by rw[e];exact zpe _ _ (by omega))
   rw[zg1 _ _ (by rw[zjm];omega),hd,List.map_cons];have ih:=zpf l a b hab hb f (i+1) (by omega) (by omega) (by omega);rw[show zae l i - zae l a+(decodeL (l.drop (zae l i))).2=zae l (i+1) - zae l a by omega,ih];rw[show b - i=(b - (i+1))+1 by omega,List.range_succ_eq_map,List.map_cons,List.map_map];simp only[Nat.add_zero,List.cons.injEq,true_and];apply List.map_congr_left;intro k _;simp only[Function.comp_apply];congr 2;omega
  ·obtain rfl:i=b:=by omega
   rw[zci _ _ (by rw[zjm];exact Nat.le_refl _)];simp
theorem zpg (l:List UInt8) (a b:Nat) (hab:a≤b) (hb:b≤nR l):(zbe (zjf l a b)).map (·.1)=(List.range (b - a)).map fun k=>zae l (a+k) - zae l a:=by
 have:=zpf l a b hab hb (b - a) a (Nat.le_refl _) (Nat.le_refl _) hab;rw[Nat.sub_self,List.drop_zero] at this;exact this
theorem zxr (l:List UInt8) (a b:Nat) (hab:a≤b) (hb:b≤nR l):nR (zjf l a b)=b - a:=by
 have:=congrArg List.length (zpg l a b hab hb);simpa [nR] using this
theorem zph (l:List UInt8) (a b:Nat) (hab:a≤b) (hb:b≤nR l) (i:Nat) (hi:i≤b - a):zae (zjf l a b) i=zae l (a+i) - zae l a:=by
 have hn:=zxr l a b hab hb;rcases Nat.lt_or_ge i (b - a) with h | h
 ·have h1:=zom (zjf l a b) i (by omega);have h2:((zbe (zjf l a b)).map (·.1))[i]?=some (zae (zjf l a b) i):=by rw[List.getElem?_map,h1];rfl
  rw[zpg l a b hab hb,List.getElem?_map,List.getElem?_range h] at h2;exact (Option.some.inj h2).symm
 ·obtain rfl:i=b - a:=by omega
  have h1:=zkd (zjf l a b);rw[hn,zjm] at h1;rw[h1,show a+(b - a)=b by omega]
theorem zpi (s:ByteArray) (x y:Nat) (hy:y≤s.size):(s.extract x y).data.toList=(s.data.toList.drop x).take (y - x):=by
 rw[ByteArray.data_extract,Array.toList_extract,List.extract_eq_take_drop]
theorem zra (s:ByteArray) (a b x y:Nat) (hxy:x≤y) (hy:a+y≤b) (hb:b≤s.size):(s.extract a b).extract x y=s.extract (a+x) (a+y):=by
 apply ByteArray.ext;rw[ByteArray.data_extract,ByteArray.data_extract,ByteArray.data_extract,Array.extract_extract];congr 1;omega
theorem zso (s:ByteArray) (a b:Nat) (hb:b≤nR s.data.toList):(s.extract (zae s.data.toList a) (zae s.data.toList b)).data.toList=zjf s.data.toList a b:=by
 have:=zd2 s.data.toList b;rw[zpi _ _ _ (by simpa using this)];rfl
end AnaP
end
section
namespace AnaP
open Go.Lib Go FoldP
theorem zxs (s:ByteArray) (cuts:List (Nat × Nat)) (i:Nat) (h:i<(za7 s cuts).length):(za7 s cuts)[i]=zmw s i (cuts[i]'(by rw[zcj] at h;exact h)):=by
 simp[za7]
end AnaP
end
section
namespace Go.Proofs.YtplkbdncgkgppaaGreatDoor.Ana
open Go.RowKit Go.Lib FoldP FoldInts Kit FoldForms FoldNext FoldIter AnaP Words Owned Tree
theorem zcn.base {ts:List TokD} {w0 w w':World} {e:Ending} (h:zcn ts w e w') (hb:Below w0.heap.size w0 w):zcn ts w0 e w':=by
 obtain ⟨v,h1,h2,h3⟩:=h;exact ⟨v,h1,zgn h2 hb.size,hb.trans (h3.mono hb.size)⟩
theorem zk2 (s:ByteArray) (w:World) (hs:s.size≤1099511627776) (hT:zdi w) :
 Calls Tryz.prog 116 #[.string s] w (zcn (za7 s (za2 zmv wordF (zbt s.data.toList) 0 none)) w):=by
 have hb0:Below w.heap.size w (w.alloc (.cells #[.func (.func 146) #[] #[]] 163)):=(Below.refl _ _).alloc (Nat.le_refl _) _;have HC:=hX (zua s w.heap.size (w.alloc (.cells #[.func (.func 146) #[] #[]] 163)) hs (hT.next hb0) (by simp) ((Blk.new w 163 #[.func (.func 146) #[] #[]]).cell 0));have HB:=hX hb0;have hmf:∀(fn:Fn) (first cap:Array Value) (w:World),(Instr.makeFunc fn first cap).run Tryz.prog w = .ok (.func fn first cap) w:=fun _ _ _ _=>rfl;generalize za7 s (za2 zmv wordF (zbt s.data.toList) 0 none)=R at *;clear hb0 hT;go_enter Tryz.func116,Tryz.ntmps116;go_wp2_with fail;refine HC.out.mono ?_;rintro e w' h;obtain ⟨v,rfl,h2,h3⟩:=h.base HB.out;have H2:=hX h2;have H3:=hX h3;clear h h2 h3;go_wp2_with fail;go_ret;exact ⟨v,rfl,H2.out,H3.out⟩
theorem ye0 (s:ByteArray) (w:World) (hs:s.size≤1099511627776) (hT:zdi w) :
 Calls Tryz.prog 69 #[.int .i64 1,.string s] w (zcn (zby 1 s) w):=by
 have HE:Hid (zby 1 s=za7 s (za2 zmv wordF (zbt s.data.toList) 0 none)):=hX rfl;have HC:=hX (zk2 s w hs hT);rw[HE.out];generalize za7 s (za2 zmv wordF (zbt s.data.toList) 0 none)=R at *;clear hT;go_enter Tryz.func69,Tryz.ntmps69;go_wp2_with fail;refine HC.out.mono ?_;rintro e w' ⟨v,rfl,h2,h3⟩;have H2:=hX h2;have H3:=hX h3;clear h2 h3;go_wp2_with fail;go_ret;exact ⟨v,rfl,H2.out,H3.out⟩
theorem ye1 (s:ByteArray) (w:World) (hs:s.size≤1099511627776) (hT:zdi w) :
 Calls Tryz.prog 69 #[.int .i64 2,.string s] w (zcn (zby 2 s) w):=by
 have HE:Hid (zby 2 s=za7 s (za2 zd4 zd4 (zbt s.data.toList) 0 none)):=hX rfl;have HC:=hX (zt8 s w hs hT);rw[HE.out];generalize za7 s (za2 zd4 zd4 (zbt s.data.toList) 0 none)=R at *;clear hT;go_enter Tryz.func69,Tryz.ntmps69;go_wp2_with fail;refine HC.out.mono ?_;rintro e w' ⟨v,rfl,h2,h3⟩;have H2:=hX h2;have H3:=hX h3;clear h2 h3;go_wp2_with fail;go_ret;exact ⟨v,rfl,H2.out,H3.out⟩
theorem ye2 (s:ByteArray) (w:World) (hs:s.size≤1099511627776) (hT:zdi w) :
 Calls Tryz.prog 69 #[.int .i64 3,.string s] w (zcn (zby 3 s) w):=by
 have HE:Hid (zby 3 s=za7 s (za2 zpv zpv (zbt s.data.toList) 0 none)):=hX (by rw[zqk];rfl);have HC:=hX (zt9 s w hs hT);rw[HE.out];generalize za7 s (za2 zpv zpv (zbt s.data.toList) 0 none)=R at *;clear hT;go_enter Tryz.func69,Tryz.ntmps69;go_wp2_with fail;refine HC.out.mono ?_;rintro e w' ⟨v,rfl,h2,h3⟩;have H2:=hX h2;have H3:=hX h3;clear h2 h3;go_wp2_with fail;go_ret;exact ⟨v,rfl,H2.out,H3.out⟩
end Go.Proofs.YtplkbdncgkgppaaGreatDoor.Ana
end
section
namespace Go.Proofs.YtplkbdncgkgppaaGreatDoor.Ana
open Go.RowKit Go.Lib AnaP Words Tree Kit Owned
end Go.Proofs.YtplkbdncgkgppaaGreatDoor.Ana
end
section
namespace Go.Proofs.YtplkbdncgkgppaaGreatDoor.FoldAmong
open Go.RowKit FoldP FoldInts Kit
end Go.Proofs.YtplkbdncgkgppaaGreatDoor.FoldAmong
end
section
namespace Go.Proofs.YtplkbdncgkgppaaGreatDoor.Ana
open Go.RowKit Go.Lib AnaP Words Tree Kit Owned FoldP FoldInts FoldAmong
def runeCells (l:List Int):List Value:=l.map (Value.int .i32)
theorem zen {w:World} {B n m:Nat} {e:TypeId} {v:Value} {xs:List Value} (h:w.ownsRow B e m v n xs):∃ao cap,v = .slice ao n cap:=by
 rcases h.2 with ⟨rfl,h0⟩ | ⟨g,cap,cur,rfl,_⟩
 ·exact ⟨none,0,by rw[h0]⟩
 ·exact ⟨_,_,rfl⟩
end Go.Proofs.YtplkbdncgkgppaaGreatDoor.Ana
end
