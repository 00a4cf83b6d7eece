/- Lemmas that the last text leans on. -/
import Derived.Test.YtigfcihakghddaaGreatDoorPack4
import Derived.Test.YtigfcihakghddaaGreatDoorTake
import Derived.Test.YtigfcihakghddaaGreatDoorProg
import Derived.Maps.AppendAt
import Derived.Maps.OwnOps
import Derived.Deep.LoopGhost
import Derived.Deep.RegionHeld3
import Derived.Deep.QuietTactic
import Derived.LoopTactic
import Derived.Deep.CutRange
set_option linter.all false
set_option maxRecDepth 100000
namespace Go.Proofs.YtigfcihakghddaaGreatDoor.BufT
open Go Go.RowKit Go.Maps Go.WideMaps Words Tree Owned MapV BufP
theorem zeroM (w:World):(zeroValue 143).run Tryz.prog w = .ok (.map none) w:=by kernel_rfl
theorem zeroS (w:World):(zeroValue 57).run Tryz.prog w = .ok (.slice none 0 0) w:=by kernel_rfl
theorem lawS:Keyed Tryz.prog 9:=string_keyed Tryz.underlying9
theorem lawI:Keyed Tryz.prog 3:=int_keyed Tryz.underlying3
theorem infoI:(Tryz.prog.info? 3).map (fun i=>(i.zero,i.size,i.bytes))=some (some (.int .i64 0),1,8):=by kernel_rfl
theorem eql_nilM (w:World):(binOp .eql 143 (.map none) (.map none)).run Tryz.prog w = .ok (.bool true) w:=by rfl
theorem eql_someM (b:Nat) (w:World):(binOp .eql 143 (.map (some b)) (.map none)).run Tryz.prog w = .ok (.bool false) w:=by rfl
set_option maxHeartbeats 4000000 in
theorem add_any (w:World) (B fb bm n:Nat) (D:DataW Value) (bt:List UInt8→Nat) (Di:List UInt8→DataW Value) (rv:List UInt8→Int→Value) (L:List Ad) (s:ByteArray) (d p:Int) (hc:w.cell? ⟨fb,8,none⟩=some (.map (some bm)))
 (h:TermsAt Tryz.prog 9 3 3 B w bm (hasT L) L n D bt Di rv) (hn:n+2≤1099511627776) (hL:L.length≤1099511627776) (hs:s.size≤maxLen) (hd:(Lit.int .i64 d).wf=true) (hB:B≤w.heap.size) (hfb:¬Foot bm (hasT L) L bt rv fb) (hfl:fb<w.heap.size) :
 Calls Tryz.prog 105 #[.pointer (some ⟨fb,0,none⟩),.string s,.int .i64 d,.int .i64 p] w fun e w'=>e = .returned (.tuple #[])∧But (Foot bm (hasT L) L bt rv) w w'∧
  ∃n' D' bt' Di' rv',n'≤n+2∧TermsAt Tryz.prog 9 3 3 B w' bm (hasT (L++[⟨s.data.toList,d,p⟩])) (L++[⟨s.data.toList,d,p⟩]) n' D' bt' Di' rv'∧∀g,Foot bm (hasT (L++[⟨s.data.toList,d,p⟩])) (L++[⟨s.data.toList,d,p⟩]) bt' rv' g→Foot bm (hasT L) L bt rv g∨w.heap.size≤g:=by
 have hkS:keyOf Tryz.prog 9 (.string s)=some (.string s.data.toList):=keyOf_string_mk Tryz.underlying9 hs;have hkI:keyOf Tryz.prog 3 (.int .i64 d)=some (.int .i64 d):=keyOf_int_mk Tryz.underlying3 hd;have h0:=h.out.look_up lawS Tryz.underlying93 (zeroM w) hkS;have hmm:=@run_makeMap Tryz.prog;go_enter Tryz.func105,Tryz.ntmps105;generalize s.data.toList=s' at *;have HT:=hX h;have HKS:=hX hkS;have HKI:=hX hkI
 obtain ⟨v0,b0,hv0,⟨he0,hg0⟩,hc0⟩:∃v0 b0,(lookV D (.string s')).getD (.map none)=v0∧((∀w,(binOp .eql 143 v0 (.map none)).run Tryz.prog w = .ok (.bool b0) w)∧(∀w,(eqGuard .eql 143 (.tmp 13) (.const (.map none)) v0 (.map none)).run Tryz.prog w = .ok () w))∧((b0=true∧¬hasT L s')∨(b0=false∧hasT L s')):=by
  by_cases hs0:hasT L s'
  ·exact ⟨.map (some (bt s')),false,by rw[HT.out.outAt _ hs0];rfl,⟨eql_someM _,fun _=>rfl⟩,.inr ⟨rfl,hs0⟩⟩
  ·exact ⟨.map none,true,by rw[HT.out.outNo _ hs0];rfl,⟨eql_nilM,fun _=>rfl⟩,.inl ⟨rfl,hs0⟩⟩
 rw[hv0] at h0;have HC0:=hX hc0;clear hv0 hc0 h hkS hkI;go_upto_if 14 with fail;go_cut [14] from 15 to 20 (fun _ V=>∃(n1:Nat) (D1:DataW Value) (bt1:List UInt8→Nat) (Di1:List UInt8→DataW Value),Hid (n1≤n+1)∧Hid (TermsAt Tryz.prog 9 3 3 B V bm (fun x=>hasT L x∨x=s') L n1 D1 bt1 Di1 rv)∧Hid (But (Foot bm (hasT L) L bt rv) w V)∧Hid (∀g,Foot bm (fun x=>hasT L x∨x=s') L bt1 rv g→Foot bm (hasT L) L bt rv g∨w.heap.size≤g)∧Hid (V.cell? ⟨fb,8,none⟩=some (.map (some bm))))
 case first=>
  have HC:=hX hc
  cases b0 with
  | false=>
   have HS:Hid (hasT L s'):=hX (HC0.out.elim (fun h=>by cases h.1) (·.2));clear HC0 hc;go_wp2_with fail;go_meet
   have hco:∀x,hasT L x↔(hasT L x∨x=s'):=fun x=>⟨.inl,fun h=>h.elim id fun e=>e ▸ HS.out⟩
   exact ⟨n,D,bt,Di,hX (by omega),hX (HT.out.congr hco),hX (But.refl _ _),hX (fun g hg=>.inl (hg.congr fun x=>(hco x).symm)),HC⟩
  | true=>
   have HS:Hid (¬hasT L s'):=hX (HC0.out.elim (·.2) (fun h=>by cases h.1));have hA:=World.grownBy_alloc w (.map #[] 0) none;have hcA:(w.alloc (.map #[] 0)).cell? ⟨fb,8,none⟩=some (.map (some bm)):=(((Below.refl w.heap.size w).alloc (Nat.le_refl _) _).cell hfl).trans hc;obtain ⟨w2,hrun,hm2,hg2⟩:=(HT.out.out.kept hA (by simp)).store lawS Tryz.underlying93 (by unfold maxLen;omega) HKS.out (val:=.map (some w.heap.size));have HM2:=hX hm2;have HG2:=hX hg2;have HCA:=hX hcA;clear hm2 hg2 hA HC0;go_wp2_with fail;go_meet;classical
   refine ⟨n+1,_,_,_,hX (Nat.le_refl _),hX (HT.out.newT HS.out rfl HM2.out HG2.out),hX ((But.of_below ((Below.refl _ _).alloc (Nat.le_refl _) _)).trans (But.grown HG2.out fun r e=>by injection e with e;subst e;exact .inl rfl)),hX (fun g hg=>(foot_newT hg).imp id fun e=>by omega),hX ?_⟩;rw[World.cell?_of_block (HG2.out.block fb (by simp;omega) (fun e=>hfb (.inl (Option.some.inj e))))];exact HCA.out
 case rest=>
  obtain ⟨n1,D1,bt1,Di1,HN1,HT1,HB1,HF1,HC1⟩:=hcut;rename World=>V0
  clear he0 hg0 hc h0 HC0;have hS1:hasT L s'∨s'=s':=.inr rfl;obtain ⟨v,hv,hrow,hvc⟩:=HT1.out.at hS1 d;have e5:=HT1.out.outAt s' hS1;have hi1:=HT1.out.inn s' hS1;have ho1:=HT1.out.out;have hc1:=HC1.out
  have hne:∀{b:Nat} {k:TypeId} {n:Nat} {D:DataW Value},MapV V0 Tryz.prog k b n D→some b≠v.ownBlock:=fun hm e=>by
   rcases hvc with rfl | ⟨hd,hr⟩
   ·cases e
   ·exact row_ne_map (HT1.out.row s' d hd) (by rw[hr];exact e.symm) hm rfl
  have HROW:=hX hrow;have HVC:=hX hvc;have HNE1:=hX (hne ho1);have HNE2:=hX (hne hi1)
  have HNE3:Hid (some fb≠v.ownBlock):=hX (fun e=>by
   rcases hvc with rfl | ⟨hd,hr⟩
   ·cases e
   ·rcases HF1.out fb (.inr (.inr ⟨s',d,hd,by rw[hr];exact e.symm⟩)) with h | h
    ·exact hfb h
    ·omega)
  have hlt0:fb<V0.heap.size:=Nat.lt_of_lt_of_le hfl HB1.out.size;have HO5:=hX (fun (V:World) (hV:MapV V Tryz.prog 9 bm n1 D1)=>(show (Instr.lookup 93 (.map (some bm)) (.string s) false).run Tryz.prog V = .ok (.map (some (bt1 s'))) V by rw[hV.look_up lawS Tryz.underlying93 (zeroM V) HKS.out,e5];rfl));have HO14:=hX (fun (V:World) (hV:MapV V Tryz.prog 3 (bt1 s') n1 (Di1 s'))=>(show (Instr.lookup 143 (.map (some (bt1 s'))) (.int .i64 d) false).run Tryz.prog V = .ok v V by rw[hV.look_up lawI Tryz.underlying143 (zeroS V) HKI.out,hv]));obtain ⟨i0,hi,hz0,hz1,hz2⟩:=info_parts infoI;have HSI:=hX (And.intro hi (And.intro hz0 (And.intro hz1 hz2)));clear hi hz0 hz1 hz2 hv hrow hvc e5 hne;go_upto_region 2 with fail;refine HeldU.wp_region_until #[true,true,true,true,true,true,true,true,true,true,true,true,true,true,true,true,true,true,false] (fun V=>V.cell? ⟨fb,8,none⟩=some (.map (some bm))∧MapV V Tryz.prog 9 bm n1 D1∧MapV V Tryz.prog 3 (bt1 s') n1 (Di1 s')) (by kernel_rfl) (⟨hc1,ho1,hi1⟩) (fun hS0=>?_);refine' HeldU.tkU 0 (by simp only[tkD,tkE,tkG];rfl) (by kernel_rfl) (by exact fun _ _ _ h=>h) (by rfl) hS0 (by intro V hSw;clear hSw;go_simp;try with_reducible rfl) ?_;try simp only[Act.put,tkA,tkB,tkC]
  refine' HeldU.tkU 1 (by simp only[tkD,tkE,tkG];rfl) (by kernel_rfl) (by exact fun _ _ _ h=>h) (by rfl) hS0 (by intro V hSw;clear hSw;go_simp;try with_reducible rfl) ?_;try simp only[Act.put,tkA,tkB,tkC]
  refine' HeldU.tkU 2 (by simp only[tkD,tkE,tkG];rfl) (by kernel_rfl) (by exact fun _ _ _ h=>h) (by rfl) hS0 (by intro V hSw;clear hSw;go_simp;try with_reducible rfl) ?_;try simp only[Act.put,tkA,tkB,tkC]
  refine' HeldU.tkU 3 (by simp only[tkD,tkE,tkG];rfl) (by kernel_rfl) (by exact fun _ _ _ h=>h) (by rfl) hS0 (by intro V hSw;have c8:=hSw.1;clear hSw;go_simp;try with_reducible rfl) ?_;try simp only[Act.put,tkA,tkB,tkC]
  refine' HeldU.tkU 4 (by simp only[tkD,tkE,tkG];rfl) (by kernel_rfl) (by exact fun _ _ _ h=>h) (by rfl) hS0 (by intro V hSw;clear hSw;go_simp;try with_reducible rfl) ?_;try simp only[Act.put,tkA,tkB,tkC]
  refine' HeldU.tkU 5 (by simp only[tkD,tkE,tkG];rfl) (by kernel_rfl) (by exact fun _ _ _ h=>h) (by rfl) hS0 (by intro V hSw;have l5:=HO5.out V hSw.2.1;clear hSw;go_simp;try with_reducible rfl) ?_;try simp only[Act.put,tkA,tkB,tkC]
  refine' HeldU.tkU 6 (by simp only[tkD,tkE,tkG];rfl) (by kernel_rfl) (by exact fun _ _ _ h=>h) (by rfl) hS0 (by intro V hSw;clear hSw;go_simp;try with_reducible rfl) ?_;try simp only[Act.put,tkA,tkB,tkC]
  refine' HeldU.tkU 7 (by simp only[tkD,tkE,tkG];rfl) (by kernel_rfl) (by exact fun _ _ _ h=>h) (by rfl) hS0 (by intro V hSw;clear hSw;go_simp;try with_reducible rfl) ?_;try simp only[Act.put,tkA,tkB,tkC]
  refine' HeldU.tkU 8 (by simp only[tkD,tkE,tkG];rfl) (by kernel_rfl) (by exact fun _ _ _ h=>h) (by rfl) hS0 (by intro V hSw;clear hSw;go_simp;try with_reducible rfl) ?_;try simp only[Act.put,tkA,tkB,tkC]
  refine' HeldU.tkU 9 (by simp only[tkD,tkE,tkG];rfl) (by kernel_rfl) (by exact fun _ _ _ h=>h) (by rfl) hS0 (by intro V hSw;clear hSw;go_simp;try with_reducible rfl) ?_;try simp only[Act.put,tkA,tkB,tkC]
  refine' HeldU.tkU 10 (by simp only[tkD,tkE,tkG];rfl) (by kernel_rfl) (by exact fun _ _ _ h=>h) (by rfl) hS0 (by intro V hSw;have c8:=hSw.1;clear hSw;go_simp;try with_reducible rfl) ?_;try simp only[Act.put,tkA,tkB,tkC]
  refine' HeldU.tkU 11 (by simp only[tkD,tkE,tkG];rfl) (by kernel_rfl) (by exact fun _ _ _ h=>h) (by rfl) hS0 (by intro V hSw;clear hSw;go_simp;try with_reducible rfl) ?_;try simp only[Act.put,tkA,tkB,tkC]
  refine' HeldU.tkU 12 (by simp only[tkD,tkE,tkG];rfl) (by kernel_rfl) (by exact fun _ _ _ h=>h) (by rfl) hS0 (by intro V hSw;have l5:=HO5.out V hSw.2.1;clear hSw;go_simp;try with_reducible rfl) ?_;try simp only[Act.put,tkA,tkB,tkC]
  refine' HeldU.tkU 13 (by simp only[tkD,tkE,tkG];rfl) (by kernel_rfl) (by exact fun _ _ _ h=>h) (by rfl) hS0 (by intro V hSw;clear hSw;go_simp;try with_reducible rfl) ?_;try simp only[Act.put,tkA,tkB,tkC]
  refine' HeldU.tkU 14 (by simp only[tkD,tkE,tkG];rfl) (by kernel_rfl) (by exact fun _ _ _ h=>h) (by rfl) hS0 (by intro V hSw;have l14:=HO14.out V hSw.2.2;clear hSw;go_simp;try with_reducible rfl) ?_;try simp only[Act.put,tkA,tkB,tkC]
  refine' HeldU.tkU 15 (by simp only[tkD,tkE,tkG];rfl) (by kernel_rfl) (by exact fun _ _ _ h=>h) (by rfl) hS0 (by intro V hSw;clear hSw;go_simp;try with_reducible rfl) ?_;try simp only[Act.put,tkA,tkB,tkC]
  refine' HeldU.wpAnyU_one (i:=16) (by kernel_rfl) (by kernel_rfl) (by simp only[tkD,tkE,tkG];rfl) (fun K hK=>?_);go_simp;have hgA:V0.drew.grownBy (V0.drew.alloc (.cells #[.int .i64 p] 3)) none:=World.grownBy_alloc _ _ _
  have hA1:(V0.drew.alloc (.cells #[.int .i64 p] 3)).cell? ⟨fb,8,none⟩=some (.map (some bm))∧MapV (V0.drew.alloc (.cells #[.int .i64 p] 3)) Tryz.prog 9 bm n1 D1∧MapV (V0.drew.alloc (.cells #[.int .i64 p] 3)) Tryz.prog 3 (bt1 s') n1 (Di1 s'):=⟨(((Below.refl V0.heap.size V0.drew).alloc (Nat.le_refl _) _).cell hlt0).trans hS0.1,(hS0.2.1).kept hgA (by simp),(hS0.2.2).kept hgA (by simp)⟩
  refine hK.out _ _ hA1 (fun hS1=>?_);clear hK K;try simp only[Act.put,tkA,tkB,tkC]
  refine' HeldU.wpAnyU_one (i:=17) (by kernel_rfl) (by kernel_rfl) (by simp only[tkD,tkE,tkG];rfl) (fun K hK=>?_);obtain ⟨hi,hz0,hz1,hz2⟩:=HSI.out;have hown:(V0.drew.alloc (.cells #[.int .i64 p] 3)).ownsRow B 3 1 v (posF L s' d).length ((posF L s' d).map (Value.int .i64)):=HROW.out.alloc _;have hpl:=posF_len L s' d;refine step_append_any _ rfl (.tmp 35) (.tmp 37) 57 rfl B 3 i0 (.int .i64 0) 1 8 Tryz.underlying57 hi hz0 hz1 hz2 rfl (by decide) _ _ _ rfl hown (V0.heap.size+1) (some ⟨V0.heap.size,0,none⟩) 1 1 [.int .i64 p] rfl ?e1 ?e2 ?e3 ?e4 ?e5 ?_;case e1=>exact ⟨rfl,fun _=>⟨_,rfl,Nat.lt_succ_self _,World.news_of_block (Blk.new V0.drew _ _)⟩⟩
  case e2=>intro u hu;simp only[List.mem_cons,List.not_mem_nil,or_false] at hu;rcases hu with rfl;rfl
  case e3=>unfold maxLen;omega
  case e4=>omega
  case e5=>exact Nat.le_trans hB (Nat.le_trans HB1.out.size (by simp))
  intro v' V2 ho hg hat;replace hg:(V0.drew.alloc (.cells #[.int .i64 p] 3)).grownBy V2 v.ownBlock:=hg;replace hat:v'.ownBlock=v.ownBlock∨v'.ownBlock=some (V0.drew.alloc (.cells #[.int .i64 p] 3)).heap.size:=hat
  have hS2:V2.cell? ⟨fb,8,none⟩=some (.map (some bm))∧MapV V2 Tryz.prog 9 bm n1 D1∧MapV V2 Tryz.prog 3 (bt1 s') n1 (Di1 s'):=⟨(World.cell?_of_block (hg.block fb (by simp;omega) HNE3.out)).trans hS1.1,hS1.2.1.kept hg HNE1.out,hS1.2.2.kept hg HNE2.out⟩
  refine hK.out _ _ hS2 (fun hS3=>?_);clear hK K hpl;try simp only[Act.put,tkA,tkB,tkC]
  obtain ⟨W3,hrun,hm3,hg3⟩:=hS3.2.2.store lawI Tryz.underlying143 (by have:=HN1.out;unfold maxLen;omega) HKI.out (val:=v');refine HeldU.wpAnyU_off (by kernel_rfl) ?_;refine wpAnyH_ready (rs:=[18]) (by kernel_rfl) (by simp) ?_;refine' AllReadyH.cons (by simp only[tkD,tkE,tkG];rfl) (fun K hK=>?_) AllReadyH.nil;go_simp;refine hK.out _ _ trivial (fun _=>?_);clear hK K;try simp only[Act.put,tkA,tkB,tkC]
  refine wpAnyH_done (by kernel_rfl) ?_ _;have HM3:=hX hm3;have HG3:=hX hg3;have HO:=hX ho;have HG:=hX hg;have HAT:=hX hat;clear hrun hm3 hg3 ho hg hat hS2 hS3 hS1;go_wp2_with fail;go_end0;classical
  have hgD:V0.drew.grownBy V2 v.ownBlock:=(World.grownBy_alloc V0.drew _ v.ownBlock).trans HG.out
  have hgV:V0.grownBy V2 v.ownBlock:=⟨hgD.os,hgD.tape,hgD.output,hgD.size,hgD.block⟩
  have hvF:∀g,v.ownBlock=some g→Foot bm (fun x=>hasT L x∨x=s') L bt1 rv g:=fun g e=>by
   rcases HVC.out with rfl | ⟨hd,hr⟩
   ·cases e
   ·exact .inr (.inr ⟨s',d,hd,by rw[hr];exact e⟩)
  have hco:∀x,(hasT L x∨x=s')↔hasT (L++[⟨s',d,p⟩]) x:=fun x=>(hasT_more x).symm
  have hl:v'.ownBlock=v.ownBlock∨∃g,v'.ownBlock=some g∧V0.heap.size≤g:=HAT.out.imp id fun h=>⟨_,h,by simp⟩
  refine ⟨rfl,HB1.out.more (But.trans (N:=fun g=>v.ownBlock=some g∨g=bt1 s') (But.grown hgV fun r e=>.inl e) (But.grown HG3.out fun r e=>.inr (Option.some.inj e).symm)) (fun g hg=>hg.elim (fun e=>HF1.out g (hvF g e)) (fun e=>HF1.out g (.inr (.inl ⟨s',.inr rfl,e⟩)))),n1+1,by have:=HN1.out;omega,D1,bt1,_,_,(HT1.out.put (.inr rfl) HVC.out hgV HO.out hl HM3.out HG3.out).congr hco,fun g hg=>?_⟩;rcases foot_put (hg.congr fun x=>(hco x).symm) with h | h
  ·exact HF1.out g h
  ·rcases hl with e | ⟨g',e,hge⟩
   ·exact HF1.out g (hvF g (e.symm.trans h))
   ·have e2:=Option.some.inj (e.symm.trans h);have:=HB1.out.size;exact .inr (by omega)
end Go.Proofs.YtigfcihakghddaaGreatDoor.BufT
