/- PROVED: BufferKnown: the chapter's examples hold. The card ties seven laid variables. -/
import Derived.Test.YtigfcihakghddaaGreatDoorPack3
import Derived.Test.YtigfcihakghddaaGreatDoorWords
import Derived.Test.YtigfcihakghddaaGreatDoorCards
import Derived.Test.YtigfcihakghddaaGreatDoorTie
import Derived.Test.YtigfcihakghddaaGreatDoorBufferKnownWalk
import Derived.Test.YtigfcihakghddaaGreatDoorBufTabs
import Derived.WalkKit
import Derived.ProofKit
import Derived.OpenShut
import Derived.SizedLaws
import Derived.Deep.DeepHandedRow
import Derived.Deep.DeepWitnessRowRef
import Derived.PinnedBridge
import Derived.Lib.LaidIn
import Derived.Lib.LaidU8T
set_option linter.all false
namespace Go.Proofs.YtigfcihakghddaaGreatDoor.bufferKnown
open Go.ChangeShapes Go.WideShapes Go.ChangeAt Go.RowKit Go.Lib Words Law FoldNext
open Go.ChangeMaps (open_string shut_string)
theorem own:ownKnob Tryz.prog.godebug=none:=by kernel_rfl
theorem laidOut:laidOutB Tryz.prog=true:=by kernel_rfl
theorem laid_eq:Rows.bufferKnownRow.laid=SchTabs.laidL:=by
 unfold SchTabs.laidL;rw[←SchTabs.pow_eq,←SchTabs.accept_eq,←SchTabs.first_eq];rfl
theorem witness_row (os:Os) {H:Type} (enc:TypeId × Value→H) :
 (OpenSpec.ofChange Rows.bufferKnownSpec).preRow enc Tryz.prog Tryz.f5 Rows.bufferKnownRow.domain false Rows.bufferKnownRow.laid ((SchTabs.laidWorld os).forCall (fun _ _=>0) ⟨#[],#[],[]⟩).memory #[]:=by
 have hw:(DataW.whole enc Tryz.prog ((SchTabs.laidWorld os).forCall (fun _ _=>0) ⟨#[],#[],[]⟩).memory Tryz.f5.params.toList Rows.bufferKnownSpec.vars false (#[]:Array Value).toList 8).map (fun x=>(x.1,x.2.1)) =
  some ([],[]):=by kernel_rfl
 obtain ⟨⟨x1,x2,x3⟩,hx,hx1⟩:=Option.map_eq_some_iff.1 hw;simp only[Prod.mk.injEq] at hx1;obtain ⟨rfl,rfl⟩:=hx1;exact OpenSpec.preRow_of_cond 8 hx (by kernel_rfl) (fun k hk=>by cases hk) (by kernel_rfl) (by rw[laid_eq];exact (show laidMetH Tryz.prog _ _ from (show laidMet Tryz.prog _ _ from SchTabs.laid_met os _)))
set_option maxRecDepth 100000 in
set_option maxHeartbeats 1000000 in
theorem lifted (os:Os) (started:os.Started) (H:Type) (enc:TypeId × Value→H) (F:Stop.Interp) :
 ReturnsInHanded {} Tryz.checked os 5 .any ((OpenSpec.ofChange Rows.bufferKnownSpec).preRow enc Tryz.prog Tryz.f5 Rows.bufferKnownRow.domain false Rows.bufferKnownRow.laid) (((OpenSpec.ofChange Rows.bufferKnownSpec).at F).post enc Tryz.prog Tryz.f5 false true false false):=by
 refine returnsInHanded_of_row (C:=Tryz.checked) (s:=OpenSpec.ofChange Rows.bufferKnownSpec) own started (by kernel_rfl) Tryz.func5
  (witness_row_atRef (enc:=enc) (C:=Tryz.checked) false (SchTabs.laidWorld os) #[] rfl (by kernel_rfl) (by kernel_rfl) (by kernel_rfl) (witness_row os enc)) ?_
 intro W base args ds gs before hval0 hW _ hcond hsz0 hL hsh _;have hval:∀(j:Nat) t v,Tryz.f5.params[j]?=some t→args[j]?=some v→Value.okWide Tryz.prog W .any base t v:=hval0;have hW':=hW;obtain ⟨p,q,hA0,hV,rfl,hfz,hnd⟩:=hW;have hA:DataW.TrodAll enc Tryz.prog W 0 (fun _=>true) true Tryz.f5.params.toList args.toList ds p:=hA0;rw[Tryz.params5] at hA hval;obtain ⟨hargs,rfl,rfl⟩:=trodAll_nil hA;obtain rfl:args=#[]:=by cases args;simp_all
 obtain ⟨rfl,rfl⟩:=trodVars_none hV;clear hA0 hval0;have hsz:(DataW.weightsEach Tryz.prog _ _).all (·≤reachBytes)=true:=hsz0
 have hLL:laidMet Tryz.prog SchTabs.laidL W:=(by have hl:=hL;rw[laid_eq] at hl;exact (show laidMet Tryz.prog _ W from hl))
 have hO:=SchTabs.otabs hLL hsh;have hT:=SchTabs.utabs hLL;refine (BufT.bufferKnown_walk W hT hO).mono fun e W' ⟨he,hg⟩=>?_;subst he;exact ⟨_,rfl,law_post (s:=Rows.bufferKnownSpec) laidOut (by rw[Tryz.params5];decide +kernel) Tryz.underlying4 (by kernel_rfl) rfl rfl hW' hg⟩
theorem said:Rows.BufferKnownSaid:=
 OpenClaim.holds_of_cond 5 Tryz.f5 rfl rfl rfl rfl rfl rfl rfl ⟨rfl,rfl,rfl,rfl,rfl⟩ rfl rfl rfl rfl rfl (by kernel_rfl) Tryz.func5 (by kernel_rfl)
  (of_decide_eq_true (by kernel_rfl)) (by unfold Func.isWrapper;first | (rw[if_pos (by decide +kernel)];kernel_rfl) | (rw[if_neg (by decide +kernel)];exact ⟨rfl,rfl⟩))
  (fun os started H enc _ F=>by rw[OpenClaim.pre_eq_preRow];exact lifted os started H enc F)
theorem plain (f:FuncId) (fn:Func) (hf:Tryz.pinned.checked.prog.funcNamed Rows.bufferKnownRow.func=some f) (hfn:Tryz.pinned.checked.prog.funcs[f]?=some fn) :
 true=Tryz.pinned.checked.prog.looks []∧∀(j:Nat) t,fn.params[j]?=some t→Tryz.pinned.checked.prog.wantsStandIn t=false:=by
 obtain rfl:f=5:=Option.some.inj ((show Tryz.prog.funcNamed Rows.bufferKnownRow.func=some 5 by kernel_rfl).symm.trans hf) |>.symm;obtain rfl:fn=Tryz.f5:=(Option.some.inj (Tryz.func5.symm.trans hfn)).symm;refine ⟨by kernel_rfl,fun j t ht=>?_⟩;rw[Tryz.params5] at ht;have hm:=Array.mem_of_getElem? ht;revert hm;generalize t=t';intro hm;have hall:∀x∈(#[]:Array TypeId).toList,Tryz.prog.wantsStandIn x=false:=by decide +kernel
 exact hall t' (absurd hm (by simp))
theorem card:Rows.BufferKnownCardSaid:=
 Claim7.holds_tied_plain_at .later [] _ _ _ _ said (fun _ h=>by cases h) (by kernel_rfl) (fun _ h=>by cases h) bufferKnown_row_tie rfl ⟨rfl,rfl⟩ (by kernel_rfl) rfl plain (by kernel_rfl)
end Go.Proofs.YtigfcihakghddaaGreatDoor.bufferKnown
