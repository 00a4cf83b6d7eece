/- PROVED: RewriteMeans: whatever the leaves of a query find, the simple query finds a document just if the query does, with the same score; whatever schema, query and seed. The card ties seven laid variables. -/
import Derived.Test.YtplkbdncgkgppaaGreatDoorPack2
import Derived.Test.YtplkbdncgkgppaaGreatDoorCards
import Derived.Test.YtplkbdncgkgppaaGreatDoorTie
import Derived.Test.YtplkbdncgkgppaaGreatDoorRewriteMeansWalk
import Derived.Test.YtplkbdncgkgppaaGreatDoorPack50
import Derived.WalkKit
import Derived.ProofKit
import Derived.OpenShut
import Derived.SizedLaws
import Derived.Deep.DeepHandedRow
import Derived.Deep.DeepWitnessRowRef
import Derived.PinnedBridge
import Derived.Lib.LaidIn
import Derived.Lib.LaidU8T
set_option linter.all false
namespace Go.Proofs.YtplkbdncgkgppaaGreatDoor.rewriteMeans
open Go.ChangeShapes Go.WideShapes Go.ChangeAt Go.RowKit Go.Lib Words Law FoldNext Ana
open Go.ChangeMaps (open_string shut_string)
theorem own:ownKnob Tryz.prog.godebug=none:=by kernel_rfl
theorem yfz:laidOutB Tryz.prog=true:=by kernel_rfl
theorem yaj:Rows.rewriteMeansRow.laid=SchTabs.zwg:=by
 unfold SchTabs.zwg;rw[←SchTabs.yh3,←SchTabs.yag,←SchTabs.yc7];rfl
theorem zsv (os:Os) {H:Type} (enc:TypeId × Value→H) :
 (OpenSpec.ofChange Rows.rewriteMeansSpec).preRow enc Tryz.prog Tryz.f3 Rows.rewriteMeansRow.domain false Rows.rewriteMeansRow.laid ((SchTabs.zis os).forCall (fun _ _=>0) ⟨#[],#[.agg #[.slice none 0 0],.agg #[.int .i64 0,.int .i64 0,.string ⟨#[]⟩,.string ⟨#[]⟩,.string ⟨#[]⟩,.slice none 0 0,.slice none 0 0,.int .i64 0,.int .i64 0,.slice none 0 0],.int .u64 0],[]⟩).memory #[.agg #[.slice none 0 0],.agg #[.int .i64 0,.int .i64 0,.string ⟨#[]⟩,.string ⟨#[]⟩,.string ⟨#[]⟩,.slice none 0 0,.slice none 0 0,.int .i64 0,.int .i64 0,.slice none 0 0],.int .u64 0]:=by
 have hw:(DataW.whole enc Tryz.prog ((SchTabs.zis os).forCall (fun _ _=>0) ⟨#[],#[.agg #[.slice none 0 0],.agg #[.int .i64 0,.int .i64 0,.string ⟨#[]⟩,.string ⟨#[]⟩,.string ⟨#[]⟩,.slice none 0 0,.slice none 0 0,.int .i64 0,.int .i64 0,.slice none 0 0],.int .u64 0],[]⟩).memory Tryz.f3.params.toList Rows.rewriteMeansSpec.vars false (#[.agg #[.slice none 0 0],.agg #[.int .i64 0,.int .i64 0,.string ⟨#[]⟩,.string ⟨#[]⟩,.string ⟨#[]⟩,.slice none 0 0,.slice none 0 0,.int .i64 0,.int .i64 0,.slice none 0 0],.int .u64 0]:Array Value).toList 8).map (fun x=>(x.1,x.2.1)) =
  some ([.agg [.nil],.agg [.lit (.int .i64 0),.lit (.int .i64 0),.lit (.string []),.lit (.string []),.lit (.string []),.nil,.nil,.lit (.int .i64 0),.lit (.int .i64 0),.nil],.lit (.int .u64 0)],[]):=by kernel_rfl
 obtain ⟨⟨x1,x2,x3⟩,hx,hx1⟩:=Option.map_eq_some_iff.1 hw;simp only[Prod.mk.injEq] at hx1;obtain ⟨rfl,rfl⟩:=hx1;exact OpenSpec.preRow_of_cond 8 hx (by kernel_rfl) (fun k hk=>by cases hk) (by kernel_rfl) (by rw[yaj];exact (show laidMetH Tryz.prog _ _ from (show laidMet Tryz.prog _ _ from SchTabs.yc8 os _)))
set_option maxRecDepth 100000 in
set_option maxHeartbeats 1000000 in
theorem lifted (os:Os) (started:os.Started) (H:Type) (enc:TypeId × Value→H) (F:Stop.Interp) :
 ReturnsInHanded {} Tryz.checked os 3 .any ((OpenSpec.ofChange Rows.rewriteMeansSpec).preRow enc Tryz.prog Tryz.f3 Rows.rewriteMeansRow.domain false Rows.rewriteMeansRow.laid) (((OpenSpec.ofChange Rows.rewriteMeansSpec).at F).post enc Tryz.prog Tryz.f3 false true false false):=by
 refine returnsInHanded_of_row (C:=Tryz.checked) (s:=OpenSpec.ofChange Rows.rewriteMeansSpec) own started (by kernel_rfl) Tryz.func3
  (witness_row_atRef (enc:=enc) (C:=Tryz.checked) false (SchTabs.zis os) #[.agg #[.slice none 0 0],.agg #[.int .i64 0,.int .i64 0,.string ⟨#[]⟩,.string ⟨#[]⟩,.string ⟨#[]⟩,.slice none 0 0,.slice none 0 0,.int .i64 0,.int .i64 0,.slice none 0 0],.int .u64 0] rfl (by kernel_rfl) (by kernel_rfl) (by kernel_rfl) (zsv os enc)) ?_
 intro W base args ds gs before hval0 hW _ hcond hsz0 hL hsh _;have hval:∀(j:Nat) t v,Tryz.f3.params[j]?=some t→args[j]?=some v→Value.okWide Tryz.prog W .any base t v:=hval0;have hW':=hW;obtain ⟨p,q,hA0,hV,rfl,hfz,hnd⟩:=hW;have hA:DataW.TrodAll enc Tryz.prog W 0 (fun _=>true) true Tryz.f3.params.toList args.toList ds p:=hA0;rw[Tryz.params3] at hA hval;obtain ⟨v0,vs0,d0,ds0,p0,q0,hargs,rfl,rfl,h0,r0⟩:=trodAll_cons hA;obtain ⟨v1,vs1,d1,ds1,p1,q1,rfl,rfl,rfl,h1,r1⟩:=trodAll_cons r0;obtain ⟨v2,vs2,d2,ds2,p2,q2,rfl,rfl,rfl,h2,r2⟩:=trodAll_cons r1;obtain ⟨rfl,rfl,rfl⟩:=trodAll_nil r2;obtain rfl:args=#[v0,v1,v2]:=by cases args;simp_all
 obtain ⟨rfl,rfl⟩:=trodVars_none hV;have ok0:=hval 0 24 v0 rfl rfl;have ok1:=hval 1 28 v1 rfl rfl;have ok2:=hval 2 29 v2 rfl rfl;clear hA0 hval0;have hsz:(DataW.weightsEach Tryz.prog _ _).all (·≤reachBytes)=true:=hsz0
 have hLL:laidMet Tryz.prog SchTabs.zwg W:=(by have hl:=hL;rw[yaj] at hl;exact (show laidMet Tryz.prog _ W from hl))
 have hO:=SchTabs.yja hLL hsh;have hT:=SchTabs.yjb hLL;have hw0:∀n∈d0.weights Tryz.prog 24,n≤reachBytes:=fun n hn=>by have:=List.all_eq_true.1 hsz n (DataW.weights_mem_each (j:=0) (t:=24) (d:=d0) rfl rfl n hn);simpa using this
 have hw1:∀n∈d1.weights Tryz.prog 28,n≤reachBytes:=fun n hn=>by have:=List.all_eq_true.1 hsz n (DataW.weights_mem_each (j:=1) (t:=28) (d:=d1) rfl rfl n hn);simpa using this
 obtain ⟨l,u,rfl,hu,hl,okf,_⟩:=Qck.zq3 ok0 h0 hw0;obtain ⟨qa,xa,rfl,ha,oka,hbk⟩:=Qry.zuu ok1 h1 hw1;obtain ⟨a2,rfl,rfl,rfl,w2⟩:=open_int Tryz.underlying29 ok2 h2;refine (RewriteMeansWalk.walk u xa l qa a2 W hu hl okf ha oka hT hO).mono fun e W' ⟨he,hg⟩=>?_;subst he;exact ⟨_,rfl,yam (s:=Rows.rewriteMeansSpec) yfz (by rw[Tryz.params3];decide +kernel) Tryz.underlying4 (by kernel_rfl) rfl rfl hW' hg⟩
theorem said:Rows.RewriteMeansSaid:=
 OpenClaim.holds_of_cond 3 Tryz.f3 rfl rfl rfl rfl rfl rfl rfl ⟨rfl,rfl,rfl,rfl,rfl⟩ rfl rfl rfl rfl rfl (by kernel_rfl) Tryz.func3 (by kernel_rfl)
  (of_decide_eq_true (by kernel_rfl)) (by unfold Func.isWrapper;first | (rw[if_pos (by decide +kernel)];kernel_rfl) | (rw[if_neg (by decide +kernel)];exact ⟨rfl,rfl⟩))
  (fun os started H enc _ F=>by rw[OpenClaim.pre_eq_preRow];exact lifted os started H enc F)
theorem yjc (f:FuncId) (fn:Func) (hf:Tryz.pinned.checked.prog.funcNamed Rows.rewriteMeansRow.func=some f) (hfn:Tryz.pinned.checked.prog.funcs[f]?=some fn) :
 true=Tryz.pinned.checked.prog.looks []∧∀(j:Nat) t,fn.params[j]?=some t→Tryz.pinned.checked.prog.wantsStandIn t=false:=by
 obtain rfl:f=3:=Option.some.inj ((show Tryz.prog.funcNamed Rows.rewriteMeansRow.func=some 3 by kernel_rfl).symm.trans hf) |>.symm;obtain rfl:fn=Tryz.f3:=(Option.some.inj (Tryz.func3.symm.trans hfn)).symm;refine ⟨by kernel_rfl,fun j t ht=>?_⟩;rw[Tryz.params3] at ht;have hm:=Array.mem_of_getElem? ht;revert hm;generalize t=t';intro hm;have hall:∀x∈(#[24,28,29]:Array TypeId).toList,Tryz.prog.wantsStandIn x=false:=by decide +kernel
 exact hall t' (by simpa using hm)
theorem card:Rows.RewriteMeansCardSaid:=
 Claim7.holds_tied_plain_at .later [] _ _ _ _ said (fun _ h=>by cases h) (by kernel_rfl) (fun _ h=>by cases h) rewriteMeans_row_tie rfl ⟨rfl,rfl⟩ (by kernel_rfl) rfl yjc (by kernel_rfl)
end Go.Proofs.YtplkbdncgkgppaaGreatDoor.rewriteMeans
