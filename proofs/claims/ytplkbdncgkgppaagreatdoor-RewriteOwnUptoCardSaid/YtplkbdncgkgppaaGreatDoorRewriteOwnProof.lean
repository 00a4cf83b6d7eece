/- PROVED: RewriteOwn: a simple query is memory of its own; whatever schema and query. The card ties seven laid variables. -/
import Derived.Test.YtplkbdncgkgppaaGreatDoorPack2
import Derived.Test.YtplkbdncgkgppaaGreatDoorCards
import Derived.Test.YtplkbdncgkgppaaGreatDoorTie
import Derived.Test.YtplkbdncgkgppaaGreatDoorRewriteOwnWalk
import Derived.Test.YtplkbdncgkgppaaGreatDoorPack50
import Derived.WalkKit
import Derived.ProofKit
import Derived.OpenShut
import Derived.SizedLaws
import Derived.Deep.DeepHandedRow
import Derived.Deep.DeepWitnessRowRef
import Derived.PinnedBridge
import Derived.Lib.LaidIn
import Derived.Lib.LaidU8T
set_option linter.all false
namespace Go.Proofs.YtplkbdncgkgppaaGreatDoor.rewriteOwn
open Go.ChangeShapes Go.WideShapes Go.ChangeAt Go.RowKit Go.Lib Words Law FoldNext Ana
open Go.ChangeMaps (open_string shut_string)
theorem own:ownKnob Tryz.prog.godebug=none:=by kernel_rfl
theorem ydb:laidOutB Tryz.prog=true:=by kernel_rfl
theorem zyb:Rows.rewriteOwnUptoRow.laid=SchTabs.zum:=by
 unfold SchTabs.zum;rw[←SchTabs.yfb,←SchTabs.zx8,←SchTabs.yap];rfl
theorem zri (os:Os) {H:Type} (enc:TypeId × Value→H) :
 (Rows.OpenSpec.upto Rows.rewriteOwnSpec).preRow enc Tryz.prog Tryz.f4 Rows.rewriteOwnUptoRow.domain false Rows.rewriteOwnUptoRow.laid ((SchTabs.zh3 os).forCall (fun _ _=>0) ⟨#[],#[.agg #[.slice none 0 0],.agg #[.int .i64 0,.int .i64 0,.string ⟨#[]⟩,.string ⟨#[]⟩,.string ⟨#[]⟩,.slice none 0 0,.slice none 0 0,.int .i64 0,.int .i64 0,.slice none 0 0]],[]⟩).memory #[.agg #[.slice none 0 0],.agg #[.int .i64 0,.int .i64 0,.string ⟨#[]⟩,.string ⟨#[]⟩,.string ⟨#[]⟩,.slice none 0 0,.slice none 0 0,.int .i64 0,.int .i64 0,.slice none 0 0]]:=by
 have hw:(DataW.whole enc Tryz.prog ((SchTabs.zh3 os).forCall (fun _ _=>0) ⟨#[],#[.agg #[.slice none 0 0],.agg #[.int .i64 0,.int .i64 0,.string ⟨#[]⟩,.string ⟨#[]⟩,.string ⟨#[]⟩,.slice none 0 0,.slice none 0 0,.int .i64 0,.int .i64 0,.slice none 0 0]],[]⟩).memory Tryz.f4.params.toList Rows.rewriteOwnSpec.vars false (#[.agg #[.slice none 0 0],.agg #[.int .i64 0,.int .i64 0,.string ⟨#[]⟩,.string ⟨#[]⟩,.string ⟨#[]⟩,.slice none 0 0,.slice none 0 0,.int .i64 0,.int .i64 0,.slice none 0 0]]:Array Value).toList 8).map (fun x=>(x.1,x.2.1)) =
  some ([.agg [.nil],.agg [.lit (.int .i64 0),.lit (.int .i64 0),.lit (.string []),.lit (.string []),.lit (.string []),.nil,.nil,.lit (.int .i64 0),.lit (.int .i64 0),.nil]],[]):=by kernel_rfl
 obtain ⟨⟨x1,x2,x3⟩,hx,hx1⟩:=Option.map_eq_some_iff.1 hw;simp only[Prod.mk.injEq] at hx1;obtain ⟨rfl,rfl⟩:=hx1;exact OpenSpec.preRow_of_cond 8 hx (by kernel_rfl) (fun k hk=>by cases hk;kernel_rfl) (by kernel_rfl) (by rw[zyb];exact (show laidMetH Tryz.prog _ _ from (show laidMet Tryz.prog _ _ from SchTabs.yaq os _)))
set_option maxRecDepth 100000 in
set_option maxHeartbeats 1000000 in
theorem lifted (os:Os) (started:os.Started) (H:Type) (enc:TypeId × Value→H) (F:Stop.Interp) :
 ReturnsInHanded {} Tryz.checked os 4 .any ((Rows.OpenSpec.upto Rows.rewriteOwnSpec).preRow enc Tryz.prog Tryz.f4 Rows.rewriteOwnUptoRow.domain false Rows.rewriteOwnUptoRow.laid) (((Rows.OpenSpec.upto Rows.rewriteOwnSpec).at F).post enc Tryz.prog Tryz.f4 false true false false):=by
 refine returnsInHanded_of_row (C:=Tryz.checked) (s:=Rows.OpenSpec.upto Rows.rewriteOwnSpec) own started (by kernel_rfl) Tryz.func4
  (witness_row_atRef (enc:=enc) (C:=Tryz.checked) false (SchTabs.zh3 os) #[.agg #[.slice none 0 0],.agg #[.int .i64 0,.int .i64 0,.string ⟨#[]⟩,.string ⟨#[]⟩,.string ⟨#[]⟩,.slice none 0 0,.slice none 0 0,.int .i64 0,.int .i64 0,.slice none 0 0]] rfl (by kernel_rfl) (by kernel_rfl) (by kernel_rfl) (zri os enc)) ?_
 intro W base args ds gs before hval0 hW _ hcond hsz0 hL hsh _;have hval:∀(j:Nat) t v,Tryz.f4.params[j]?=some t→args[j]?=some v→Value.okWide Tryz.prog W .any base t v:=hval0;have hW':=hW;obtain ⟨p,q,hA0,hV,rfl,hfz,hnd⟩:=hW;have hA:DataW.TrodAll enc Tryz.prog W 0 (fun _=>true) true Tryz.f4.params.toList args.toList ds p:=hA0;rw[Tryz.params4] at hA hval;obtain ⟨v0,vs0,d0,ds0,p0,q0,hargs,rfl,rfl,h0,r0⟩:=trodAll_cons hA;obtain ⟨v1,vs1,d1,ds1,p1,q1,rfl,rfl,rfl,h1,r1⟩:=trodAll_cons r0;obtain ⟨rfl,rfl,rfl⟩:=trodAll_nil r1;obtain rfl:args=#[v0,v1]:=by cases args;simp_all
 obtain ⟨rfl,rfl⟩:=trodVars_none hV;have ok0:=hval 0 24 v0 rfl rfl;have ok1:=hval 1 28 v1 rfl rfl;clear hA0 hval0;have hk:Rows.uptoBulkAll _≤1048576:=of_decide_eq_true (hcond _ rfl);have hsz:(DataW.weightsEach Tryz.prog _ _).all (·≤reachBytes)=true:=hsz0;simp only[List.cons_append,List.nil_append,List.append_nil,Rows.uptoBulkAll,Rows.uptoBulk,←size_eq] at hk
 have hLL:laidMet Tryz.prog SchTabs.zum W:=(by have hl:=hL;rw[zyb] at hl;exact (show laidMet Tryz.prog _ W from hl))
 have hO:=SchTabs.yga hLL hsh;have hT:=SchTabs.ygb hLL;have hw0:∀n∈d0.weights Tryz.prog 24,n≤reachBytes:=fun n hn=>by have:=List.all_eq_true.1 hsz n (DataW.weights_mem_each (j:=0) (t:=24) (d:=d0) rfl rfl n hn);simpa using this
 have hw1:∀n∈d1.weights Tryz.prog 28,n≤reachBytes:=fun n hn=>by have:=List.all_eq_true.1 hsz n (DataW.weights_mem_each (j:=1) (t:=28) (d:=d1) rfl rfl n hn);simpa using this
 obtain ⟨l,u,rfl,hu,hl,okf,_⟩:=Qck.zpt ok0 h0 hw0;obtain ⟨qa,xa,rfl,ha,oka,hbk⟩:=Qry.zst ok1 h1 hw1;refine (RewriteOwnWalk.walk u xa l qa W hu hl okf ha oka (by rw[Qry.zka];omega) hT hO).mono fun e W' ⟨he,hg⟩=>?_;subst he;exact ⟨_,rfl,zyd (s:=Rows.rewriteOwnSpec) ydb (by rw[Tryz.params4];decide +kernel) Tryz.underlying4 (by kernel_rfl) rfl rfl hW' hg⟩
theorem said:Rows.RewriteOwnUptoSaid:=
 OpenClaim.holds_of_cond 4 Tryz.f4 rfl rfl rfl rfl rfl rfl rfl ⟨rfl,rfl,rfl,rfl,rfl⟩ rfl rfl rfl rfl rfl (by kernel_rfl) Tryz.func4 (by kernel_rfl)
  (of_decide_eq_true (by kernel_rfl)) (by unfold Func.isWrapper;first | (rw[if_pos (by decide +kernel)];kernel_rfl) | (rw[if_neg (by decide +kernel)];exact ⟨rfl,rfl⟩))
  (fun os started H enc _ F=>by rw[OpenClaim.pre_eq_preRow];exact lifted os started H enc F)
theorem ygc (f:FuncId) (fn:Func) (hf:Tryz.pinned.checked.prog.funcNamed Rows.rewriteOwnUptoRow.func=some f) (hfn:Tryz.pinned.checked.prog.funcs[f]?=some fn) :
 true=Tryz.pinned.checked.prog.looks []∧∀(j:Nat) t,fn.params[j]?=some t→Tryz.pinned.checked.prog.wantsStandIn t=false:=by
 obtain rfl:f=4:=Option.some.inj ((show Tryz.prog.funcNamed Rows.rewriteOwnUptoRow.func=some 4 by kernel_rfl).symm.trans hf) |>.symm;obtain rfl:fn=Tryz.f4:=(Option.some.inj (Tryz.func4.symm.trans hfn)).symm;refine ⟨by kernel_rfl,fun j t ht=>?_⟩;rw[Tryz.params4] at ht;have hm:=Array.mem_of_getElem? ht;revert hm;generalize t=t';intro hm;have hall:∀x∈(#[24,28]:Array TypeId).toList,Tryz.prog.wantsStandIn x=false:=by decide +kernel
 exact hall t' (by simpa using hm)
theorem card:Rows.RewriteOwnUptoCardSaid:=
 Claim7.holds_tied_plain_at .later [] _ _ _ _ said (fun _ h=>by cases h) (by kernel_rfl) (fun _ h=>by cases h) rewriteOwnUpto_row_tie rfl ⟨rfl,rfl⟩ (by kernel_rfl) rfl ygc (by kernel_rfl)
end Go.Proofs.YtplkbdncgkgppaaGreatDoor.rewriteOwn
