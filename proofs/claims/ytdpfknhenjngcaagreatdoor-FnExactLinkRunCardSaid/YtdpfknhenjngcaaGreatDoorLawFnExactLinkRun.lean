/-
  The law FnExactLinkRun returns true for every input, and leaves what came in as it was, on every schedule, without a data race; the others only leave. The row's condition on the listed variable is not used.
-/
import Derived.Test.YtdpfknhenjngcaaGreatDoorRows
import Derived.Test.YtdpfknhenjngcaaGreatDoorZ13D
import Derived.WalkKit
import Derived.ProofKit
import Derived.OpenShut
import Derived.ShutString
import Derived.ChangeOld
import Derived.Test.YtdpfknhenjngcaaGreatDoorCards
import Derived.Test.YtdpfknhenjngcaaGreatDoorTie
set_option linter.unusedSimpArgs false
set_option linter.unusedVariables false
set_option linter.unusedSectionVars false
namespace Go.Proofs.YtdpfknhenjngcaaGreatDoor.fnExactLinkRun
open Go.ChangeShapes Go.WideShapes Go.ChangeAt Go.RowKit
open Go.Conc Go.ConcM
theorem own:ownKnob Tryz.prog.godebug=none:=by kernel_rfl
theorem laidOut:laidOutB Tryz.prog=true:=by kernel_rfl
theorem run(cs:Array Value)(t:Int)(W:World)(hc:zH1 W shL cs.toList):
  ∃M last o w' t',runNT Tryz.prog (M+1) (solo (G (Frame.enter Tryz.prog 11 #[.agg cs,.int .i64 t] .normal) []) W) #[]=(.ended o w',t')/\runN Tryz.prog M (solo (G (Frame.enter Tryz.prog 11 #[.agg cs,.int .i64 t] .normal) []) W)=.next last/\step Tryz.prog last=.ended o w'/\
   Conc.Good Tryz.prog (λ v W'=>v=.bool true/\Below W.heap.size W { W' with os:=W.os,tape:=W.tape }/\OsLater W.os W'.os) last o w' t':=by
 obtain⟨E,hE,hg⟩:=zLB hc
 obtain⟨us,h1,h2,h3⟩:=hg [] []
 rw[List.nil_append,List.append_nil] at h1 h3
 exact Rn.znu Rn.pg Rn.gp Rn.za5 AI (f:=11) ⟨_,Rn.fM Tryz.func11,by kernel_rfl⟩ (av2 (zMt h1) (.int _ t)) hE λ hr=>zNv zyO h2 h3 hr
def laidL:List (String×DataW Unit):=Rows.fnExactLinkRunRow.laid
theorem door_met(os:Os)(args:Array Value):laidMetH Tryz.prog laidL ((World.doorLaid Tryz.prog 30 os).forCall (λ _ _=>0) ⟨#[],args,[]⟩).memory:=
 laidMetH_of_parts3 (fuel:=8) (laidMet_of_run' 8 (by kernel_rfl) (by kernel_rfl)) (by kernel_rfl) (by kernel_rfl)
def zD:Array Value:=#[.int .i64 0,.int .i64 0,.int .i64 0,.int .i64 0,.int .i64 0,.int .i64 0,.int .i64 0,.slice none 0 0,.bool false,.int .i64 0,.int .i64 0,.slice none 0 0,.int .i64 0,.int .i64 0,.bool false,.bool false,.bool false,.bool false,.slice none 0 0,.slice none 0 0,.int .i64 0,.int .i64 0]
set_option maxRecDepth 100000 in
theorem lifted(os:Os)(started:os.Started)(H:Type)(enc:TypeId×Value->H)(F:Stop.Interp):
  ReturnsInLeavingWide Rows.fnExactLinkRunRow.assume Tryz.checked os 11 .any (λ w args=>(Rows.fnExactLinkRunSpec.pre enc Tryz.prog Tryz.f11 [] false w args/\laidMetH Tryz.prog laidL w)/\sizedMet enc Tryz.prog Tryz.f11 (OpenSpec.ofChange Rows.fnExactLinkRunSpec) false w args) ((OpenSpec.ofChange Rows.fnExactLinkRunSpec).postWith enc Tryz.prog Tryz.f11 F (outsideKept [.timePasses]) false true false):=by
 refine Cp (C:=Tryz.checked) (X:=λ w _=>laidMetH Tryz.prog laidL w) (λ _ _ _ hh h=>h.of_heap hh) own started Tryz.func11
  (X2 (enc:=enc) (C:=Tryz.checked) (os:=os) (X:=λ w _=>laidMetH Tryz.prog laidL w) (World.doorLaid Tryz.prog 30 os) #[.agg (zD++zD),.int .i64 0] 8 rfl (World.shaped_of_RefB (by kernel_rfl) (by kernel_rfl)) (by kernel_rfl) (by kernel_rfl) (by kernel_rfl) (door_met os _)) ?_
 intro W base args ds gs before hval0 hW hL
 have hval:∀(j:Nat) t v,Tryz.f11.params[j]?=some t->args[j]?=some v->Value.okWide Tryz.prog W .any base t v:=hval0
 have hW':=hW
 obtain⟨p,q,hA0,hV,rfl,hfz,hnd⟩:=hW
 have hA:DataW.TrodAll enc Tryz.prog W 0 (λ _=>true) true Tryz.f11.params.toList args.toList ds p:=hA0
 rw[Tryz.params11] at hA hval
 obtain⟨v0,vs0,d0,ds0,p0,q0,hargs,rfl,rfl,h0,r0⟩:=trodAll_cons hA
 obtain⟨v1,vs1,d1,ds1,p1,q1,rfl,rfl,rfl,h1,r1⟩:=trodAll_cons r0
 obtain⟨rfl,rfl,rfl⟩:=trodAll_nil r1
 obtain rfl:args=#[v0,v1]:=by cases args;simp_all
 obtain⟨_,_,_,_,dv,_,rfl,_,_,_,_,_⟩:=trodVars_one hV
 have k0:=h0
 have lt0:∀x∈p0,x.block<W.heap.size:=by obtain⟨m,hm⟩:=k0;exact DataW.trod_lt m _ _ _ hm
 have k1:=h1
 have lt1:∀x∈p1,x.block<W.heap.size:=by obtain⟨m,hm⟩:=k1;exact DataW.trod_lt m _ _ _ hm
 obtain⟨n1,rfl,-,-,-⟩:=open_int Tryz.underlying3 (hval 1 3 v1 rfl rfl) h1
 obtain⟨cs,rfl,hsz⟩:=okWide_struct Tryz.underlying71 (hval 0 71 v0 rfl rfl)
 have hc:zH1 W shL cs.toList:=by
  obtain⟨fuel,hf⟩:=h0
  exact zMr _ _ _ (by simpa [Value.cells] using hf) (zLX Tryz.underlying71 (hval 0 71 _ rfl rfl))
 clear hA0 hval0
 obtain⟨M,last,o,w',t',g1,g2,g3,v,e,⟨hv,bel,hos⟩,g4⟩:=run cs n1 W hc
 refine⟨M,last,o,w',t',g1,g2,g3,v,e,⟨?_,hos⟩,g4⟩
 subst hv
 exact⟨_,_,_,[],_,_,hW',trodAll_mk1 (shut_bool Tryz.underlying4 _),(trodAll_cons_mk (Below.trod laidOut (by kernel_rfl) (of_decide_eq_true (by kernel_rfl)) k0 bel lt0) (trodAll_cons_mk (Below.trod laidOut (by kernel_rfl) (of_decide_eq_true (by kernel_rfl)) k1 bel lt1) trodAll_mk0)),Below.trodVars laidOut bel (by kernel_rfl) hV,bel.frame _,λ h=>by cases h⟩
theorem o1:Tryz.pinned.checked.prog.funcNamed Rows.fnExactLinkRunRow.func=some 11:=by kernel_rfl
theorem andB{a b:Bool}(h:a=true)(k:b=true):(a && b)=true:=by rw[h,k];rfl
set_option maxHeartbeats 20000000 in
theorem o2:joinedFacts Tryz.pinned.checked.prog 11 Tryz.f11 Rows.fnExactLinkRunSpec Rows.fnExactLinkRunRow=true:=by
 unfold joinedFacts
 repeat' with_reducible apply andB
 all_goals as_aux_lemma=>kernel_rfl
theorem o3:Tryz.f11.isInstance Tryz.pinned.checked.prog Rows.fnExactLinkRunRow.origin Rows.fnExactLinkRunRow.targs:=of_decide_eq_true (by kernel_rfl)
theorem o4:Tryz.f11.isWrapper Tryz.pinned.checked.prog Rows.fnExactLinkRunRow.wrapper Rows.fnExactLinkRunRow.mainSum:=by unfold Func.isWrapper;first|(rw[if_pos (by decide +kernel)];kernel_rfl)|(rw[if_neg (by decide +kernel)];exact⟨rfl,rfl⟩)
theorem over:Rows.fnExactLinkRunRow.holds Tryz.pinned (OpenSpec.ofChange Rows.fnExactLinkRunSpec):=
 OpenClaim.holds_of_wide_leaving_time 11 Tryz.f11 rfl rfl rfl rfl rfl rfl rfl ⟨rfl,rfl,rfl,rfl,rfl⟩ rfl rfl rfl rfl rfl o1 Tryz.func11 o2 o3 o4 (λ os started H enc _ F=>lifted os started H enc F)
theorem proved:Rows.FnExactLinkRunCardSaid:=
 Ou .later [.sentinel] true (true, "c6c82b1ac7112bf3386a7f27fb25917ed316a4177ca5dd2bd340ace58037e13c") true
  over (by kernel_rfl) fnExactLinkRun_row_tie rfl ⟨rfl,rfl⟩ (by kernel_rfl) rfl
  (λ f fn hf hfn=>by
   obtain rfl:f=11:=Option.some.inj ((show Tryz.prog.funcNamed Rows.fnExactLinkRunRow.func=some 11 by kernel_rfl).symm.trans hf) |>.symm
   obtain rfl:fn=Tryz.f11:=(Option.some.inj (Tryz.func11.symm.trans hfn)).symm
   exact⟨by kernel_rfl,λ j t ht=>by
    rw[Tryz.params11] at ht
    have hm:t∈[71,3]:=by simpa using Array.mem_of_getElem? ht
    have hall:([71,3].all λ u=>!Tryz.prog.wantsStandIn u)=true:=by kernel_rfl
    exact(show Tryz.prog.wantsStandIn t=false by simpa using List.all_eq_true.1 hall t hm)⟩)
  (by kernel_rfl)
#print axioms proved
end Go.Proofs.YtdpfknhenjngcaaGreatDoor.fnExactLinkRun
