/-
  The law FnExactExecute returns true for every input, and leaves what came in as it was. On every schedule it returns, without a data race; the others only leave. Of the row's conditions on the listed variables, which the card ties to the program's text, the one on the table of powers of ten is used.
-/
import Derived.Test.YtelohkknmgaacaaGreatDoorRows
import Derived.Test.YtelohkknmgaacaaGreatDoorZ12
import Derived.WalkKit
import Derived.ProofKit
import Derived.OpenShut
import Derived.ShutString
import Derived.ChangeOld
import Derived.Below
import Derived.Lay
import Derived.Test.YtelohkknmgaacaaGreatDoorCards
import Derived.Test.YtelohkknmgaacaaGreatDoorTie
set_option linter.unusedSimpArgs false
set_option linter.unusedVariables false
set_option linter.unusedSectionVars false
set_option linter.defProp false
namespace Go.Proofs.YtelohkknmgaacaaGreatDoor.fnExactExecute
open Go.ChangeShapes Go.WideShapes Go.ChangeAt Go.RowKit
open Go.ChangeMaps (open_string shut_string)
open Go.Conc Go.ConcM
theorem own:ownKnob Tryz.prog.godebug=none:=by kernel_rfl
theorem laidOut:laidOutB Tryz.prog=true:=by kernel_rfl
def laidL:List (String×DataW Unit):=Rows.fnExactExecuteRow.laid
theorem door_met(os:Os)(args:Array Value):laidMetH Tryz.prog laidL ((World.laidAll Tryz.prog os laidL).forCall (λ _ _=>0) ⟨#[],args,[]⟩).memory:=by
 have e:(laidL.filter λ x=>x.2.handleName?.isSome)=[]:=by kernel_rfl
 unfold laidMetH
 rw[e]
 exact laidMet_laidAll args (by kernel_rfl) (by kernel_rfl)
abbrev RowIn(W:World)(a:Option Addr):Prop:=∀x,a=some x->x.spot=none/\∃c e f,W.heap[x.block]?=some (.cells c e f)
theorem run(a0:ByteArray)(W:World)(hL:laidMetH Tryz.prog laidL W)(hS:W.ShapedOpen Tryz.prog):
  ∃M last o w' t',runNT Tryz.prog (M+1) (solo (G (Frame.enter Tryz.prog 6 #[.string a0] .normal) []) W) #[]=(.ended o w',t')/\runN Tryz.prog M (solo (G (Frame.enter Tryz.prog 6 #[.string a0] .normal) []) W)=.next last/\step Tryz.prog last=.ended o w'/\
   Conc.Good Tryz.prog (λ v W'=>v=.bool true/\Below W.heap.size W { W' with os:=W.os,tape:=W.tape }/\OsLater W.os W'.os) last o w' t':=by
 have e:Ab.fR a0.data.toList=.string a0:=by simp[Ab.fR]
 exact Rn.znJ Rn.pg Rn.gp Rn.zbW wR (f:=6) (z:=#[Ab.fR a0.data.toList]) (t:=eG++[]) ⟨_,Rn.fM Tryz.func6,by kernel_rfl⟩ (by rw[e];exact av1 (.string _)) (λ x hx=>znd hS (zrR rfl hL) x (by simpa using hx)) (zuE []) λ hr=>YG Rn.pg zx6 _ _ (zuF W []) hr
set_option maxRecDepth 100000 in
theorem lifted(os:Os)(started:os.Started)(H:Type)(di:TypeId×Value->H)(F:Stop.Interp):
  ReturnsInLeavingWide Rows.fnExactExecuteRow.assume Tryz.checked os 6 .any (λ w args=>(Rows.fnExactExecuteSpec.pre di Tryz.prog Tryz.f6 [] false w args/\laidMetH Tryz.prog laidL w)/\sizedMet di Tryz.prog Tryz.f6 (OpenSpec.ofChange Rows.fnExactExecuteSpec) false w args) ((OpenSpec.ofChange Rows.fnExactExecuteSpec).postWith di Tryz.prog Tryz.f6 F (outsideKept [.timePasses]) false true false):=by
 refine Cc (l:=Tryz.checked) (X:=λ w _=>laidMetH Tryz.prog laidL w) (λ _ _ _ hh h=>h.of_heap hh) own started Tryz.func6
  (YC (di:=di) (c:=Tryz.checked) (l:=os) (X:=λ w _=>laidMetH Tryz.prog laidL w) (World.laidAll Tryz.prog os laidL) #[.string ByteArray.empty] 8 (World.laidAll_os _ _ _) (World.shaped_of_ZipB (by kernel_rfl) (by kernel_rfl)) (by kernel_rfl) (by kernel_rfl) (by kernel_rfl) (door_met os _)) ?_
 intro W base args ds gs before hval0 hW hL hSh
 have hval:∀(j:Nat) t v,Tryz.f6.params[j]?=some t->args[j]?=some v->Value.okWide Tryz.prog W .any base t v:=hval0
 have hW':=hW
 obtain⟨p,q,hA0,hV,rfl,hfz,hnd⟩:=hW
 have hA:DataW.TrodAll di Tryz.prog W 0 (λ _=>true) true Tryz.f6.params.toList args.toList ds p:=hA0
 rw[Tryz.params6] at hA hval
 obtain⟨v0,vs0,d0,ds0,p0,q0,hargs,rfl,rfl,h0,r0⟩:=trodAll_cons hA
 obtain⟨rfl,rfl,rfl⟩:=trodAll_nil r0
 obtain rfl:args=#[v0]:=by cases args;simp_all
 obtain⟨_,_,_,_,dv,_,rfl,_,_,_,_,_⟩:=trodVars_one hV
 obtain⟨a0,rfl,rfl,rfl,w0⟩:=open_string Tryz.underlying9 (hval 0 9 v0 rfl rfl) h0
 clear hA0 hval0
 obtain⟨M,last,o,w',t',g1,g2,g3,v,e,⟨hv,bel,hos⟩,g4⟩:=run a0 W hL hSh
 refine⟨M,last,o,w',t',g1,g2,g3,v,e,⟨?_,hos⟩,g4⟩
 subst hv
 exact⟨_,_,_,[],_,_,hW',trodAll_mk1 (shut_bool Tryz.underlying4 _),trodAll_mk1 (shut_string Tryz.underlying9 w0),Below.trodVars laidOut bel (by kernel_rfl) hV,bel.frame _,λ h=>by cases h⟩
theorem o1:Tryz.pinned.checked.prog.funcNamed Rows.fnExactExecuteRow.func=some 6:=by kernel_rfl
theorem o2:joinedFacts Tryz.pinned.checked.prog 6 Tryz.f6 Rows.fnExactExecuteSpec Rows.fnExactExecuteRow=true:=by kernel_rfl
theorem o3:Tryz.f6.isInstance Tryz.pinned.checked.prog Rows.fnExactExecuteRow.origin Rows.fnExactExecuteRow.targs:=of_decide_eq_true (by kernel_rfl)
theorem o4:Tryz.f6.isWrapper Tryz.pinned.checked.prog Rows.fnExactExecuteRow.wrapper Rows.fnExactExecuteRow.mainSum:=by unfold Func.isWrapper;first|(rw[if_pos (by decide +kernel)];kernel_rfl)|(rw[if_neg (by decide +kernel)];exact⟨rfl,rfl⟩)
theorem over:Rows.fnExactExecuteRow.holds Tryz.pinned (OpenSpec.ofChange Rows.fnExactExecuteSpec):=
 OpenClaim.holds_of_wide_leaving_time 6 Tryz.f6 rfl rfl rfl rfl rfl rfl rfl ⟨rfl,rfl,rfl,rfl,rfl⟩ rfl rfl rfl rfl rfl o1 Tryz.func6 o2 o3 o4 (λ os started H di _ F=>lifted os started H di F)
theorem proved:Rows.FnExactExecuteCardSaid:=
 N5 .later [.data,.data,.data,.data,.sentinel,.pinned] true (true, "c7af55d81570eed3e07bb0829f69d63e18c89bcdeb8e9c3454901677e2efa962") true
  over (by kernel_rfl) fnExactExecute_row_tie rfl ⟨rfl,rfl⟩ (by kernel_rfl) rfl
  (λ f fn hf hfn=>by
   obtain rfl:f=6:=Option.some.inj ((show Tryz.prog.funcNamed Rows.fnExactExecuteRow.func=some 6 by kernel_rfl).symm.trans hf) |>.symm
   obtain rfl:fn=Tryz.f6:=(Option.some.inj (Tryz.func6.symm.trans hfn)).symm
   exact⟨by kernel_rfl,λ j t ht=>by
    rw[Tryz.params6] at ht
    have hm:t∈[9]:=by simpa using Array.mem_of_getElem? ht
    have hall:([9].all λ u=>!Tryz.prog.wantsStandIn u)=true:=by kernel_rfl
    exact(show Tryz.prog.wantsStandIn t=false by simpa using List.all_eq_true.1 hall t hm)⟩)
  (by kernel_rfl)
#print axioms proved
end Go.Proofs.YtelohkknmgaacaaGreatDoor.fnExactExecute
