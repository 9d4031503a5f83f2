/-
  The law FnScript returns true for every input, and leaves what came in as it was. On every schedule it returns, without a data race; the others only leave. Of the row's conditions on the listed variables, which the card ties to the program's text, the one on the table of powers of ten is used.
-/
import Derived.Test.YtelohkknmgaacaaGreatDoorRows
import Derived.Test.YtelohkknmgaacaaGreatDoorZ12
import Derived.WalkKit
import Derived.ProofKit
import Derived.OpenShut
import Derived.ShutString
import Derived.ChangeOld
import Derived.Below
import Derived.Lay
import Derived.Test.YtelohkknmgaacaaGreatDoorCards
import Derived.Test.YtelohkknmgaacaaGreatDoorTie
set_option linter.unusedSimpArgs false
set_option linter.unusedVariables false
set_option linter.unusedSectionVars false
set_option linter.defProp false
namespace Go.Proofs.YtelohkknmgaacaaGreatDoor.fnScript
open Go.ChangeShapes Go.WideShapes Go.ChangeAt Go.RowKit
open Go.Conc Go.ConcM
theorem own:ownKnob Tryz.prog.godebug=none:=by kernel_rfl
theorem laidOut:laidOutB Tryz.prog=true:=by kernel_rfl
def IsRow(k:IntKind)(w:World)(a:Option Addr)(len cap:Nat)(zs:List Int):Prop:=
 (a=none/\len=0/\cap=0/\zs=[])\/
 ∃x,a=some x/\len<=cap/\cap<=maxLen/\zs.length=cap/\(∀i,i<zs.length->w.cell? (x.add i)=some (.int k (zs.getD i 0)))/\∀n∈zs,(Lit.int k n).wf=true
def laidL:List (String×DataW Unit):=Rows.fnScriptRow.laid
theorem door_met(os:Os)(args:Array Value):laidMetH Tryz.prog laidL ((World.laidAll Tryz.prog os laidL).forCall (λ _ _=>0) ⟨#[],args,[]⟩).memory:=by
 have e:(laidL.filter λ x=>x.2.handleName?.isSome)=[]:=by kernel_rfl
 unfold laidMetH
 rw[e]
 exact laidMet_laidAll args (by kernel_rfl) (by kernel_rfl)
abbrev RowIn(W:World)(a:Option Addr):Prop:=∀x,a=some x->x.spot=none/\∃c e f,W.heap[x.block]?=some (.cells c e f)
theorem run(a0:Option Addr)(len0 cap0:Nat)(z0:List Int)(W:World)(w0:IsRow .u8 W a0 len0 cap0 z0)(r0:RowIn W a0)(hL:laidMetH Tryz.prog laidL W)(hS:W.ShapedOpen Tryz.prog):
  ∃M last o w' t',runNT Tryz.prog (M+1) (solo (G (Frame.enter Tryz.prog 7 #[.slice a0 len0 cap0] .normal) []) W) #[]=(.ended o w',t')/\runN Tryz.prog M (solo (G (Frame.enter Tryz.prog 7 #[.slice a0 len0 cap0] .normal) []) W)=.next last/\step Tryz.prog last=.ended o w'/\
   Conc.Good Tryz.prog (λ v W'=>v=.bool true/\Below W.heap.size W { W' with os:=W.os,tape:=W.tape }/\OsLater W.os W'.os) last o w' t':=by
 obtain⟨L0,l0,m0⟩:=zmL w0 r0
 obtain⟨v0,e0,c0⟩:=m0 eG []
 rw[List.append_nil] at e0 c0
 exact Rn.znJ Rn.pg Rn.gp Rn.zbW wR (f:=7) ⟨_,Rn.fM Tryz.func7,by kernel_rfl⟩ (av1 e0) (λ x hx=>(List.mem_append.1 hx).elim (znd hS (zrR rfl hL) x) (l0 x)) (zuE L0) λ hr=>zhg Rn.pg zx6 _ _ c0 (zuF W L0) hr
set_option maxRecDepth 100000 in
theorem lifted(os:Os)(started:os.Started)(H:Type)(di:TypeId×Value->H)(F:Stop.Interp):
  ReturnsInLeavingWide Rows.fnScriptRow.assume Tryz.checked os 7 .any (λ w args=>(Rows.fnScriptSpec.pre di Tryz.prog Tryz.f7 [] false w args/\laidMetH Tryz.prog laidL w)/\sizedMet di Tryz.prog Tryz.f7 (OpenSpec.ofChange Rows.fnScriptSpec) false w args) ((OpenSpec.ofChange Rows.fnScriptSpec).postWith di Tryz.prog Tryz.f7 F (outsideKept [.timePasses]) false true false):=by
 refine Cc (l:=Tryz.checked) (X:=λ w _=>laidMetH Tryz.prog laidL w) (λ _ _ _ hh h=>h.of_heap hh) own started Tryz.func7
  (YC (di:=di) (c:=Tryz.checked) (l:=os) (X:=λ w _=>laidMetH Tryz.prog laidL w) (World.laidAll Tryz.prog os laidL) #[.slice none 0 0] 8 (World.laidAll_os _ _ _) (World.shaped_of_ZipB (by kernel_rfl) (by kernel_rfl)) (by kernel_rfl) (by kernel_rfl) (by kernel_rfl) (door_met os _)) ?_
 intro W base args ds gs before hval0 hW hL hSh
 have hval:∀(j:Nat) t v,Tryz.f7.params[j]?=some t->args[j]?=some v->Value.okWide Tryz.prog W .any base t v:=hval0
 have hW':=hW
 obtain⟨p,q,hA0,hV,rfl,hfz,hnd⟩:=hW
 have hA:DataW.TrodAll di Tryz.prog W 0 (λ _=>true) true Tryz.f7.params.toList args.toList ds p:=hA0
 rw[Tryz.params7] at hA hval
 obtain⟨v0,vs0,d0,ds0,p0,q0,hargs,rfl,rfl,h0,r0⟩:=trodAll_cons hA
 obtain⟨rfl,rfl,rfl⟩:=trodAll_nil r0
 obtain rfl:args=#[v0]:=by cases args;simp_all
 obtain⟨_,_,_,_,dv,_,rfl,_,_,_,_,_⟩:=trodVars_one hV
 obtain⟨a0,len0,cap0,rfl⟩:=okWide_slice Tryz.underlying22 (hval 0 22 v0 rfl rfl)
 have k0:=h0
 have lt0:∀x∈p0,x.block<W.heap.size:=by obtain⟨m,hm⟩:=k0;exact DataW.trod_lt m _ _ _ hm
 obtain⟨z0,w0⟩:∃zs,IsRow .u8 W a0 len0 cap0 zs:=by
  obtain⟨fuel,hf⟩:=h0
  rcases open_ints Tryz.underlying22 Tryz.underlying5 (by kernel_rfl) hf with⟨hcs,_⟩|⟨x,l,c,zs,hcs,_,hl,hm,hz,_,hcell,hwz⟩
  ·simp[Value.cells] at hcs
   obtain⟨rfl,rfl,rfl⟩:=hcs
   exact⟨[],.inl ⟨rfl,rfl,rfl,rfl⟩⟩
  ·simp[Value.cells] at hcs
   obtain⟨rfl,rfl,rfl⟩:=hcs
   exact⟨zs,.inr ⟨_,rfl,hl,hm,by simpa using hz,hcell,hwz⟩⟩
 have r0:RowIn W a0:=λ x e=>znt Tryz.underlying22 (e▸hval 0 22 _ rfl rfl)
 clear hA0 hval0
 obtain⟨M,last,o,w',t',g1,g2,g3,v,e,⟨hv,bel,hos⟩,g4⟩:=run a0 len0 cap0 z0 W w0 r0 hL hSh
 refine⟨M,last,o,w',t',g1,g2,g3,v,e,⟨?_,hos⟩,g4⟩
 subst hv
 exact⟨_,_,_,[],_,_,hW',trodAll_mk1 (shut_bool Tryz.underlying4 _),(trodAll_cons_mk (Below.trod laidOut (by kernel_rfl) (of_decide_eq_true (by kernel_rfl)) k0 bel lt0) trodAll_mk0),Below.trodVars laidOut bel (by kernel_rfl) hV,bel.frame _,λ h=>by cases h⟩
theorem o1:Tryz.pinned.checked.prog.funcNamed Rows.fnScriptRow.func=some 7:=by kernel_rfl
theorem o2:joinedFacts Tryz.pinned.checked.prog 7 Tryz.f7 Rows.fnScriptSpec Rows.fnScriptRow=true:=by kernel_rfl
theorem o3:Tryz.f7.isInstance Tryz.pinned.checked.prog Rows.fnScriptRow.origin Rows.fnScriptRow.targs:=of_decide_eq_true (by kernel_rfl)
theorem o4:Tryz.f7.isWrapper Tryz.pinned.checked.prog Rows.fnScriptRow.wrapper Rows.fnScriptRow.mainSum:=by unfold Func.isWrapper;first|(rw[if_pos (by decide +kernel)];kernel_rfl)|(rw[if_neg (by decide +kernel)];exact⟨rfl,rfl⟩)
theorem over:Rows.fnScriptRow.holds Tryz.pinned (OpenSpec.ofChange Rows.fnScriptSpec):=
 OpenClaim.holds_of_wide_leaving_time 7 Tryz.f7 rfl rfl rfl rfl rfl rfl rfl ⟨rfl,rfl,rfl,rfl,rfl⟩ rfl rfl rfl rfl rfl o1 Tryz.func7 o2 o3 o4 (λ os started H di _ F=>lifted os started H di F)
theorem proved:Rows.FnScriptCardSaid:=
 N5 .later [.data,.data,.data,.data,.sentinel,.pinned] true (true, "c7af55d81570eed3e07bb0829f69d63e18c89bcdeb8e9c3454901677e2efa962") true
  over (by kernel_rfl) fnScript_row_tie rfl ⟨rfl,rfl⟩ (by kernel_rfl) rfl
  (λ f fn hf hfn=>by
   obtain rfl:f=7:=Option.some.inj ((show Tryz.prog.funcNamed Rows.fnScriptRow.func=some 7 by kernel_rfl).symm.trans hf) |>.symm
   obtain rfl:fn=Tryz.f7:=(Option.some.inj (Tryz.func7.symm.trans hfn)).symm
   exact⟨by kernel_rfl,λ j t ht=>by
    rw[Tryz.params7] at ht
    have hm:t∈[22]:=by simpa using Array.mem_of_getElem? ht
    have hall:([22].all λ u=>!Tryz.prog.wantsStandIn u)=true:=by kernel_rfl
    exact(show Tryz.prog.wantsStandIn t=false by simpa using List.all_eq_true.1 hall t hm)⟩)
  (by kernel_rfl)
#print axioms proved
end Go.Proofs.YtelohkknmgaacaaGreatDoor.fnScript
