/-
  The law FnChannel returns true for every input, and leaves what came in as it was. On every schedule it returns, without a data race; the others only leave. The row's condition on the listed variable, which the card ties to the program's text, is not used.
-/
import Derived.Test.YtdpfknhenjngcaaGreatDoorRows
import Derived.Test.YtdpfknhenjngcaaGreatDoorZ13Bc
import Derived.WalkKit
import Derived.ProofKit
import Derived.OpenShut
import Derived.ShutString
import Derived.ChangeOld
import Derived.Below
import Derived.Test.YtdpfknhenjngcaaGreatDoorCards
import Derived.Test.YtdpfknhenjngcaaGreatDoorTie
set_option linter.unusedSimpArgs false
set_option linter.unusedVariables false
set_option linter.unusedSectionVars false
namespace Go.Proofs.YtdpfknhenjngcaaGreatDoor.fnChannel
open Go.ChangeShapes Go.WideShapes Go.ChangeAt Go.RowKit
open Go.Conc Go.ConcM
theorem own:ownKnob Tryz.prog.godebug=none:=by kernel_rfl
theorem laidOut:laidOutB Tryz.prog=true:=by kernel_rfl
def IsRow(k:IntKind)(w:World)(a:Option Addr)(len cap:Nat)(zs:List Int):Prop:=
 (a=none/\len=0/\cap=0/\zs=[])\/
 ∃x,a=some x/\len<=cap/\cap<=maxLen/\zs.length=cap/\(∀i,i<zs.length->w.cell? (x.add i)=some (.int k (zs.getD i 0)))/\∀n∈zs,(Lit.int k n).wf=true
abbrev RowIn(W:World)(a:Option Addr):Prop:=∀x,a=some x->x.spot=none/\∃c e f,W.heap[x.block]?=some (.cells c e f)
theorem run(a0:Option Addr)(len0 cap0:Nat)(z0:List Int)(a1:Option Addr)(len1 cap1:Nat)(z1:List Int)(W:World)(w0:IsRow .u8 W a0 len0 cap0 z0)(w1:IsRow .u8 W a1 len1 cap1 z1)(r0:RowIn W a0)(r1:RowIn W a1):
  ∃M last o w' t',runNT Tryz.prog (M+1) (solo (G (Frame.enter Tryz.prog 8 #[.slice a0 len0 cap0,.slice a1 len1 cap1] .normal) []) W) #[]=(.ended o w',t')/\runN Tryz.prog M (solo (G (Frame.enter Tryz.prog 8 #[.slice a0 len0 cap0,.slice a1 len1 cap1] .normal) []) W)=.next last/\step Tryz.prog last=.ended o w'/\
   Conc.Good Tryz.prog (λ v W'=>v=.bool true/\Below W.heap.size W { W' with os:=W.os,tape:=W.tape }/\OsLater W.os W'.os) last o w' t':=by
 obtain⟨L0,l0,m0⟩:=zmN w0 r0
 obtain⟨L1,l1,m1⟩:=zmN w1 r1
 obtain⟨v0,e0,c0⟩:=m0 [] L1
 obtain⟨v1,e1,c1⟩:=m1 L0 []
 rw[List.nil_append] at e0 c0
 rw[List.append_nil] at e1 c1
 exact Rn.znu Rn.pg Rn.gp Rn.za5 AI (f:=8) ⟨_,Rn.fM Tryz.func8,by kernel_rfl⟩ (av2 e0 e1) (λ x hx=>(List.mem_append.1 hx).elim (l0 x) (l1 x)) λ hr=>zGo zyO _ _ _ c0 c1 hr
def laidL:List (String×DataW Unit):=Rows.fnChannelRow.laid
theorem door_met(os:Os)(args:Array Value):laidMetH Tryz.prog laidL ((World.doorLaid Tryz.prog 30 os).forCall (λ _ _=>0) ⟨#[],args,[]⟩).memory:=
 laidMetH_of_parts3 (fuel:=8) (laidMet_of_run' 8 (by kernel_rfl) (by kernel_rfl)) (by kernel_rfl) (by kernel_rfl)
set_option maxRecDepth 100000 in
theorem lifted(os:Os)(started:os.Started)(H:Type)(enc:TypeId×Value->H)(F:Stop.Interp):
  ReturnsInLeavingWide Rows.fnChannelRow.assume Tryz.checked os 8 .any (λ w args=>(Rows.fnChannelSpec.pre enc Tryz.prog Tryz.f8 [] false w args/\laidMetH Tryz.prog laidL w)/\sizedMet enc Tryz.prog Tryz.f8 (OpenSpec.ofChange Rows.fnChannelSpec) false w args) ((OpenSpec.ofChange Rows.fnChannelSpec).postWith enc Tryz.prog Tryz.f8 F (outsideKept [.timePasses]) false true false):=by
 refine Cp (C:=Tryz.checked) (X:=λ w _=>laidMetH Tryz.prog laidL w) (λ _ _ _ hh h=>h.of_heap hh) own started Tryz.func8
  (X2 (enc:=enc) (C:=Tryz.checked) (os:=os) (X:=λ w _=>laidMetH Tryz.prog laidL w) (World.doorLaid Tryz.prog 30 os) #[.slice none 0 0,.slice none 0 0] 8 rfl (World.shaped_of_RefB (by kernel_rfl) (by kernel_rfl)) (by kernel_rfl) (by kernel_rfl) (by kernel_rfl) (door_met os _)) ?_
 intro W base args ds gs before hval0 hW hL
 have hval:∀(j:Nat) t v,Tryz.f8.params[j]?=some t->args[j]?=some v->Value.okWide Tryz.prog W .any base t v:=hval0
 have hW':=hW
 obtain⟨p,q,hA0,hV,rfl,hfz,hnd⟩:=hW
 have hA:DataW.TrodAll enc Tryz.prog W 0 (λ _=>true) true Tryz.f8.params.toList args.toList ds p:=hA0
 rw[Tryz.params8] at hA hval
 obtain⟨v0,vs0,d0,ds0,p0,q0,hargs,rfl,rfl,h0,r0⟩:=trodAll_cons hA
 obtain⟨v1,vs1,d1,ds1,p1,q1,rfl,rfl,rfl,h1,r1⟩:=trodAll_cons r0
 obtain⟨rfl,rfl,rfl⟩:=trodAll_nil r1
 obtain rfl:args=#[v0,v1]:=by cases args;simp_all
 obtain⟨_,_,_,_,dv,_,rfl,_,_,_,_,_⟩:=trodVars_one hV
 obtain⟨a0,len0,cap0,rfl⟩:=okWide_slice Tryz.underlying22 (hval 0 22 v0 rfl rfl)
 have k0:=h0
 have lt0:∀x∈p0,x.block<W.heap.size:=by obtain⟨m,hm⟩:=k0;exact DataW.trod_lt m _ _ _ hm
 obtain⟨z0,w0⟩:∃zs,IsRow .u8 W a0 len0 cap0 zs:=by
  obtain⟨fuel,hf⟩:=h0
  rcases open_ints Tryz.underlying22 Tryz.underlying5 (by kernel_rfl) hf with⟨hcs,_⟩|⟨x,l,c,zs,hcs,_,hl,hm,hz,_,hcell,hwz⟩
  ·simp[Value.cells] at hcs
   obtain⟨rfl,rfl,rfl⟩:=hcs
   exact⟨[],.inl ⟨rfl,rfl,rfl,rfl⟩⟩
  ·simp[Value.cells] at hcs
   obtain⟨rfl,rfl,rfl⟩:=hcs
   exact⟨zs,.inr ⟨_,rfl,hl,hm,by simpa using hz,hcell,hwz⟩⟩
 obtain⟨a1,len1,cap1,rfl⟩:=okWide_slice Tryz.underlying22 (hval 1 22 v1 rfl rfl)
 have k1:=h1
 have lt1:∀x∈p1,x.block<W.heap.size:=by obtain⟨m,hm⟩:=k1;exact DataW.trod_lt m _ _ _ hm
 obtain⟨z1,w1⟩:∃zs,IsRow .u8 W a1 len1 cap1 zs:=by
  obtain⟨fuel,hf⟩:=h1
  rcases open_ints Tryz.underlying22 Tryz.underlying5 (by kernel_rfl) hf with⟨hcs,_⟩|⟨x,l,c,zs,hcs,_,hl,hm,hz,_,hcell,hwz⟩
  ·simp[Value.cells] at hcs
   obtain⟨rfl,rfl,rfl⟩:=hcs
   exact⟨[],.inl ⟨rfl,rfl,rfl,rfl⟩⟩
  ·simp[Value.cells] at hcs
   obtain⟨rfl,rfl,rfl⟩:=hcs
   exact⟨zs,.inr ⟨_,rfl,hl,hm,by simpa using hz,hcell,hwz⟩⟩
 have r0:RowIn W a0:=λ x e=>znh Tryz.underlying22 (e▸hval 0 22 _ rfl rfl)
 have r1:RowIn W a1:=λ x e=>znh Tryz.underlying22 (e▸hval 1 22 _ rfl rfl)
 clear hA0 hval0
 obtain⟨M,last,o,w',t',g1,g2,g3,v,e,⟨hv,bel,hos⟩,g4⟩:=run a0 len0 cap0 z0 a1 len1 cap1 z1 W w0 w1 r0 r1
 refine⟨M,last,o,w',t',g1,g2,g3,v,e,⟨?_,hos⟩,g4⟩
 subst hv
 exact⟨_,_,_,[],_,_,hW',trodAll_mk1 (shut_bool Tryz.underlying4 _),(trodAll_cons_mk (Below.trod laidOut (by kernel_rfl) (of_decide_eq_true (by kernel_rfl)) k0 bel lt0) (trodAll_cons_mk (Below.trod laidOut (by kernel_rfl) (of_decide_eq_true (by kernel_rfl)) k1 bel lt1) trodAll_mk0)),Below.trodVars laidOut bel (by kernel_rfl) hV,bel.frame _,λ h=>by cases h⟩
theorem o1:Tryz.pinned.checked.prog.funcNamed Rows.fnChannelRow.func=some 8:=by kernel_rfl
theorem o2:joinedFacts Tryz.pinned.checked.prog 8 Tryz.f8 Rows.fnChannelSpec Rows.fnChannelRow=true:=by kernel_rfl
theorem o3:Tryz.f8.isInstance Tryz.pinned.checked.prog Rows.fnChannelRow.origin Rows.fnChannelRow.targs:=of_decide_eq_true (by kernel_rfl)
theorem o4:Tryz.f8.isWrapper Tryz.pinned.checked.prog Rows.fnChannelRow.wrapper Rows.fnChannelRow.mainSum:=by unfold Func.isWrapper;first|(rw[if_pos (by decide +kernel)];kernel_rfl)|(rw[if_neg (by decide +kernel)];exact⟨rfl,rfl⟩)
theorem over:Rows.fnChannelRow.holds Tryz.pinned (OpenSpec.ofChange Rows.fnChannelSpec):=
 OpenClaim.holds_of_wide_leaving_time 8 Tryz.f8 rfl rfl rfl rfl rfl rfl rfl ⟨rfl,rfl,rfl,rfl,rfl⟩ rfl rfl rfl rfl rfl o1 Tryz.func8 o2 o3 o4 (λ os started H enc _ F=>lifted os started H enc F)
theorem proved:Rows.FnChannelCardSaid:=
 Ou .later [.sentinel] true (true, "c6c82b1ac7112bf3386a7f27fb25917ed316a4177ca5dd2bd340ace58037e13c") true
  over (by kernel_rfl) fnChannel_row_tie rfl ⟨rfl,rfl⟩ (by kernel_rfl) rfl
  (λ f fn hf hfn=>by
   obtain rfl:f=8:=Option.some.inj ((show Tryz.prog.funcNamed Rows.fnChannelRow.func=some 8 by kernel_rfl).symm.trans hf) |>.symm
   obtain rfl:fn=Tryz.f8:=(Option.some.inj (Tryz.func8.symm.trans hfn)).symm
   exact⟨by kernel_rfl,λ j t ht=>by
    rw[Tryz.params8] at ht
    have hm:t∈[22,22]:=by simpa using Array.mem_of_getElem? ht
    have hall:([22,22].all λ u=>!Tryz.prog.wantsStandIn u)=true:=by kernel_rfl
    exact(show Tryz.prog.wantsStandIn t=false by simpa using List.all_eq_true.1 hall t hm)⟩)
  (by kernel_rfl)
#print axioms proved
end Go.Proofs.YtdpfknhenjngcaaGreatDoor.fnChannel
