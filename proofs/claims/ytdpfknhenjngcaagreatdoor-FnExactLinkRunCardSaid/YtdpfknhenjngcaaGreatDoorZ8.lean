/-
  The company of the starter and its workers (part 8). No condition.
-/
import Derived.Test.YtdpfknhenjngcaaGreatDoorZ7
set_option linter.unusedSimpArgs false
set_option linter.unusedVariables false
set_option linter.unusedSectionVars false
set_option maxRecDepth 100000
set_option maxHeartbeats 16000000
open Array renaming append_empty→iJ,getElem?_eq_some_iff→ah,getElem?_setIfInBounds_ne→bt,getElem?_setIfInBounds→bC,getElem?_push→bJ,mem_iff_getElem?→dX,ext'→fj,toList_append→dw,toList_extract→cD,getElem?_append→kl,getElem?_extract→qm
open Go renaming Goroutine→aI,Event→bT,deafBehind→cG,World→ai,Frame→aB,Trace→pk,Value→aj,Program→aG,Frame.enter→aU,Addr→cr
open Go.Conc renaming ofEvents_none→rH,Deaf_other→nC,runT_crowd_go→jN,Good→tq
open Go.ConcM renaming EvStop→mM
open Go.ConcN renaming upd_same→mn,upd_ne→yS
open Go.Frame renaming eval_at→DW
open Go.MemAct renaming ofEvent→aP
open Go.MemOp renaming ofEvents→cW
open Go.Proofs.Tryz renaming prog→an
open List renaming mem_toArray→db,mem_cons→bF,not_mem_nil→cf,extract_eq_take_drop→bI,drop_zero→fL,take_of_length_le→bq,take_append_drop→dH
open Nat renaming le_of_eq→dh,le_refl→aA,le_trans→bD,lt_of_lt_of_le→aY,mul_le_mul_right→br,sub_zero→jH,zero_le→bw
open Option.some renaming injEq→aF
open Bool renaming true→ae,false→aa
open Option renaming some→ab,none→ak
namespace Go.Proofs.YtdpfknhenjngcaaGreatDoor
namespace Rn
open Go Go.Conc Go.ConcM
open Go.ConcN (sumTo upd upd_same upd_ne sumTo_congr WD Deaf_still Vc cnt Vc_upd Vc_le others_uncounted pend OpenSt AllQuit)
open Go.ConcR (KK WgAt stA wr mk)
section
variable{ph:Ph}{F:Nat->(Nat->Prop)->(Nat->Prop)->ai->Prop}{cF:aB}{csF:List aB}{W0:ai}{dead:Nat->Prop}{n1:Nat}{R0:BR}{wg:ai}{gr:Nat->Nat}
variable{x:Nm}{rc:Rk}{bm:Bool}{j:Nat}{Z:Nat->lj}{q:Nat->Nat}{gs:Array aI}{w w':ai}{t:pk}{sl:Option (Nat×Nat)}
theorem nP{r1:Rk}{μ:Ms}{i:Nat}(h:∃m' ops gs' yA Z' q',runT an (crowd gs w sl) i=(.next m',ops)/\m'=crowd gs' w' sl/\gs'.size=gs.size/\RI ph F cF csF W0 dead n1 R0 wg gr x rc yA j Z' q' gs' w' (t++ops)/\Ms.lt (As r1 rc Z' (Jw gs' q' yA Z')) μ):
  Wi ph F cF csF W0 dead n1 R0 wg gr x rc j r1 μ gs w sl t i:=by
 obtain⟨m',ops,gs',yA,Z',q',h⟩:=h
 exact⟨m',ops,gs',w',yA,Z',q',h⟩
theorem y4{s:Nat}{ex:Nat->Prop}{g g':aI}{es:Array bT}(h:MV an ex g w g' w' es){St:Nat->Prop}(hS:∀b,St b->¬ex b)(hm:VX ph w->VX ph w')(hg:V0 ph w->V0 ph w')(hb:¬ex ph.Bo):gY ph s St w w':=
 ⟨dh h.size.symm,λ b hb=>h.blk b (hS b hb),hm,hg,λ cs hc=>⟨cs,⟨(h.blk _ hb).trans hc.1,hc.2⟩,rfl⟩⟩
theorem A3{WS:Nat->Prop}(h:w'.heap.size=w.heap.size)(b:Nat):WS b↔WS b\/(w.heap.size<=b/\b<w'.heap.size/\¬ph.sh b):=⟨.inl,λ k=>k.elim id λ z=>by omega⟩
theorem yX{T T':Th}{es:Array bT}(h:mM ph.Mu ph.Wg T T' es)(h1:T.pc≠.la)(h2:T.pc≠.ur)(h3:T.pc≠.wr)(h4:T.pc≠.aq):(∀e∈es,Bk2 ph.Mu ph.Wg e)/\cG T.deaf es=(if T'.pc=.quit then 1 else T'.deaf)/\∀j e,es[j]?=ab e->(aP e).touch?=ak\/0<cG T.deaf (es.extract 0 j):=by
 unfold mM at h
 split at h<;>first|contradiction|exact h
theorem zr6{q:Sh}(h1:q.wg=KKi)(h2:q.ws=0):q=⟨q.mu,q.ms,KKi,0⟩:=by
 obtain⟨a,b,c,d⟩:=q
 simp only at h1 h2
 rw[h1,h2]
theorem RI.workerStep(Dy:∀s WS RS w aJ,s<2->gY ph s (λ b=>WS b\/RS b) w aJ->F s WS RS w->F s WS RS aJ)(h:RI ph F cF csF W0 dead n1 R0 wg gr x rc bm j Z q gs w t)(r1:Rk){s:Nat}(hs:s<j){y:Nw}{r:Rk}{bl:Bool}(hz:Z s=.live y r bl)
  {g:aI} (VS:gs[gr s]?=ab g) (eB:g.status=.running):Wi ph F cF csF W0 dead n1 R0 wg gr x rc j r1 (As r1 rc Z (Jw gs q bm Z)) gs w sl t (gr s):=by
 have hj2:=E4 h.jT
 have Jv:s<2:=by omega
 cases bl with
 |true=>
  have hg:=(h.wk s y r ae hs hz).1
  rw[hg] at VS
  cases VS
  cases eB
 |false=>
 obtain⟨hg,hyo,hyb,hyd,hyk,hyp⟩:=h.wk s y r aa hs hz
 have hT:x.T≠.st:=λ e=>by
  have:=h.jT
  rw[e] at this
  simp only[jOk] at this
  omega
 obtain⟨mu,ms,st,sm,ρ,jF,ES⟩:=h.sy hT
 have Gq:∀s' y' r',s'<j->s'≠s->Z s'=.live y' r' ae->wy y'.T.pc=ae/\mv (s' == 0) y'.T ⟨mu,ms,KKi,0⟩=[]:=λ s' y' r' h1 _ h3=>ES.hl s' y' r' h1 h3
 have hwf:∀b,y.WS b->n1<=b/\b<w.heap.size/\¬ph.sh b:=λ b hb=>h.mem.wf s b (by rw[hz];exact hb)
 have hrf:∀b,y.RS b->b<w.heap.size/\¬ph.sh b:=λ b hb=>by
  obtain⟨a1,a2,_⟩:=h.mem.rf s b (by rw[hz];exact hb)
  exact⟨a1,a2⟩
 have DC:∀b,ph.sh b->¬y.WS b:=λ b h1 h2=>(hwf b h2).2.2 h1
 have u9:=h.mem.u9
 have hSt:∀b,y.WS b\/y.RS b->¬ph.sh b:=λ b hb=>hb.elim (λ h=>(hwf b h).2.2) λ h=>(hrf b h).2
 have law:=(yU hyb).2 w (gY.refl _ _)
 have hzt:(Z s).jV (s == 0)=if wy y.T.pc then y.T else Wv (s == 0):=by rw[hz];rfl
 have hzc:DZ Z s=⟨(lj.live y r aa).stage,0,0⟩:=by simp only[DZ,hz]
 cases law with
 |deep hk=>exact absurd hk hyk
 |AM ot g' w' es acts pL hn hm hB=>
  obtain⟨r',cj,hB⟩:=hB
  have Dz:MuAt ph.tM ph.Mu w' mu ms:=(pL.blk _ (h.sz hT _ (.inl rfl)) (DC _ (.inl rfl)) u9.mb).trans jF.mA
  have vm:WgAt ph.tW ph.Wg w' st sm:=(pL.blk _ (h.sz hT _ (.inr (.inl rfl))) (DC _ (.inr (.inl rfl))) u9.wb).trans jF.gA
  refine nP (w':=w') (h.worker Dy r1 hs hz pL.mv (OH pL (by omega) u9 DC) (z':=.live ⟨y.T,y.k,ot,y.RS,g',w'⟩ r' aa) (λ e=>by cases e) rfl pL.ws (λ y' UB bl e=>?_) (λ A B e=>by cases e) pL.ev pL.acts (λ hmt=>?_) aa (λ e=>by cases e)
   ⟨mu,ms,st,sm,ρ,vC Jv jF Dz vm ?_ ?_ (λ y' UB bl e hp=>?_),.inr ⟨ES.hm,Gq⟩⟩ (GR hs ?_))
  ·cases e
   exact⟨rfl,cj,hB,rfl,hyk,xE hn _,hyp⟩
  ·obtain⟨rfl,rfl,rfl,rfl⟩:=hm hmt
   have:=h.rel s hs (by rw[hz];exact hmt)
   rw[hz] at this
   have e0:opsOf (gr s) y.g #[] []=#[]:=by simp[opsOf,rH]
   rw[e0,iJ]
   exact this
  ·rw[hz];rfl
  ·have:(upd (DZ Z) s (⟨(lj.live ⟨y.T,y.k,ot,y.RS,g',w'⟩ r' aa).stage,0,0⟩:WD))=DZ Z:=by
    funext i
    by_cases e:i=s
    ·subst e;rw[mn,hzc];rfl
    ·rw[yS _ _ e]
   rw[this];exact jF.md
  ·cases e
   exact jF.kk s y r aa hs hz hp
  ·rw[hzc];exact aA _
 |mu hp ho yG=>
  have fct:=jF.tb.facts
  have hmt:(Z s).jV (s == 0)=y.T:=by rw[hzt,if_pos hp]
  have hth:(⟨(Z 0).jV ae,(Z 1).jV aa,⟨mu,ms,KKi,0⟩⟩:GS).th (s == 0)=y.T:=(zpf Jv).trans hmt
  have hlw:=yG ⟨mu,ms,KKi,0⟩ jF.mA fct.fits
  by_cases hmv:mv (s == 0) y.T ⟨mu,ms,KKi,0⟩=[]
  ·exact h.block r1 hs hz ho (hlw.1 hmv) ⟨mu,ms,st,sm,ρ,jF,ES,hp,hmv⟩
  ·obtain⟨r0,hr0,AK⟩:=hlw.2 hmv
   have zzm:((⟨(Z 0).jV ae,(Z 1).jV aa,⟨mu,ms,KKi,0⟩⟩:GS)).a.pc≠.ret:=by
    show ((Z 0).jV ae).pc≠.ret
    cases AL:Z 0 with
    |no=>simp[lj.jV]
    |gone A B=>simp[lj.jV]
    |live y0 r00 b0=>
     rw[Bd]
     split
     ·rename_i hp0
      intro e
      rw[e] at hp0
      cases hp0
     ·simp[Wv]
   have yH:=GS.put_mem (⟨(Z 0).jV ae,(Z 1).jV aa,⟨mu,ms,KKi,0⟩⟩:GS) (s == 0) (r:=r0) (by rw[hth];exact hr0) zzm
   obtain⟨ρ',hρ,AI⟩:=jF.tb.succ yH
   have zuw:r0.1.pc≠.bad:=by
    have:=AI.facts.nobad (s == 0)
    rwa [GS.th_put_same] at this
   obtain⟨g',w',es,dz,zuE,sD,hus,r',cj,hB⟩:=AK zuw
   obtain⟨hw1,hw2⟩:=zvS hp hr0
   have zuF:r0.2=⟨r0.2.mu,r0.2.ms,KKi,0⟩:=zr6 hw1 hw2
   have hρk:=jF.kk s y r aa hs hz hp
   have vm:WgAt ph.tW ph.Wg w' st sm:=(dz.blk _ λ e=>u9.mw e.symm).trans jF.gA
   have EZ:EfR ph y.WS s w w':=s8 (ex:=λ b=>b=ph.Mu) dz.blk dz.size dz.os dz.output (λ b e=>.inl e) (λ e=>u9.mb e.symm) (λ _=>⟨_,_,zuE⟩) (λ _=>⟨_,_,vm⟩)
   have hpc:=zvR hp hr0 zuw
   have zzr:(lj.live ⟨LB r0.1,y.k-1,y.WS,y.RS,g',w'⟩ r' aa).jV (s == 0)=r0.1:=by
    rw[Bd]
    rcases hpc with⟨h1,h2⟩|⟨h1,h2⟩
    ·simp only[h2,h1,if_true]
    ·simp only[h2]
     rw[h1]
     rfl
   have hlm:(LB r0.1).mute=aa:=by
    rcases hpc with⟨h1,h2⟩|⟨h1,h2⟩
    ·rw[h2]
     cases hq:r0.1.pc<;>rw[hq] at h1<;>first|(cases h1;done)|simp[Th.mute,hq]
    ·rw[h2];rfl
   have Gt:(lj.live ⟨LB r0.1,y.k-1,y.WS,y.RS,g',w'⟩ r' aa).stage=(lj.live y r aa).stage:=by
    have e1:(lj.live y r aa).stage=7:=by
     simp only[lj.stage]
     cases hq:y.T.pc<;>rw[hq] at hp<;>first|(cases hp;done)|rfl
    rw[e1]
    rcases hpc with⟨h1,h2⟩|⟨h1,h2⟩
    ·simp only[lj.stage,h2]
     cases hq:r0.1.pc<;>rw[hq] at h1<;>first|(cases h1;done)|rfl
    ·simp only[lj.stage,h2]
   have hlq:(LB r0.1).pc≠.quit:=by
    rcases hpc with⟨h1,h2⟩|⟨h1,h2⟩
    ·rw[h2];intro e;rw[e] at h1;cases h1
    ·rw[h2];simp
   have MY:wy (LB r0.1).pc=ae\/LB r0.1=at_ (LB r0.1).pc:=by
    rcases hpc with⟨h1,h2⟩|⟨h1,h2⟩
    ·rw[h2];exact .inl h1
    ·rw[h2];exact .inr rfl
   have zhb:=fct.edge (s == 0) r0 (by rw[hth];exact hr0)
   rw[hth] at zhb
   have zoV:cG y.T.deaf es=(LB r0.1).deaf/\∀e∈es,tE ph s aa y.WS y.RS e:=by
    by_cases c1:y.T.pc=.la
    ·have e1:es=#[Go.ConcR.mk (.acquire (muA ph.Mu))]:=by unfold mM at sD;rw[c1] at sD;exact sD
     have e2:r0.1.pc=.ur:=zhb.la c1
     refine⟨?_,e1▸zhm rfl (by simp)⟩
     have e3:LB r0.1=r0.1:=E5 (by rw[e2];simp)
     rw[e1,e3]
     simp[Th.deaf,c1,e2,cG,Go.ConcR.mk]
    ·by_cases c2:y.T.pc=.ur
     ·have e1:es=#[Go.ConcR.mk (.releaseMerge (muA ph.Mu))]:=by unfold mM at sD;rw[c2] at sD;exact sD
      have e2:r0.1.pc=.ud:=zhb.ur c2
      refine⟨?_,e1▸zhm rfl (by simp)⟩
      have e3:LB r0.1=r0.1:=E5 (by rw[e2];simp)
      rw[e1,e3]
      simp[Th.deaf,c2,e2,cG,Go.ConcR.mk]
     ·obtain⟨b1,b2,_⟩:=yX sD c1 c2 (λ e=>by rw[e] at hp;cases hp) (λ e=>by rw[e] at hp;cases hp)
      rw[if_neg hlq] at b2
      exact⟨b2,λ e he=>E2 (b1 e he)⟩
   have hkn:y.k-1≠0:=by omega
   have hgr:g'.status=.running:=(yU hB).1 hkn
   refine nP (w':=w') (h.worker Dy r1 hs hz (.inl ⟨rfl,dz.st⟩) EZ (acts:=[]) (z':=.live ⟨LB r0.1,y.k-1,y.WS,y.RS,g',w'⟩ r' aa) (λ e=>by cases e) rfl (A3 dz.size) (λ y' UB bl e=>?_) (λ A B e=>by cases e) zoV.2 (by simp) (λ hmt=>?_)
    (decide (y.T.pc=.us)) (λ e=>⟨hus (by simpa using e),hgr,rfl,dz.st⟩) ⟨r0.2.mu,r0.2.ms,st,sm,ρ',⟨zuE,vm,zhY ?_,?_,λ i y' UB bl hi tn hpi=>?_⟩,?_⟩ (GR hs ?_))
   ·cases e
    exact⟨rfl,cj,hB,rfl,hkn,zoV.1,MY⟩
   ·have:(LB r0.1).mute=ae:=hmt
    rw[hlm] at this
    cases this
   ·have:(upd (DZ Z) s (⟨(lj.live ⟨LB r0.1,y.k-1,y.WS,y.RS,g',w'⟩ r' aa).stage,0,0⟩:WD))=DZ Z:=by
     funext i
     by_cases e:i=s
     ·subst e;rw[mn,hzc,Gt]
     ·rw[yS _ _ e]
    rw[this];exact jF.md
   ·rw[zsi (sh:=⟨mu,ms,KKi,0⟩) Jv,zzr,<-zuF]
    exact AI
   ·by_cases e:i=s
    ·subst e
     rw[mC] at tn
     cases tn
     show ρ'<y.k-1
     omega
    ·rw[rB _ _ e] at tn
     have:=jF.kk i y' UB bl hi tn hpi
     omega
   ·by_cases hu:y.T.pc=.us
    ·exact .inl (by simpa using hu)
    ·refine .inr ⟨ES.hm,λ s' y' UB hs' fh SC=>?_⟩
     obtain⟨a1,a2⟩:=Gq s' y' UB hs' fh SC
     refine⟨a1,?_⟩
     have zzk:=mv_nil a1 a2
     have zq9:(s' == 0)=!(s == 0):=by
      have:s=0\/s=1:=by omega
      have:s'=0\/s'=1:=by omega
      rcases ‹s=0\/s=1› with rfl|rfl<;>rcases ‹s'=0\/s'=1› with rfl|rfl<;>first|rfl|exact absurd rfl fh
     have zuK:(⟨(Z 0).jV ae,(Z 1).jV aa,⟨mu,ms,KKi,0⟩⟩:GS).th (s' == 0)=y'.T:=by
      rw[zpf (by omega),SC,Bd,if_pos a1]
     have hwt:=fct.wake (s == 0) r0 (by rw[hth];exact hr0) (by
      rw[<-zq9,zuK]
      unfold Th.waits
      rw[zzk,a2]
      rfl)
     rw[hth,<-zq9,zuK] at hwt
     rcases hwt with h1|h1|h1
     ·unfold Th.waits at h1
      rw[Bool.and_eq_true,List.isEmpty_iff] at h1
      rw[<-zuF]
      exact h1.2
     ·exact absurd h1 hu
     ·rw[h1] at hp;cases hp
   ·rw[hzc,Gt];exact aA _
 |wr Yh hF g' w' es dz sD hB=>
  obtain⟨r',cj,hB⟩:=hB
  obtain⟨yT,yk,VW,yRS,yg,yw⟩:=y
  simp only at Yh
  subst Yh
  have e1:es=#[Go.ConcR.mk (.releaseMerge (stA ph.Wg))]:=sD
  have Dz:MuAt ph.tM ph.Mu w' mu ms:=(dz.blk _ id).trans jF.mA
  have vm:WgAt ph.tW ph.Wg w' st sm:=(dz.blk _ id).trans jF.gA
  have EZ:EfR ph VW s w w':=s8 (ex:=λ _=>False) dz.blk dz.size dz.os dz.output (λ b e=>e.elim) id (λ _=>⟨_,_,Dz⟩) (λ _=>⟨_,_,vm⟩)
  refine nP (w':=w') (h.worker Dy r1 hs hz (.inl ⟨rfl,dz.st⟩) EZ (acts:=[]) (z':=.live ⟨at_ .wk,yk,VW,yRS,g',w'⟩ r' aa) (λ e=>by cases e) rfl (A3 dz.size) (λ y' UB bl e=>?_) (λ A B e=>by cases e) (e1▸zhm rfl (by simp)) (by simp) (λ _=>⟨⟨t.size,?_⟩,?_⟩)
   aa (λ e=>by cases e) ⟨mu,ms,st,sm,ρ,vC Jv jF Dz vm (by rw[hz];rfl) (jF.md.counted hs (by rw[hzc];simp[lj.stage]) (.inl rfl) 0 0) (λ y' UB bl e hp=>?_),.inr ⟨ES.hm,Gq⟩⟩ (GR hs (by rw[hzc];exact aA _)))
  ·cases e
   exact⟨rfl,cj,hB,rfl,hyk,by rw[e1];rfl,.inr rfl⟩
  ·rw[CU,e1]
   exact xd.new hyd _ _
  ·exact Dy s _ _ _ _ Jv (y4 dz (λ _ _=>id) (λ _=>⟨_,_,Dz⟩) (λ _=>⟨_,_,vm⟩) id) hF
  ·cases e;cases hp
 |wk Yh g' w' es dz sD hB=>
  obtain⟨r',cj,hB⟩:=hB
  obtain⟨yT,yk,VW,yRS,yg,yw⟩:=y
  simp only at Yh
  subst Yh
  obtain⟨b1,b2,b3⟩:=yX sD (by simp) (by simp) (by simp) (by simp)
  have Dz:MuAt ph.tM ph.Mu w' mu ms:=(dz.blk _ id).trans jF.mA
  have vm:WgAt ph.tW ph.Wg w' st sm:=(dz.blk _ id).trans jF.gA
  have EZ:EfR ph VW s w w':=s8 (ex:=λ _=>False) dz.blk dz.size dz.os dz.output (λ b e=>e.elim) id (λ _=>⟨_,_,Dz⟩) (λ _=>⟨_,_,vm⟩)
  have hrel:=h.rel s hs (by rw[hz];rfl)
  rw[hz] at hrel
  refine nP (w':=w') (h.worker Dy r1 hs hz (.inl ⟨rfl,dz.st⟩) EZ (acts:=[]) (z':=.live ⟨at_ .d1,yk,VW,yRS,g',w'⟩ r' aa) (λ e=>by cases e) rfl (A3 dz.size) (λ y' UB bl e=>?_) (λ A B e=>by cases e) (λ e he=>E2 (b1 e he)) (by simp) (λ _=>⟨JO hyd hrel.1 b1 b3,?_⟩)
   aa (λ e=>by cases e) ⟨mu,ms,st,sm,ρ,vC Jv jF Dz vm (by rw[hz];rfl) (jF.md.counted hs (by rw[hzc];simp[lj.stage]) (.inr rfl) 0 0) (λ y' UB bl e hp=>?_),.inr ⟨ES.hm,Gq⟩⟩ (GR hs (by rw[hzc];exact aA _)))
  ·cases e
   exact⟨rfl,cj,hB,rfl,hyk,b2,.inr rfl⟩
  ·exact Dy s _ _ _ _ Jv (y4 dz (λ _ _=>id) (λ _=>⟨_,_,Dz⟩) (λ _=>⟨_,_,vm⟩) id) hrel.2
  ·cases e;cases hp
 |d1 Yh yG=>
  obtain⟨yT,yk,VW,yRS,yg,yw⟩:=y
  simp only at Yh
  subst Yh
  have hrel:=h.rel s hs (by rw[hz];rfl)
  rw[hz] at hrel
  have zzq:(DZ Z s).stage=5:=by rw[hzc];rfl
  have hc1:cnt (DZ Z s)=1:=by simp[cnt,zzq]
  have hV1:1<=Vc j (DZ Z):=by have:=Go.ConcN.le_sumTo (f:=λ i=>cnt (DZ Z i)) hs;simp only[Vc];omega
  have hVp:Vc j (DZ Z)+pend (nk aa x.T)<=2:=by
   have h1:=Vc_le j (DZ Z)
   have h2:=h.jT
   cases hx:x.T<;>rw[hx] at h2<;>simp only[jOk] at h2<;>simp only[nk,pend]<;>first|omega|(simp;omega)|(exact h2.elim)
  have oV:∀{g':aI} {w':ai} {es:Array bT} {st':Int} {n:Nat},MV an (λ b=>b=ph.Wg) yg w g' w' es->WgAt ph.tW ph.Wg w' st' 0->mM ph.Mu ph.Wg (at_ .d1) (at_ .quit) es->QuitsD an n 1 g'->Go.ConcN.Mode j (upd (DZ Z) s ⟨1,0,0⟩) (nk aa x.T) st' 0->
    Wi ph F cF csF W0 dead n1 R0 wg gr x rc j r1 (As r1 rc Z (Jw gs q bm Z)) gs w sl t (gr s):=by
   intro g' w' es st' n dz vm sD hq Yf
   obtain⟨b1,b2,b3⟩:=yX sD (by simp) (by simp) (by simp) (by simp)
   have b2:cG (at_ .d1).deaf es=1:=b2
   have Dz:MuAt ph.tM ph.Mu w' mu ms:=(dz.blk _ u9.mw).trans jF.mA
   have EZ:EfR ph VW s w w':=s8 (ex:=λ b=>b=ph.Wg) dz.blk dz.size dz.os dz.output (λ b e=>.inr (.inl e)) (λ e=>u9.wb e.symm) (λ _=>⟨_,_,Dz⟩) (λ _=>⟨_,_,vm⟩)
   refine nP (w':=w') (h.worker Dy r1 hs hz (.inl ⟨rfl,dz.st⟩) EZ (acts:=[]) (z':=.gone VW yRS) (λ e=>by cases e) rfl (A3 dz.size) (λ y' UB bl e=>by cases e) (λ A B e=>⟨n,by rw[b2];exact hq⟩) (λ e he=>E2 (b1 e he)) (by simp) (λ _=>⟨JO hyd hrel.1 b1 b3,?_⟩)
    aa (λ e=>by cases e) ⟨mu,ms,st',0,ρ,vC Jv jF Dz vm (by rw[hz];rfl) Yf (λ y' UB bl e hp=>by cases e),.inr ⟨λ _=>rfl,Gq⟩⟩ (GR hs (by rw[hc1];simp[cnt,lj.stage])))
   exact Dy s _ _ _ _ Jv (y4 dz (λ b hb e=>hSt b hb (.inr (.inl e))) (λ _=>⟨_,_,Dz⟩) (λ _=>⟨_,_,vm⟩) (λ e=>u9.wb e.symm)) hrel.2
  have opq:OpenSt j (DZ Z)->OpenSt j (upd (DZ Z) s ⟨1,0,0⟩):=λ h a ha=>by
   by_cases e:a=s
   ·subst e;rw[mn];simp
   ·rw[yS _ _ e];exact h a ha
  have hVu:=Vc_upd (DZ Z) (⟨1,0,0⟩:WD) hs
  have hc0:cnt (⟨1,0,0⟩:WD)=0:=rfl
  have Yf:=jF.md
  have VQ:=jF.gA
  generalize zei:nk aa x.T=tag at Yf hVp
  rw[zei] at oV
  cases Yf with
  |opn k1 k2 k3=>
   obtain⟨v,hv⟩:∃v,Vc j (DZ Z)+pend tag=v+1:=⟨Vc j (DZ Z)+pend tag-1,by omega⟩
   rw[hv] at VQ
   obtain⟨g',w',es,dz,vm,Pl⟩:=yG v 0 (by omega) (by omega) (by simpa using VQ)
   rcases Pl with⟨_,h0,_⟩|⟨_,sD,n,hq⟩
   ·cases h0
   ·refine oV dz vm sD hq ?_
    have Js:Vc j (upd (DZ Z) s ⟨1,0,0⟩)+pend tag=v:=by omega
    have e:((v:Nat):Int)*KK+((0:Nat):Int)=((Vc j (upd (DZ Z) s ⟨1,0,0⟩)+pend tag:Nat):Int)*KK:=by rw[Js];simp
    rw[e]
    exact .opn k1 (opq k2) (λ vs ev=>by have:=k3 vs ev;omega)
  |reg k1 k2 k3=>
   obtain⟨v,hv⟩:∃v,Vc j (DZ Z)=v+1:=⟨Vc j (DZ Z)-1,by omega⟩
   rw[hv] at VQ
   obtain⟨g',w',es,dz,vm,Pl⟩:=yG v 1 (by omega) (by omega) (by simpa using VQ)
   rcases Pl with⟨h0,_,sD,r',cj,hB⟩|⟨h0,sD,n,hq⟩
   ·subst h0
    obtain⟨b1,b2,b3⟩:=yX sD (by simp) (by simp) (by simp) (by simp)
    have Dz:MuAt ph.tM ph.Mu w' mu ms:=(dz.blk _ u9.mw).trans jF.mA
    have EZ:EfR ph VW s w w':=s8 (ex:=λ b=>b=ph.Wg) dz.blk dz.size dz.os dz.output (λ b e=>.inr (.inl e)) (λ e=>u9.wb e.symm) (λ _=>⟨_,_,Dz⟩) (λ _=>⟨_,_,vm⟩)
    have zm3:∀a,a<j->a≠s->(DZ Z a).stage=1:=λ a ha e=>by
     have c0:=others_uncounted hs hv hc1 a ha e
     have:=k2 a ha
     simp only[cnt] at c0
     split at c0<;>omega
    have zaO:Go.ConcN.Mode j (upd (DZ Z) s ⟨4,0,0⟩) tag 1 0:=by
     have:=Go.ConcN.Mode.last (j:=j) (D:=upd (DZ Z) s ⟨4,0,0⟩) (tag:=tag) s k1 hs (by rw[mn];simp) (λ a ha e=>by rw[yS _ _ e];exact zm3 a ha e)
     rw[mn] at this
     simpa using this
    have zyX:WgAt ph.tW ph.Wg w' 1 0:=by simpa using vm
    refine nP (w':=w') (h.worker Dy r1 hs hz (.inl ⟨rfl,dz.st⟩) EZ (acts:=[]) (z':=.live ⟨at_ .d2,yk,VW,yRS,g',w'⟩ r' aa) (λ e=>by cases e) rfl (A3 dz.size) (λ y' UB bl e=>?_) (λ A B e=>by cases e) (λ e he=>E2 (b1 e he)) (by simp) (λ _=>⟨JO hyd hrel.1 b1 b3,?_⟩)
     aa (λ e=>by cases e) ⟨mu,ms,1,0,ρ,vC Jv jF Dz zyX (by rw[hz];rfl) (by rw[zei];exact zaO) (λ y' UB bl e hp=>?_),.inr ⟨λ _=>rfl,Gq⟩⟩ (GR hs (by rw[hc1];simp[cnt,lj.stage])))
    ·cases e
     exact⟨rfl,cj,hB,rfl,hyk,b2,.inr rfl⟩
    ·exact Dy s _ _ _ _ Jv (y4 dz (λ b hb e=>hSt b hb (.inr (.inl e))) (λ _=>⟨_,_,Dz⟩) (λ _=>⟨_,_,vm⟩) (λ e=>u9.wb e.symm)) hrel.2
    ·cases e;cases hp
   ·have hv0:v≠0:=λ e=>h0 ⟨e,rfl⟩
    refine oV dz vm sD hq ?_
    have Js:Vc j (upd (DZ Z) s ⟨1,0,0⟩)=v:=by omega
    have e:((v:Nat):Int)*KK+((1:Nat):Int)=((Vc j (upd (DZ Z) s ⟨1,0,0⟩):Nat):Int)*KK+1:=by rw[Js];simp
    rw[e]
    exact .reg k1 (opq k2) (by omega)
  |last L _ k2 k3 k4=>
   by_cases e:s=L
   ·subst e;omega
   ·have:=k4 s hs e;omega
  |sema k2=>have:=k2 s hs;omega
  |fin _ k2=>have:=k2 s hs;omega
 |d2 Yh yG=>
  obtain⟨yT,yk,VW,yRS,yg,yw⟩:=y
  simp only at Yh
  subst Yh
  have hrel:=h.rel s hs (by rw[hz];rfl)
  rw[hz] at hrel
  have Gt:(DZ Z s).stage=4:=by rw[hzc];rfl
  obtain⟨hW3,YI,Gs,hsm⟩:=jF.md.isLast hs (.inl Gt)
  rw[Gt] at Gs
  have Gs:st=1:=Gs
  subst Gs hsm
  obtain⟨g',w',es,dz,sD,r',cj,hB⟩:=yG jF.gA
  obtain⟨b1,b2,b3⟩:=yX sD (by simp) (by simp) (by simp) (by simp)
  have Dz:MuAt ph.tM ph.Mu w' mu ms:=(dz.blk _ id).trans jF.mA
  have vm:WgAt ph.tW ph.Wg w' 1 0:=(dz.blk _ id).trans jF.gA
  have EZ:EfR ph VW s w w':=s8 (ex:=λ _=>False) dz.blk dz.size dz.os dz.output (λ b e=>e.elim) id (λ _=>⟨_,_,Dz⟩) (λ _=>⟨_,_,vm⟩)
  have zaO:Go.ConcN.Mode j (upd (DZ Z) s ⟨3,0,0⟩) (nk aa x.T) 1 0:=by
   have:=Go.ConcN.Mode.last (j:=j) (D:=upd (DZ Z) s ⟨3,0,0⟩) (tag:=nk aa x.T) s hW3 hs (by rw[mn];simp) (λ a ha e=>by rw[yS _ _ e];exact YI a ha e)
   rw[mn] at this
   simpa using this
  refine nP (w':=w') (h.worker Dy r1 hs hz (.inl ⟨rfl,dz.st⟩) EZ (acts:=[]) (z':=.live ⟨at_ .d3,yk,VW,yRS,g',w'⟩ r' aa) (λ e=>by cases e) rfl (A3 dz.size) (λ y' UB bl e=>?_) (λ A B e=>by cases e) (λ e he=>E2 (b1 e he)) (by simp) (λ _=>⟨JO hyd hrel.1 b1 b3,?_⟩)
   aa (λ e=>by cases e) ⟨mu,ms,1,0,ρ,vC Jv jF Dz vm (by rw[hz];rfl) zaO (λ y' UB bl e hp=>?_),.inr ⟨λ _=>rfl,Gq⟩⟩ (GR hs (by simp[cnt,lj.stage])))
  ·cases e
   exact⟨rfl,cj,hB,rfl,hyk,b2,.inr rfl⟩
  ·exact Dy s _ _ _ _ Jv (y4 dz (λ _ _=>id) (λ _=>⟨_,_,Dz⟩) (λ _=>⟨_,_,vm⟩) id) hrel.2
  ·cases e;cases hp
 |d3 Yh yG=>
  obtain⟨yT,yk,VW,yRS,yg,yw⟩:=y
  simp only at Yh
  subst Yh
  have hrel:=h.rel s hs (by rw[hz];rfl)
  rw[hz] at hrel
  have Gt:(DZ Z s).stage=3:=by rw[hzc];rfl
  obtain⟨hW3,YI,Gs,hsm⟩:=jF.md.isLast hs (.inr (.inl Gt))
  rw[Gt] at Gs
  have Gs:st=1:=Gs
  subst Gs hsm
  obtain⟨g',w',es,dz,vm,sD,r',cj,hB⟩:=yG jF.gA
  obtain⟨b1,b2,b3⟩:=yX sD (by simp) (by simp) (by simp) (by simp)
  have Dz:MuAt ph.tM ph.Mu w' mu ms:=(dz.blk _ u9.mw).trans jF.mA
  have EZ:EfR ph VW s w w':=s8 (ex:=λ b=>b=ph.Wg) dz.blk dz.size dz.os dz.output (λ b e=>.inr (.inl e)) (λ e=>u9.wb e.symm) (λ _=>⟨_,_,Dz⟩) (λ _=>⟨_,_,vm⟩)
  have zaO:Go.ConcN.Mode j (upd (DZ Z) s ⟨2,0,0⟩) (nk aa x.T) 0 0:=by
   have:=Go.ConcN.Mode.last (j:=j) (D:=upd (DZ Z) s ⟨2,0,0⟩) (tag:=nk aa x.T) s hW3 hs (by rw[mn];simp) (λ a ha e=>by rw[yS _ _ e];exact YI a ha e)
   rw[mn] at this
   simpa using this
  refine nP (w':=w') (h.worker Dy r1 hs hz (.inl ⟨rfl,dz.st⟩) EZ (acts:=[]) (z':=.live ⟨at_ .d4,yk,VW,yRS,g',w'⟩ r' aa) (λ e=>by cases e) rfl (A3 dz.size) (λ y' UB bl e=>?_) (λ A B e=>by cases e) (λ e he=>E2 (b1 e he)) (by simp) (λ _=>⟨JO hyd hrel.1 b1 b3,?_⟩)
   aa (λ e=>by cases e) ⟨mu,ms,0,0,ρ,vC Jv jF Dz vm (by rw[hz];rfl) zaO (λ y' UB bl e hp=>?_),.inr ⟨λ _=>rfl,Gq⟩⟩ (GR hs (by simp[cnt,lj.stage])))
  ·cases e
   exact⟨rfl,cj,hB,rfl,hyk,b2,.inr rfl⟩
  ·exact Dy s _ _ _ _ Jv (y4 dz (λ b hb e=>hSt b hb (.inr (.inl e))) (λ _=>⟨_,_,Dz⟩) (λ _=>⟨_,_,vm⟩) (λ e=>u9.wb e.symm)) hrel.2
  ·cases e;cases hp
 |d4 Yh yG=>
  obtain⟨yT,yk,VW,yRS,yg,yw⟩:=y
  simp only at Yh
  subst Yh
  have hrel:=h.rel s hs (by rw[hz];rfl)
  rw[hz] at hrel
  have Gt:(DZ Z s).stage=2:=by rw[hzc];rfl
  obtain⟨hW3,YI,Gs,hsm⟩:=jF.md.isLast hs (.inr (.inr Gt))
  rw[Gt] at Gs
  have Gs:st=0:=Gs
  subst Gs hsm
  obtain⟨hmw,g',w',es,dz,vm,sD,n,hq⟩:=yG jF.gA
  obtain⟨b1,b2,b3⟩:=yX sD (by simp) (by simp) (by simp) (by simp)
  have b2:cG (at_ .d4).deaf es=1:=b2
  have Dz:MuAt ph.tM ph.Mu w' mu ms:=(dz.blk _ u9.mw).trans jF.mA
  have EZ:EfR ph VW s w w':=s8 (ex:=λ b=>b=ph.Wg) dz.blk dz.size dz.os dz.output (λ b e=>.inr (.inl e)) (λ e=>u9.wb e.symm) (λ _=>⟨_,_,Dz⟩) (λ _=>⟨_,_,vm⟩)
  have htw:nk aa x.T=.w3:=by
   cases hx:x.T<;>rw[hx] at hW3<;>simp only[nk] at hW3 ⊢<;>first|rfl|exact hW3.elim
  have zaO:Go.ConcN.Mode j (upd (DZ Z) s ⟨1,0,0⟩) (nk aa x.T) 0 1:=by
   rw[htw]
   exact .sema λ a ha=>by
    by_cases e:a=s
    ·subst e;rw[mn]
    ·rw[yS _ _ e];exact YI a ha e
  have hgr:g'.status=.running:=by
   cases n with
   |zero=>exact absurd hq.2 (by decide)
   |succ n=>exact hq.elim (λ z=>absurd z.2 (by decide)) λ z=>z.1
  refine nP (w':=w') (h.worker Dy r1 hs hz (.inl ⟨rfl,dz.st⟩) EZ (acts:=[]) (z':=.gone VW yRS) (λ e=>by cases e) rfl (A3 dz.size) (λ y' UB bl e=>by cases e) (λ A B e=>⟨n,by rw[b2];exact hq⟩) (λ e he=>E2 (b1 e he)) (by simp) (λ _=>⟨JO hyd hrel.1 b1 b3,?_⟩)
   ae (λ _=>⟨hmw,hgr,rfl,dz.st⟩) ⟨mu,ms,0,1,ρ,vC Jv jF Dz vm (by rw[hz];rfl) zaO (λ y' UB bl e hp=>by cases e),.inl rfl⟩ (GR hs (by simp[cnt,lj.stage])))
  exact Dy s _ _ _ _ Jv (y4 dz (λ b hb e=>hSt b hb (.inr (.inl e))) (λ _=>⟨_,_,Dz⟩) (λ _=>⟨_,_,vm⟩) (λ e=>u9.wb e.symm)) hrel.2
end
section
variable{ph:Ph}{F:Nat->(Nat->Prop)->(Nat->Prop)->ai->Prop}{cF:aB}{csF:List aB}{W0:ai}{dead:Nat->Prop}{n1:Nat}{R0:BR}{wg:ai}{gr:Nat->Nat}
variable{x x':Nm}{rc Al:Rk}{bm:Bool}{j:Nat}{Z:Nat->lj}{q:Nat->Nat}{gs:Array aI}{w w':ai}{t:pk}{sl:Option (Nat×Nat)}
theorem zhZ{WS RS:Nat->Prop}{g:aI}{es:Array bT}{acts:List MemAct}{Wx Rx:Nat->Loc->Prop}(sC:∀e∈es,tE ph 2 ae WS RS e)(SB:∀a∈acts,LG a)
  (h1:∀l b,vj l=ab b->WS b->Wx 0 l) (h2:∀l b,vj l=ab b->RS b->Rx 0 l) (h3:∀l,zra ph (2*ph.d) (2*ph.d+ph.d) l->Wx 0 l) (hz:∀e∈es,∀b,WS b\/RS b\/ph.sh b->b<w'.heap.size):
  (∀op∈opsOf 0 g es acts,op.g=0)/\(∀op∈opsOf 0 g es acts,OkT (ShL ph) Wx Rx 0 op)/\∀op∈opsOf 0 g es acts,∀y,op.act.touch?=ab y->∀b,vj y.loc=ab b->b<w'.heap.size:=by
 refine⟨λ op cM=>(im cM).1,λ op cM=>⟨(im cM).1,?_,?_⟩,λ op cM y hy b hb=>?_⟩
 ·rcases (im cM).2 with⟨e,a1,a2⟩|⟨a,a1,a2⟩
  ·rw[a2];exact(sC e a1).2
  ·rw[a2];exact λ ad=>(SB a a1).2 _
 ·intro y hy
  rcases (im cM).2 with⟨e,a1,a2⟩|⟨a,a1,a2⟩
  ·rw[a2] at hy
   rcases (sC e a1).1 y hy with⟨b,b1,b2|⟨b2,b3⟩⟩|⟨a,b1,b2,b3,b4⟩|⟨a,b1,b2,b3,b4⟩
   ·exact .inr (.inl (h1 _ b b1 b2))
   ·exact .inr (.inr ⟨h2 _ b b1 b2,b3⟩)
   ·exact .inr (.inl (h3 _ ⟨a,b1,b2,b3,b4⟩))
   ·exact .inl ⟨⟨a.block,by rw[b1];rfl,b2⟩,b3,λ _=>rfl⟩
  ·rw[a2,(SB a a1).1] at hy;cases hy
 ·rcases (im cM).2 with⟨e,a1,a2⟩|⟨a,a1,a2⟩
  ·rw[a2] at hy
   rcases (sC e a1).1 y hy with⟨b',b1,b2|⟨b2,b3⟩⟩|⟨a,b1,b2,_⟩|⟨a,b1,b2,_⟩
   ·rw[b1] at hb;cases hb;exact hz e a1 _ (.inl b2)
   ·rw[b1] at hb;cases hb;exact hz e a1 _ (.inr (.inl b2))
   ·rw[b1] at hb;cases hb;exact hz e a1 _ (.inr (.inr (.inr (.inr b2))))
   ·rw[b1] at hb;cases hb;exact hz e a1 _ (.inr (.inr (b2.elim .inl λ e=>.inr (.inl e))))
  ·rw[a2,(SB a a1).1] at hy;cases hy
theorem Mem.zoS(m:Mem ph W0 n1 x Z w){Z':Nat->lj}(hs:w.heap.size<=w'.heap.size)(hzr:∀i,(Z' i).rs=(Z i).rs)(hzw:∀i,(Z' i).ws=(Z i).ws)(hrs:∀b,x'.RS b->x.RS b)
  (hw:∀b,x'.WS b->x.WS b\/(w.heap.size<=b/\b<w'.heap.size/\¬ph.sh b)):Mem ph W0 n1 x' Z' w':=by
 have hle:=m.le
 refine⟨m.u9,m.shl,bD m.le hs,m.wn,λ b hb=>?_,λ b hb=>m.rm b (hrs b hb),λ i b hb=>?_,λ i b hb=>?_,λ i b hb k=>?_,λ i i' b hb Uy=>?_⟩
 ·rcases hw b hb with h|⟨h1,h2,h3⟩
  ·obtain⟨h1,h2,h3⟩:=m.wm b h
   exact⟨h1,by omega,h3⟩
  ·exact⟨by omega,h2,h3⟩
 ·rw[hzw] at hb
  obtain⟨h1,h2,h3⟩:=m.wf i b hb
  exact⟨h1,by omega,h3⟩
 ·rw[hzr] at hb
  obtain⟨h1,h2,h3,h4⟩:=m.rf i b hb
  refine⟨by omega,h2,λ k=>?_,λ i' k=>h4 i' (by rw[hzw] at k;exact k)⟩
  rcases hw b k with h|⟨h5,_⟩
  ·exact h3 h
  ·omega
 ·rw[hzw] at k
  rcases hw b hb with h|⟨h5,_⟩
  ·exact m.mf i b h k
  ·have:=(m.wf i b k).2.1;omega
 ·rw[hzw] at hb Uy
  exact m.ff i i' b hb Uy
def GoesM(ph:Ph)(F:Nat->(Nat->Prop)->(Nat->Prop)->ai->Prop)(cF:aB)(csF:List aB)(W0:ai)(dead:Nat->Prop)(n1:Nat)(R0:BR)(wg:ai)(r1:Rk)(μ:Ms)(gs:Array aI)(w:ai)(sl:Option (Nat×Nat))(t:pk):Prop:=
 ∃m' ops gs' w' Gu x' Al yA j' Z' q',runT an (crowd gs w sl) 0=(.next m',ops)/\m'=crowd gs' w' sl/\gs.size<=gs'.size/\RI ph F cF csF W0 dead n1 R0 wg Gu x' Al yA j' Z' q' gs' w' (t++ops)/\Ms.lt (As r1 Al Z' (Jw gs' q' yA Z')) μ
theorem RI.zbc(Dy:∀s WS RS w aJ,s<2->gY ph s (λ b=>WS b\/RS b) w aJ->F s WS RS w->F s WS RS aJ)(h:RI ph F cF csF W0 dead n1 R0 wg gr x rc aa j Z q gs w t)(r1:Rk)(cj:Rk.lt Al rc){es:Array bT}{acts:List MemAct}
  (hmv:Mv an ae x.g w x'.g x'.w es acts) (he:EfR ph x.WS 2 w x'.w) (zqZ:BhM an ph F cF csF Al x') (hrs:x'.RS=x.RS) (O3:∀b,x'.WS b↔x.WS b\/(w.heap.size<=b/\b<x'.w.heap.size/\¬ph.sh b))
  (hd:cG x.d es=x'.d) (sC:∀e∈es,tE ph 2 ae x'.WS x.RS e) (SB:∀a∈acts,LG a) (he0:x.T=.st->es=#[]) (hxs:∀b,x'.XS b->x'.T=.st/\ph.sh b) (Sv:jOk x'.T j) (hkz:kOk (Vc j (DZ Z)) x'.T x'.k)
  (hsz:x'.T≠.st->∀b,ph.sh b->b<x'.w.heap.size) (dz:x'.T=.st->x.T=.st)
  (jF:x'.T≠.st->∃mu ms st sm ρ,zaH ph j x'.T Z x'.w mu ms st sm ρ/\∀s y r,s<j->Z s=.live y r ae->wy y.T.pc=ae/\mv (s == 0) y.T ⟨mu,ms,KKi,0⟩=[]):
  GoesM ph F cF csF W0 dead n1 R0 wg r1 (As r1 rc Z (Jw gs q aa Z)) gs w sl t:=by
 have hj2:=E4 h.jT
 have hg:gs[0]?=ab x.g:=h.main
 have h0:0<gs.size:=(ah.1 hg).1
 obtain⟨f,hf,_,eB⟩:=OU (sl:=sl) (i:=0) hg h.free hmv
 obtain⟨yA,fl,_,hfl⟩:=flags h hf aa (λ e=>by cases e)
 let Z':Nat->lj:=λ i=>nn (Z i) (fl i)
 have yH:Mem ph W0 n1 x' Z' x'.w:=h.mem.zoS he.size (λ i=>qN _ _) (λ i=>qO _ _) (λ b hb=>by rw[hrs] at hb;exact hb) λ b hb=>(O3 b).1 hb
 have hdz:DZ Z'=DZ Z:=by funext i;simp only[DZ,Z',zz]
 have Gq:∀i,i<j->∀(St:Nat->Prop),(∀b,St b->(Z i).ws b\/(Z i).rs b)->gY ph i St w x'.w:=λ i hi St hSt=>he.rly (by omega) (by omega) λ b hb=>by
  rcases hSt b hb with h1|h1
  ·obtain⟨_,a2,a3⟩:=h.mem.wf i b h1
   exact⟨a2,λ hy=>h.mem.mf i b hy h1,a3⟩
  ·obtain⟨a1,a2,a3,_⟩:=h.mem.rf i b h1
   exact⟨a1,a3,a2⟩
 have zzo:∀e∈es,∀b,ph.sh b->b<x'.w.heap.size:=λ e AI b hb=>by
  by_cases e1:x.T=.st
  ·rw[he0 e1] at AI;simp at AI
  ·exact aY (h.sz e1 b hb) he.size
 obtain⟨o1,o2,o3⟩:=zhZ (w':=x'.w) (g:=x.g) (Wx:=WR ph j gr x' Z') (Rx:=RR j gr x' Z') sC SB
  (λ l b h1 h2=>.inl ⟨rfl,.inl ⟨b,h1,h2⟩⟩) (λ l b h1 h2=>.inl ⟨rfl,b,h1,by rw[hrs];exact h2⟩)
  (λ l ⟨a,h1,h2,h3,_⟩=>.inl ⟨rfl,.inr ⟨a,h1,h2,bD (br _ hj2) h3⟩⟩)
  (λ e AI b hb=>by
   rcases hb with hb|hb|hb
   ·exact(yH.wm b hb).2.1
   ·exact aY (h.mem.rm b hb) yH.le
   ·exact zzo e AI b hb)
 have hold:∀b,b<n1->x'.w.heap[b]?=w.heap[b]?:=λ b hb=>by
  have h2:=h.mem.le
  refine he.blk b (by omega) (λ hy=>?_) (λ DC=>?_)
  ·have:=(h.mem.wm b hy).1;omega
  ·have:=h.mem.shl b DC;omega
 have DD:TI (ShL ph) (DdL (AS ph dead)) (wkR j gr) (WR ph j gr x' Z') (RR j gr x' Z') t:=by
  have new:∀{l:Loc} {b:Nat},vj l=ab b->w.heap.size<=b->∀i y,touchAt t i=ab y->y.loc≠l:=λ h1 h2 i y hy e=>by
   have:=h.cb.bnd i y hy _ (e▸h1)
   omega
  refine h.ti.WE (λ g l hw=>?_) (λ g l hr=>?_) (λ l hl=>.inl hl) (λ l hl=>hl) (λ k hk=>hk)
  ·rcases hw with⟨rfl,⟨b,h1,h2⟩|h1⟩|⟨i,hi,rfl,⟨b,h1,h2⟩|h1⟩
   ·rcases (O3 b).1 h2 with h3|⟨h3,_⟩
    ·exact .inl (.inl ⟨rfl,.inl ⟨b,h1,h3⟩⟩)
    ·exact .inr (new h1 h3)
   ·exact .inl (.inl ⟨rfl,.inr h1⟩)
   ·rw[show (Z' i).ws=(Z i).ws from qO _ _] at h2
    exact .inl (.inr ⟨i,hi,rfl,.inl ⟨b,h1,h2⟩⟩)
   ·exact .inl (.inr ⟨i,hi,rfl,.inr h1⟩)
  ·rcases hr with⟨rfl,b,h1,h2⟩|⟨i,hi,rfl,b,h1,h2⟩
   ·rw[hrs] at h2
    exact .inr (.inl (.inl ⟨rfl,b,h1,h2⟩))
   ·rw[show (Z' i).rs=(Z i).rs from qN _ _] at h2
    exact .inr (.inl (.inr ⟨i,hi,rfl,b,h1,h2⟩))
 have tH:(((gs.map f).setIfInBounds 0 x'.g)).size=gs.size:=eW
 have hlv:ve an ((gs.map f).setIfInBounds 0 x'.g) (t++opsOf 0 x.g es acts) (λ i=>∃s,s<j/\i=gr s/\(Z' s).isLive) q:=
  ((h.lv.move hf (.inl rfl)).app o1 (.inl rfl)).sub λ i ⟨s',a1,a2,a3⟩=>⟨s',a1,a2,(vM _ _).2 a3⟩
 refine⟨_,_,_,x'.w,gr,x',Al,aa,j,Z',q,eB,rfl,dh tH.symm,?_,.c rfl cj⟩
 refine⟨gX h0,(λ e=>by cases e),zqZ,by rw[Hb SB,h.deaf];exact hd,by rw[hdz];exact hkz,Sv,hlv,λ i hi=>by show nn (Z i) _=_;rw[h.no i hi];rfl,λ i hi hn=>h.yes i hi ((J5 _ _).1 hn),λ i hi=>by rw[tH];exact h.kd0 i hi,h.SL,λ i y' r' bl hi tn=>?_,λ i hi hm=>?_,yH,hxs,?_,h.gl,DD.app yH.excl (.inl rfl) o2,?_,hsz,λ hT=>?_⟩
 ·obtain⟨rfl,OC,AL⟩:=nQ tn
  obtain⟨a1,a2,a3,a4,a5,a6⟩:=h.wk i y' r' OC hi AL
  obtain⟨b1,b2,_⟩:=hfl i y' r' OC hi AL
  have hk0:=(h.kd0 i hi).1
  refine⟨?_,λ e=>a2 (b2 e),?_,?_,a5,a6⟩
  ·rw[rU _ hk0,a1]
   exact congrArg ab b1
  ·exact WL (x:={ y' with w:=w }) a3 (Gq i hi (Nw.St { y' with w:=w }) λ b hb=>by rw[AL];exact hb)
  ·rw[nC t (dr hk0) _ o1];exact a4
 ·rw[show (Z' i).DN=(Z i).DN from zy _ _] at hm
  obtain⟨⟨r2,c1⟩,c2⟩:=h.rel i hi hm
  refine⟨⟨r2,c1.appOther o1 (dr (h.kd0 i hi).1)⟩,?_⟩
  rw[show (Z' i).ws=(Z i).ws from qO _ _,show (Z' i).rs=(Z i).rs from qN _ _]
  exact Dy i _ _ _ _ (by omega) (Gq i hi _ λ b hb=>hb) c2
 ·exact h.gh.right λ a b l r=>hold b (h.gl a b l r)
 ·refine h.cb.step he.size (λ b hb=>hold b (aY hb h.mem.wn)) (dh tH.symm) he.os he.output λ op cM=>⟨by rw[o1 op cM,tH];exact h0,o3 op cM⟩
 ·obtain⟨mu,ms,st,sm,ρ,Ar,zmA⟩:=jF hT
  refine⟨mu,ms,st,sm,ρ,⟨Ar.mA,Ar.gA,by rw[hdz];exact Ar.md,?_,λ i y' r' bl hi tn hp=>?_⟩,⟨(λ e=>by cases e),λ i y' r' hi tn=>?_⟩⟩
  ·rw[show (Z' 0).jV ae=(Z 0).jV ae from ui _ _ _,show (Z' 1).jV aa=(Z 1).jV aa from ui _ _ _];exact Ar.tb
  ·obtain⟨_,OC,AL⟩:=nQ tn
   exact Ar.kk i y' r' OC hi AL hp
  ·obtain⟨VP,OC,AL⟩:=nQ tn
   have X5:OC=ae:=(hfl i y' r' OC hi AL).2.1 VP.symm
   subst X5
   exact zmA i y' r' hi AL
theorem RI.zrv(h:RI ph F cF csF W0 dead n1 R0 wg gr x rc aa j Z q gs w t)(r1:Rk)(hT:x.T=.w3)(ho:x.g.offers=ak)(dz:stepG an ae x.g w=.go { x.g with status:=.blocked } w #[]){mu ms st:Int}{ρ:Nat}(jF:zaH ph j x.T Z w mu ms st 0 ρ)(ES:zqJ j aa Z mu ms 0):
  GoesM ph F cF csF W0 dead n1 R0 wg r1 (As r1 rc Z (Jw gs q aa Z)) gs w sl t:=by
 have hg:gs[0]?=ab x.g:=h.main
 have h0:0<gs.size:=(ah.1 hg).1
 have eB:=jN (P:=an) (sl:=sl) (i:=0) (w:=w) hg dz
 have hid:woken an x.g { x.g with status:=.blocked } w=id:=by
  funext o
  unfold woken
  rw[if_neg (by simp)]
  rfl
 rw[hid,Array.map_id,rH] at eB
 have hsz:(gs.setIfInBounds 0 { x.g with status:=.blocked }).size=gs.size:=by simp
 have gne:∀i,i≠0->(gs.setIfInBounds 0 { x.g with status:=.blocked })[i]?=gs[i]?:=λ i hi=>bt (dr hi)
 refine⟨_,_,_,w,gr,x,rc,ae,j,Z,q,eB,rfl,dh hsz.symm,?_,?_⟩
 ·rw[iJ]
  refine⟨by rw[bC];simp[h0,blk],λ _=>⟨hT,ho⟩,h.beh,h.deaf,h.kz,h.jT,λ i g hi hn VS=>h.lv i g hi hn (by rw[gne i hi] at VS;exact VS),h.no,h.yes,λ i hi=>by rw[hsz];exact h.kd0 i hi,h.SL,λ i y' r' bl hi tn=>?_,h.rel,h.mem,h.xs,h.gh,h.gl,h.ti,⟨h.cb.old,h.cb.size,h.cb.bnd,h.cb.dlt,λ i op hi=>by rw[hsz];exact h.cb.ids i op hi,h.cb.os,h.cb.output⟩,h.sz,λ _=>⟨mu,ms,st,0,ρ,jF,⟨λ _=>rfl,ES.hl⟩⟩⟩
  obtain⟨a1,a2⟩:=h.wk i y' r' bl hi tn
  exact⟨by rw[gne _ (h.kd0 i hi).1];exact a1,a2⟩
 ·refine .n rfl rfl rfl rfl ?_
  show Jw _ q ae Z<Jw gs q aa Z
  unfold Jw
  rw[hsz]
  have e1:zga ae=0:=rfl
  have e2:zga aa=1:=rfl
  omega
theorem RI.zrT(h:RI ph F cF csF W0 dead n1 R0 wg gr x rc aa j Z q gs w t)(r1:Rk)(cj:Rk.lt Al rc){i:Nat}(hT:x.T=.go i)(hd:x.d=0){g' child:aI}{RSc ot:Nat->Prop}(dz:stepG an ae x.g w=.spawn g' child w #[])
  (h1:∀b,RSc b->x.WS b\/x.RS b) (h2:∀b,ot b->x.WS b/\¬RSc b) (hc:∀kc,BH an ph i (i == 0) (F i) ⟨at_ .ld,kc,Yj,RSc,child,w⟩) (hB:BhM an ph F cF csF Al { x with T:=if i=0 then .ad 1 else .w1,g:=g',w:=w,WS:=ot }):
  GoesM ph F cF csF W0 dead n1 R0 wg r1 (As r1 rc Z (Jw gs q aa Z)) gs w sl t:=by
 have Sv:=h.jT
 rw[hT] at Sv
 obtain⟨rfl,hj2⟩:j=i/\i<2:=Sv
 have Jr:x.T≠.st:=by rw[hT];simp
 have X9:3<=x.k:=by have:=h.kz;rw[hT] at this;exact this
 obtain⟨mu,ms,st,sm,ρ,jF,ES⟩:=h.sy Jr
 obtain⟨cM,V6,V5,_⟩:=jF.md.open_inv (by rw[hT];trivial)
 subst V6 V5
 have hg:gs[0]?=ab x.g:=h.main
 have h0:0<gs.size:=(ah.1 hg).1
 have eB:=runT_crowd_spawn (P:=an) (sl:=sl) (i:=0) hg dz
 rw[rH] at eB
 generalize zzi:({ g:=0,fn:=x.g.frame.fn,pos:=x.g.frame.place,act:=.go gs.size }:MemOp)=op1 at eB
 generalize zzj:({ g:=gs.size,fn:=child.frame.fn,pos:=x.g.frame.place,act:=.start }:MemOp)=op2 at eB
 have wv:((#[]:pk).push op1).push op2=#[op1,op2]:=rfl
 rw[wv] at eB
 have g1:op1.g=0/\op1.act=.go gs.size:=by rw[<-zzi];exact⟨rfl,rfl⟩
 have g2:op2.g=gs.size/\op2.act=.start:=by rw[<-zzj];exact⟨rfl,rfl⟩
 have dz:∀k,Deaf (t++#[op1,op2]) k=Deaf t k:=λ k=>Deaf_still _ _ _ λ op cM=>by
  simp only[db,bF,cf,or_false] at cM
  rcases cM with rfl|rfl
  ·rw[g1.2];simp
  ·rw[g2.2];simp
 have MY:Deaf t gs.size=0:=Go.ConcN.Deaf_absent λ i op hi e=>by have:=h.cb.ids i op hi;omega
 obtain⟨r0,X5⟩:=hc (ρ+1)
 let y0:Nw:=⟨at_ .ld,ρ+1,Yj,RSc,child,w⟩
 let z0:lj:=.live y0 r0 aa
 let Z':Nat->lj:=s0 Z j z0
 let Gu:Nat->Nat:=upd gr j gs.size
 have Zs:Z' j=.live y0 r0 aa:=mC _ _ _
 have Zo:∀i,i≠j->Z' i=Z i:=λ i hi=>rB Z _ hi
 have Ks:Gu j=gs.size:=mn _ _ _
 have Ko:∀i,i≠j->Gu i=gr i:=λ i hi=>yS _ _ hi
 have gsz:((gs.setIfInBounds 0 g').push child).size=gs.size+1:=by simp
 have zuv:∀i,i≠0->i≠gs.size->((gs.setIfInBounds 0 g').push child)[i]?=gs[i]?:=λ i h1 h2=>by
  rw[bJ,if_neg (by simpa using h2),bt (dr h1)]
 have zlt:∀s,s<j+1->s≠j->s<j:=λ s h1 h2=>by omega
 have yH:Mem ph W0 n1 { x with T:=if j=0 then .ad 1 else .w1,g:=g',w:=w,WS:=ot } Z' w:=by
  have m:=h.mem
  refine⟨m.u9,m.shl,m.le,m.wn,λ b hb=>m.wm b (h2 b hb).1,m.rm,λ s b hb=>?_,λ s b hb=>?_,λ s b hb hs=>?_,λ s s' b hb Uy=>?_⟩
  ·by_cases e:s=j
   ·subst e;rw[Zs] at hb;exact hb.elim
   ·rw[Zo s e] at hb;exact m.wf s b hb
  ·have O3:∀s' b,(Z' s').ws b->(Z s').ws b:=λ s' b hb=>by
    by_cases e:s'=j
    ·subst e;rw[Zs] at hb;exact hb.elim
    ·rw[Zo s' e] at hb;exact hb
   by_cases e:s=j
   ·subst e
    rw[Zs] at hb
    have hle:=m.le
    rcases h1 b hb with h3|h3
    ·exact⟨(m.wm b h3).2.1,(m.wm b h3).2.2,λ h4=>(h2 b h4).2 hb,λ s' h4=>m.mf s' b h3 (O3 s' b h4)⟩
    ·have hr:=m.rm b h3
     exact⟨by omega,λ h4=>(by have:=m.shl b h4;omega),λ h4=>(h2 b h4).2 hb,λ s' h4=>by have:=(m.wf s' b (O3 s' b h4)).1;omega⟩
   ·rw[Zo s e] at hb
    obtain⟨a1,a2,a3,a4⟩:=m.rf s b hb
    exact⟨a1,a2,λ h4=>a3 (h2 b h4).1,λ s' h4=>a4 s' (O3 s' b h4)⟩
  ·by_cases e:s=j
   ·subst e;rw[Zs] at hs;exact hs.elim
   ·rw[Zo s e] at hs;exact m.mf s b (h2 b hb).1 hs
  ·by_cases e:s=j
   ·subst e;rw[Zs] at hb;exact hb.elim
   ·by_cases e':s'=j
    ·subst e';rw[Zs] at Uy;exact Uy.elim
    ·rw[Zo s e] at hb;rw[Zo s' e'] at Uy;exact m.ff s s' b hb Uy
 have Gt:∀s,s<j->(DZ Z' s).stage=(DZ Z s).stage:=λ s hs=>by simp only[DZ];rw[Zo s (by omega)]
 have hvc:Vc (j+1) (DZ Z')=Vc j (DZ Z)+1:=by
  show sumTo (j+1) _=_
  have e1:sumTo (j+1) (λ i=>cnt (DZ Z' i))=sumTo j (λ i=>cnt (DZ Z' i))+cnt (DZ Z' j):=rfl
  rw[e1,show cnt (DZ Z' j)=1 by simp only[DZ];rw[Zs];rfl]
  have:sumTo j (λ i=>cnt (DZ Z' i))=Vc j (DZ Z):=sumTo_congr λ i hi=>by simp only[cnt,Gt i hi]
  omega
 have wh:(if j=0 then MT.ad 1 else .w1)≠.st:=by split<;>simp
 have hvl:=Vc_le j (DZ Z)
 have bsize:∀op∈#[op1,op2],∀y,op.act.touch?=ab y->False:=λ op cM y hy=>by
  simp only[db,bF,cf,or_false] at cM
  rcases cM with rfl|rfl
  ·rw[g1.2] at hy;cases hy
  ·rw[g2.2] at hy;cases hy
 refine⟨_,_,_,w,Gu,{ x with T:=if j=0 then .ad 1 else .w1,g:=g',w:=w,WS:=ot },Al,aa,j+1,Z',q,eB,rfl,by rw[gsz];omega,?_,.c rfl cj⟩
 refine⟨?_,(λ e=>by cases e),hB,by rw[dz];exact h.deaf,?_,?_,λ i g hi hn VS=>?_,λ s hs=>?_,λ s hs=>?_,λ s hs=>?_,λ s s' hs hs' he=>?_,λ s y r bl hs hz=>?_,λ s hs hm=>?_,yH,λ b hb=>absurd (h.xs b hb).1 Jr,h.gh,h.gl,?_,?_,λ _=>h.sz Jr,λ _=>?_⟩
 ·rw[bJ,if_neg (by simp;omega),bC]
  simp[h0,blk]
 ·show kOk _ (if j=0 then MT.ad 1 else .w1) x.k
  rw[hvc]
  split
  ·exact X9
  ·show _+1<=x.k
   omega
 ·show jOk (if j=0 then MT.ad 1 else .w1) (j+1)
  split
  ·subst_vars;exact⟨rfl,by omega⟩
  ·show j+1=2
   omega
 ·have fh:i≠gs.size:=λ e=>hn ⟨j,by omega,by rw[Ks];exact e,by rw[Zs];trivial⟩
  rw[zuv i hi fh] at VS
  obtain⟨d,a1,a2⟩:=h.lv i g hi (λ⟨s,b1,b2,b3⟩=>hn ⟨s,by omega,by rw[Ko s (by omega)];exact b2,by rw[Zo s (by omega)];exact b3⟩) VS
  exact⟨d,a1,by rw[dz];exact a2⟩
 ·rw[Zo s (by omega)];exact h.no s (by omega)
 ·by_cases e:s=j
  ·subst e;rw[Zs];exact λ e=>by cases e
  ·rw[Zo s e];exact h.yes s (zlt s hs e)
 ·rw[gsz]
  by_cases e:s=j
  ·subst e;rw[Ks];omega
  ·rw[Ko s e]
   have:=h.kd0 s (zlt s hs e)
   omega
 ·by_cases e:s=j<;>by_cases e':s'=j
  ·omega
  ·subst e
   rw[Ks,Ko s' e'] at he
   have:=(h.kd0 s' (zlt s' hs' e')).2
   omega
  ·subst e'
   rw[Ks,Ko s e] at he
   have:=(h.kd0 s (zlt s hs e)).2
   omega
  ·rw[Ko s e,Ko s' e'] at he
   exact h.SL s s' (zlt s hs e) (zlt s' hs' e') he
 ·by_cases e:s=j
  ·subst e
   rw[Zs] at hz
   cases hz
   rw[Ks,dz]
   exact⟨by rw[bJ,if_pos (by simp)];rfl,(λ e=>by cases e),X5,MY,Nat.succ_ne_zero ρ,.inl rfl⟩
  ·rw[Zo s e] at hz
   obtain⟨a1,a2,a3,a4,a5⟩:=h.wk s y r bl (zlt s hs e) hz
   obtain⟨c1,c2⟩:=h.kd0 s (zlt s hs e)
   rw[Ko s e,dz]
   exact⟨by rw[zuv _ c1 (by omega)];exact a1,a2,a3,a4,a5⟩
 ·by_cases e:s=j
  ·subst e;rw[Zs] at hm;cases hm
  ·rw[Zo s e] at hm ⊢
   obtain⟨⟨r2,c1⟩,c2⟩:=h.rel s (zlt s hs e) hm
   obtain⟨c3,c4⟩:=h.kd0 s (zlt s hs e)
   refine⟨⟨r2,?_⟩,c2⟩
   rw[Ko s e]
   have e1:t++#[op1,op2]=(t++#[op1])++#[op2]:=by rw[Array.append_assoc];rfl
   rw[e1]
   refine xd.appOther (g:=gs.size) (xd.appOther (g:=0) c1 (λ op cM=>?_) (dr c3)) (λ op cM=>?_) (by omega)
   ·simp only[db,bF,cf,or_false] at cM
    subst cM;exact g1.1
   ·simp only[db,bF,cf,or_false] at cM
    subst cM;exact g2.1
 ·refine h.ti.fork g1 g2 (h.deaf.trans hd) MY (λ g l hw=>?_) (λ g l hr=>?_) λ k ⟨s,a1,a2⟩=>⟨s,by omega,by rw[Ko s (by omega)];exact a2⟩
  ·rcases hw with⟨rfl,⟨b,b1,b2⟩|⟨a,b1,b2,b3⟩⟩|⟨s,hs,rfl,hb⟩
   ·exact .inl (.inl ⟨rfl,.inl ⟨b,b1,(h2 b b2).1⟩⟩)
   ·exact .inl (.inl ⟨rfl,.inr ⟨a,b1,b2,bD (br _ (by omega)) b3⟩⟩)
   ·by_cases e:s=j
    ·subst e
     rw[Zs] at hb
     rcases hb with⟨b,b1,b2⟩|⟨a,b1,b2,b3,b4⟩
     ·exact b2.elim
     ·exact .inr ⟨Ks,.inl ⟨rfl,.inr ⟨a,b1,b2,b3⟩⟩⟩
    ·rw[Zo s e] at hb
     exact .inl (.inr ⟨s,zlt s hs e,Ko s e,hb⟩)
  ·rcases hr with⟨rfl,b,b1,b2⟩|⟨s,hs,rfl,b,b1,b2⟩
   ·exact .inr (.inl (.inl ⟨rfl,b,b1,b2⟩))
   ·by_cases e:s=j
    ·subst e
     rw[Zs] at b2
     refine .inr (.inr ⟨Ks,?_⟩)
     rcases h1 b b2 with b3|b3
     ·exact .inl (.inl ⟨rfl,.inl ⟨b,b1,b3⟩⟩)
     ·exact .inr (.inl ⟨rfl,b,b1,b3⟩)
    ·rw[Zo s e] at b2
     exact .inr (.inl (.inr ⟨s,zlt s hs e,Ko s e,b,b1,b2⟩))
 ·refine h.cb.step (aA _) (λ _ _=>rfl) (by rw[gsz];omega) (.refl _) rfl λ op cM=>⟨?_,λ y hy=>(bsize op cM y hy).elim⟩
  simp only[db,bF,cf,or_false] at cM
  rw[gsz]
  rcases cM with rfl|rfl
  ·rw[g1.1];omega
  ·rw[g2.1];omega
 ·refine⟨mu,ms,_,0,ρ,⟨jF.mA,jF.gA,?_,?_,λ s y r bl hs hz hp=>?_⟩,⟨(λ e=>by cases e),λ s y r hs hz=>?_⟩⟩
  ·have e1:Vc j (DZ Z)+pend (nk aa x.T)=Vc (j+1) (DZ Z')+pend (nk aa (if j=0 then MT.ad 1 else .w1)):=by
    rw[hvc,hT]
    have:pend (nk aa (.go j))=1:=rfl
    rw[this]
    split<;>rfl
   rw[e1]
   refine .opn (by split<;>trivial) (λ s hs=>?_) λ vs ev=>by split at ev<;>cases ev
   by_cases e:s=j
   ·subst e;left;simp only[DZ];rw[Zs];rfl
   ·rw[Gt s (zlt s hs e)];exact cM s (zlt s hs e)
  ·have:∀s fX,(Z' s).jV fX=(Z s).jV fX:=λ s fX=>by
    by_cases e:s=j
    ·subst e;rw[Zs,h.no s (aA _)];rfl
    ·rw[Zo s e]
   rw[this,this]
   exact jF.tb
  ·by_cases e:s=j
   ·subst e;rw[Zs] at hz;cases hz;exact Nat.lt_succ_self ρ
   ·rw[Zo s e] at hz;exact jF.kk s y r bl (zlt s hs e) hz hp
  ·by_cases e:s=j
   ·subst e;rw[Zs] at hz;cases hz
   ·rw[Zo s e] at hz;exact ES.hl s y r (zlt s hs e) hz
def zaZ(ph:Ph)(F:Nat->(Nat->Prop)->(Nat->Prop)->ai->Prop)(cF:aB)(csF:List aB)(rc:Rk)(x:Nm)(w:ai):Prop:=
 x.T=.aq/\x.d=0/\∃g',stepG an ae x.g w=.go g' w #[Go.ConcR.mk (.acquire (stA ph.Wg))]/\∀kr jb:Array aj,kr.size=ph.d->jb.size=ph.d->(kr++jb).all pP=ae->Am ph w (kr++jb)->∃r',Rk.lt r' rc/\BhM an ph F cF csF r' { x with T:=.fin kr jb,RS:=λ b=>b=ph.Bo,g:=g',w:=w }
theorem zv1{W:Nat->lj}(h:∀s,W s=.no):(⟨(W 0).jV ae,(W 1).jV aa,⟨0,0,KKi,0⟩⟩:GS)=GS.start:=by rw[h 0,h 1];rfl
theorem zht{T:TypeId}{b:Nat}{w:ai}{cs:Array aj}(h:w.heap[b]?=ab (.cells cs T)):b<w.heap.size:=(ah.1 h).1
theorem znq{Z:Nat->lj}{j:Nat}(h:OpenSt j (DZ Z))(h0:Vc j (DZ Z)=0):AllQuit j (DZ Z):=λ s hs=>by
 have h1:=Go.ConcN.le_sumTo (f:=λ i=>cnt (DZ Z i)) hs
 have h2:cnt (DZ Z s)=0:=by simp only[Vc] at h0;omega
 have h3:=h s hs
 simp only[cnt] at h2
 split at h2<;>omega
theorem RI.ziX(Dy:∀s WS RS w aJ,s<2->gY ph s (λ b=>WS b\/RS b) w aJ->F s WS RS w->F s WS RS aJ)(h:RI ph F cF csF W0 dead n1 R0 wg gr x rc bm j Z q gs w t)(r1:Rk)
  {g:aI} (VS:gs[0]?=ab g) (eB:g.status=.running):GoesM ph F cF csF W0 dead n1 R0 wg r1 (As r1 rc Z (Jw gs q bm Z)) gs w sl t\/(zaZ ph F cF csF rc x w/\bm=aa):=by
 have hj2:=E4 h.jT
 cases bm with
 |true=>
  have hg:=h.main
  rw[hg] at VS
  cases VS
  cases eB
 |false=>
 have u9:=h.mem.u9
 have DC:∀b,ph.sh b->¬x.WS b:=λ b h1 h2=>(h.mem.wm b h2).2.2 h1
 have zzx:∀{w':ai},w'.heap.size=w.heap.size->∀b,x.WS b↔x.WS b\/(w.heap.size<=b/\b<w'.heap.size/\¬ph.sh b):=λ e b=>⟨.inl,λ k=>k.elim id λ z=>by omega⟩
 have hkz:=h.kz
 have Sv:=h.jT
 have law:=(rR h.beh).2 w (Jy.refl _)
 have stp:∀{T':MT} {k':Nat} {g':aI} {w':ai} {es:Array bT} {ex:Nat->Prop} {Al:Rk} {st' sm':Int},x.T≠.st->(∀b,ex b->b=ph.Wg)->VZ an ph ex x.WS x.RS x.g w g' w' es->Rk.lt Al rc->BhM an ph F cF csF Al { x with T:=T',k:=k',g:=g',w:=w',d:=cG x.d es }->
   WgAt ph.tW ph.Wg w' st' sm'->T'≠.st->jOk T' j->kOk (Vc j (DZ Z)) T' k'->Go.ConcN.Mode j (DZ Z) (nk aa T') st' sm'->GoesM ph F cF csF W0 dead n1 R0 wg r1 (As r1 rc Z (Jw gs q aa Z)) gs w sl t:=by
  intro T' k' g' w' es ex Al st' sm' hT hex dz cj hB vm wh hj hk Yf
  obtain⟨mu,ms,st,sm,ρ,jF,ES⟩:=h.sy hT
  have Dz:MuAt ph.tM ph.Mu w' mu ms:=(dz.blk _ λ e=>u9.mw (hex _ e)).trans jF.mA
  refine h.zbc Dy r1 cj (x':={ x with T:=T',k:=k',g:=g',w:=w',d:=cG x.d es }) (acts:=[]) (.inl ⟨rfl,dz.st⟩) (s8 (ex:=ex) dz.blk dz.size dz.os dz.output (λ b e=>.inr (.inl (hex b e))) (λ e=>u9.wb (hex _ e).symm) (λ _=>⟨_,_,Dz⟩) (λ _=>⟨_,_,vm⟩)) hB rfl (zzx dz.size) rfl dz.ev (by simp) (λ e=>absurd e hT) (λ b hb=>absurd (h.xs b hb).1 hT) hj hk (λ _ b hb=>by rw[dz.size];exact h.sz hT b hb) (λ e=>absurd e wh)
   λ _=>⟨mu,ms,st',sm',ρ,⟨Dz,vm,Yf,jF.tb,jF.kk⟩,ES.hl⟩
 cases law with
 |deep hk=>exact absurd hk (Ww h.kz)
 |AM ot g' w' es pL dz hB=>
  obtain⟨r',cj,hB⟩:=hB
  refine .inl (h.zbc Dy r1 cj (x':={ x with WS:=ot,g:=g',w:=w',d:=cG x.d es }) pL.mv (OH pL (aA _) u9 DC) hB rfl pL.ws rfl pL.ev pL.acts dz h.xs Sv hkz (λ hT b hb=>aY (h.sz hT b hb) pL.size) id λ hT=>?_)
  obtain⟨mu,ms,st,sm,ρ,jF,ES⟩:=h.sy hT
  exact⟨mu,ms,st,sm,ρ,⟨(pL.blk _ (h.sz hT _ (.inl rfl)) (DC _ (.inl rfl)) u9.mb).trans jF.mA,(pL.blk _ (h.sz hT _ (.inr (.inl rfl))) (DC _ (.inr (.inl rfl))) u9.wb).trans jF.gA,jF.md,jF.tb,jF.kk⟩,ES.hl⟩
 |est hT hd ot g' w' pL hm hw hb hB=>
  obtain⟨r',cj,hB⟩:=hB
  have hj0:j=0:=by rw[hT] at Sv;exact Sv
  subst hj0
  have hno:∀s,Z s=.no:=λ s=>h.no s (by omega)
  obtain⟨ρ,hρ⟩:=inT_start
  refine .inl (h.zbc Dy r1 cj (x':=⟨.ad 0,x.k,0,ot,x.RS,Yj,g',w'⟩) pL.mv (OH pL (aA _) u9 DC) hB rfl pL.ws (by rw[hd];rfl) pL.ev pL.acts (λ _=>rfl) (λ b hb=>hb.elim) ⟨rfl,by omega⟩ (by rw[hT] at hkz;exact hkz) (λ _ b hb=>?_) (λ e=>by cases e) λ _=>?_)
  ·rcases hb with rfl|rfl|rfl
   ·exact zht hm
   ·exact zht hw
   ·obtain⟨cs,hc,_⟩:=hb
    exact zht hc
  ·refine⟨0,0,0,0,ρ,⟨hm,hw,?_,by rw[zv1 hno];exact hρ,λ s y r bl hs _ _=>by omega⟩,λ s y r hs _=>by omega⟩
   have:=Go.ConcN.Mode.opn (j:=0) (D:=DZ Z) (tag:=.kd) trivial (λ i hi=>by omega) λ vs e=>by cases e
   simpa [Vc,sumTo,pend,nk] using this
 |ad i hT yG=>
  have Jr:x.T≠.st:=by rw[hT];simp
  obtain⟨mu,ms,st,sm,ρ,jF,ES⟩:=h.sy Jr
  obtain⟨cM,V6,V5,_⟩:=jF.md.open_inv (by rw[hT];trivial)
  rw[hT] at Sv hkz
  obtain⟨rfl,hi2⟩:j=i/\i<2:=Sv
  have hV:=Vc_le j (DZ Z)
  subst V6 V5
  have VQ:=jF.gA
  rw[hT,show Vc j (DZ Z)+pend (nk aa (.ad j))=Vc j (DZ Z) from rfl] at VQ
  obtain⟨g',w',es,dz,vm,r',cj,hB⟩:=yG _ (by omega) VQ
  refine .inl (stp Jr (λ b e=>e) dz cj hB vm (by simp) ⟨rfl,hi2⟩ hkz ?_)
  exact .opn trivial cM λ vs e=>by cases e
 |go i hT hi hd g' child RSc ot dz hr h1 h2 hc hB=>
  obtain⟨r',cj,hB⟩:=hB
  exact .inl (h.zrT r1 cj hT hd dz h1 h2 hc hB)
 |w1 hT yG=>
  have Jr:x.T≠.st:=by rw[hT];simp
  obtain⟨mu,ms,st,sm,ρ,jF,ES⟩:=h.sy Jr
  obtain⟨cM,V6,V5,_⟩:=jF.md.open_inv (by rw[hT];trivial)
  rw[hT] at Sv hkz
  have hV:=Vc_le j (DZ Z)
  subst V6 V5
  have VQ:=jF.gA
  rw[hT,show Vc j (DZ Z)+pend (nk aa .w1)=Vc j (DZ Z) from rfl] at VQ
  obtain⟨g',es,dz,r',cj,hB⟩:=yG _ (by omega) VQ
  have rJ:Vc j (DZ Z)+1<=x.k:=hkz
  by_cases hv:Vc j (DZ Z)=0
  ·rw[if_pos hv] at hB
   refine .inl (stp Jr (λ b e=>e.elim) dz cj hB VQ (by simp) Sv (show 1<=x.k by omega) ?_)
   rw[hv,show ((0:Nat):Int)*KK=0 by simp]
   exact Go.ConcN.Mode.fin (j:=j) (D:=DZ Z) (tag:=.acq) trivial (znq cM hv)
  ·rw[if_neg hv] at hB
   refine .inl (stp Jr (λ b e=>e.elim) dz cj hB VQ (by simp) Sv rJ ?_)
   exact .opn trivial cM λ vs e=>by cases e;omega
 |w2 v hT yG=>
  have Jr:x.T≠.st:=by rw[hT];simp
  obtain⟨mu,ms,st,sm,ρ,jF,ES⟩:=h.sy Jr
  obtain⟨cM,V6,V5,yB⟩:=jF.md.open_inv (by rw[hT];trivial)
  obtain⟨hv1,hv2⟩:=yB v (by rw[hT];rfl)
  rw[hT] at Sv hkz
  have hV:=Vc_le j (DZ Z)
  subst V6 V5
  have VQ:=jF.gA
  rw[hT,show Vc j (DZ Z)+pend (nk aa (.w2 v))=Vc j (DZ Z) from rfl] at VQ
  have rJ:v+1<=x.k:=hkz
  by_cases hv:Vc j (DZ Z)=v
  ·obtain⟨g',w',es,dz,vm,r',cj,hB⟩:=(yG _ (by omega) VQ).1 hv
   refine .inl (stp Jr (λ b e=>e) dz cj hB vm (by simp) Sv (show 1<=x.k by omega) ?_)
   exact .reg trivial cM (by omega)
  ·obtain⟨g',es,dz,r',cj,hB⟩:=(yG _ (by omega) VQ).2 hv
   refine .inl (stp Jr (λ b e=>e.elim) dz cj hB VQ (by simp) Sv (show Vc j (DZ Z)+1<=x.k-1 by omega) ?_)
   exact .opn trivial cM λ vs e=>by cases e
 |w3 hT ho OD hl2=>
  have Jr:x.T≠.st:=by rw[hT];simp
  obtain⟨mu,ms,st,sm,ρ,jF,ES⟩:=h.sy Jr
  by_cases hsm:sm=0
  ·subst hsm
   exact .inl (h.zrv r1 hT ho (OD ⟨_,jF.gA⟩) jF ⟨λ e=>(by cases e),ES.hl⟩)
  ·have Yf:=jF.md
   rw[hT] at Yf Sv hkz
   have VQ:=jF.gA
   have hq:st=0/\sm=1/\AllQuit j (DZ Z):=by
    generalize zei:nk aa .w3=tag at Yf
    cases Yf with
    |opn h1 _ _=>exact absurd rfl hsm
    |reg _ _ _=>exact absurd rfl hsm
    |last _ _ _ _ _=>exact absurd rfl hsm
    |sema h2=>exact⟨rfl,rfl,h2⟩
    |fin _ _=>exact absurd rfl hsm
   obtain⟨rfl,rfl,hq⟩:=hq
   obtain⟨g',w',es,dz,vm,r',cj,hB⟩:=hl2 VQ
   exact .inl (stp Jr (λ b e=>e) dz cj hB vm (by simp) Sv hkz (.fin trivial hq))
 |w4 hT yG=>
  have Jr:x.T≠.st:=by rw[hT];simp
  obtain⟨mu,ms,st,sm,ρ,jF,ES⟩:=h.sy Jr
  obtain⟨hq,V6,V5⟩:=jF.md.fin_inv (by rw[hT];trivial)
  rw[hT] at Sv hkz
  subst V6 V5
  obtain⟨g',es,dz,r',cj,hB⟩:=yG jF.gA
  exact .inl (stp Jr (λ b e=>e.elim) dz cj hB jF.gA (by simp) Sv hkz (.fin trivial hq))
 |aq hT hd g' dz hx=>exact .inr ⟨⟨hT,hd,g',dz,hx⟩,rfl⟩
 |fin kr jb hT hd hg=>
  rw[hT] at Sv
  exact Sv.elim
theorem WG{s:Nat}{St:Nat->Prop}(d:Nat):gY ph s St w (w.at d):=⟨aA _,λ _ _=>rfl,id,id,λ cs hc=>⟨cs,hc,rfl⟩⟩
theorem RI.at(Dy:∀s WS RS w aJ,s<2->gY ph s (λ b=>WS b\/RS b) w aJ->F s WS RS w->F s WS RS aJ)(h:RI ph F cF csF W0 dead n1 R0 wg gr x rc bm j Z q gs w t)(d:Nat):RI ph F cF csF W0 dead n1 R0 wg gr x rc bm j Z q gs (w.at d) t:=by
 have hj2:=E4 h.jT
 refine⟨h.main,h.bmo,PD (x:={ x with w:=w }) h.beh ⟨WG d,λ _=>rfl⟩,h.deaf,h.kz,h.jT,h.lv,h.no,h.yes,h.kd0,h.SL,λ s y r bl hs hz=>?_,λ s hs hm=>?_,⟨h.mem.u9,h.mem.shl,h.mem.le,h.mem.wn,h.mem.wm,h.mem.rm,h.mem.wf,h.mem.rf,h.mem.mf,h.mem.ff⟩,h.xs,h.gh.at d,h.gl,h.ti,h.cb.at d,h.sz,λ hT=>?_⟩
 ·obtain⟨a1,a2,a3,a4⟩:=h.wk s y r bl hs hz
  exact⟨a1,a2,WL (x:={ y with w:=w }) a3 (WG d),a4⟩
 ·obtain⟨c1,c2⟩:=h.rel s hs hm
  exact⟨c1,Dy s _ _ _ _ (by omega) (WG d) c2⟩
 ·obtain⟨mu,ms,st,sm,ρ,jF,ES⟩:=h.sy hT
  exact⟨mu,ms,st,sm,ρ,⟨jF.mA,jF.gA,jF.md,jF.tb,jF.kk⟩,ES⟩
theorem RI.Pw(h:RI ph F cF csF W0 dead n1 R0 wg gr x rc bm j Z q gs w t)(r1:Rk){i:Nat}{g:aI}(hi:i≠0)(hn:¬∃s,s<j/\i=gr s/\(Z s).isLive)(hg:gs[i]?=ab g)(hr:g.status=.running):
  ∃m' ops gs' w' Gu x' Al yA j' Z' q',runT an (crowd gs w sl) i=(.next m',ops)/\m'=crowd gs' w' sl/\gs.size<=gs'.size/\RI ph F cF csF W0 dead n1 R0 wg Gu x' Al yA j' Z' q' gs' w' (t++ops)/\Ms.lt (As r1 Al Z' (Jw gs' q' yA Z')) (As r1 rc Z (Jw gs q bm Z)):=by
 have hj2:=E4 h.jT
 obtain⟨d,h1,h2⟩:=h.lv i g hi hn hg
 obtain⟨m,g',es,e1,e2,e3,e4⟩:=Fq h1 hr
 have cj:=(ah.1 hg).1
 have eB:=jN (P:=an) (w:=w) (sl:=sl) (i:=i) (g':=g') (w':=w) (es:=es) hg (by rw[show (i == 0)=aa by simpa using hi];exact e3 w)
 obtain⟨yA,fl,⟨m1,m2,_⟩,hfl⟩:=flags h (xw an g g' w) aa (λ e=>by cases e)
 let Z':Nat->lj:=λ i=>nn (Z i) (fl i)
 have wv:∀op∈cW i g.frame.fn g.frame.place es,op.g=i:=Go.ConcR.g_of_ofEvents
 have Yg:∀op∈cW i g.frame.fn g.frame.place es,op.act.touch?=ak/\∀a,op.act≠.mark (.release a):=λ op cM=>by
  obtain⟨e,he,rfl⟩:=Hl cM
  exact zi (e2 e he)
 have yH:Mem ph W0 n1 x Z' w:=h.mem.zoS (aA _) (λ i=>qN _ _) (λ i=>qO _ _) (λ b hb=>hb) λ b hb=>.inl hb
 have hdz:DZ Z'=DZ Z:=by funext i;simp only[DZ,Z',zz]
 have tH:((gs.map (woken an g g' w)).setIfInBounds i g').size=gs.size:=eW
 have hki:∀s y r bl,s<j->Z s=.live y r bl->gr s≠i:=λ s y r bl hs hz e=>hn ⟨s,hs,e.symm,by rw[hz];trivial⟩
 refine⟨_,_,_,w,gr,x,rc,yA,j,Z',upd q i m,eB,rfl,dh tH.symm,?_,.n rfl rfl (J4 _ _) (J4 _ _) ?_⟩
 ·refine⟨?_,λ e=>h.bmo (m2 e),h.beh,by rw[nC t hi _ wv];exact h.deaf,by rw[hdz];exact h.kz,h.jT,?_,λ i hi=>by show nn (Z i) _=_;rw[h.no i hi];rfl,λ i hi hn=>h.yes i hi ((J5 _ _).1 hn),λ i hi=>by rw[tH];exact h.kd0 i hi,h.SL,λ s y' r' bl hs tn=>?_,λ s hs hm=>?_,yH,h.xs,h.gh,h.gl,?_,?_,h.sz,λ hT=>?_⟩
  ·rw[rU 0 (dr hi),h.main]
   exact congrArg ab m1
  ·have h5:ve an ((gs.map (woken an g g' w)).setIfInBounds i g') t (λ k=>(∃s,s<j/\k=gr s/\(Z s).isLive)\/k=i) q:=(h.lv.sub (λ _ z=>.inl z)).move (xw an g g' w) (.inr (.inr rfl))
   refine(h5.app wv (.inr (.inr rfl))).more (n:=m) (d:=cG d es) hi (λ g1 hg1=>?_) λ k hk=>?_
   ·rw[gX cj] at hg1
    cases hg1
    exact⟨e4,by rw[Deaf_own,h2]⟩
   ·rcases hk with⟨s',a1,a2,a3⟩|hk
    ·exact .inl ⟨s',a1,a2,(vM _ _).2 a3⟩
    ·exact .inr hk
  ·obtain⟨rfl,OC,AL⟩:=nQ tn
   obtain⟨a1,a2,a3,a4,a5,a6⟩:=h.wk s y' r' OC hs AL
   obtain⟨b1,b2,_⟩:=hfl s y' r' OC hs AL
   have fh:=hki s y' r' OC hs AL
   refine⟨?_,λ e=>a2 (b2 e),a3,?_,a5,a6⟩
   ·rw[rU _ fh,a1]
    exact congrArg ab b1
   ·rw[nC t (dr fh) _ wv];exact a4
  ·rw[show (Z' s).DN=(Z s).DN from zy _ _] at hm
   obtain⟨⟨r2,c1⟩,c2⟩:=h.rel s hs hm
   refine⟨⟨r2,c1.app λ k hk hg hI=>?_⟩,?_⟩
   ·obtain⟨y,hy,_⟩:=hI
    obtain⟨op,ho,hya⟩:=touch_of hy
    rcases getElem?_append_cases ho with⟨hl,_⟩|⟨_,hu⟩
    ·omega
    ·rw[(Yg op hu).1] at hya;cases hya
   ·rw[show (Z' s).ws=(Z s).ws from qO _ _,show (Z' s).rs=(Z s).rs from qN _ _]
    exact c2
  ·have e1:WR ph j gr x Z'=WR ph j gr x Z:=by
    funext g l
    simp only[WR,Z',qO]
   have e2:RR j gr x Z'=RR j gr x Z:=by
    funext g l
    simp only[RR,Z',qN]
   rw[e1,e2]
   exact h.ti.app0 wv Yg
  ·refine h.cb.step (aA _) (λ _ _=>rfl) (dh tH.symm) (.refl _) rfl λ op cM=>⟨by rw[wv op cM,tH];exact cj,λ y hy=>by rw[(Yg op cM).1] at hy;cases hy⟩
  ·obtain⟨mu,ms,st,sm,ρ,Ar,ES⟩:=h.sy hT
   refine⟨mu,ms,st,sm,ρ,⟨Ar.mA,Ar.gA,by rw[hdz];exact Ar.md,?_,λ i y' r' bl hi tn hp=>?_⟩,⟨λ e=>ES.hm (m2 e),λ i y' r' hi tn=>?_⟩⟩
   ·rw[show (Z' 0).jV ae=(Z 0).jV ae from ui _ _ _,show (Z' 1).jV aa=(Z 1).jV aa from ui _ _ _];exact Ar.tb
   ·obtain⟨_,OC,AL⟩:=nQ tn
    exact Ar.kk i y' r' OC hi AL hp
   ·obtain⟨VP,OC,AL⟩:=nQ tn
    have X5:OC=ae:=(hfl i y' r' OC hi AL).2.1 VP.symm
    subst X5
    exact ES.hl i y' r' hi AL
 ·show Jw _ (upd q i m) yA Z'<Jw gs q bm Z
  unfold Jw
  rw[tH]
  have:=WW (q:=q) cj e1
  have b1:zga yA<=1:=by cases yA<;>simp[zga]
  have b2:∀z:lj,z.bit<=1:=λ z=>by
   cases z with
   |live y r b=>cases b<;>simp[lj.bit]
   |_=>simp[lj.bit]
  have:=b2 (Z' 0)
  have:=b2 (Z' 1)
  omega
theorem RI.awake(h:RI ph F cF csF W0 dead n1 R0 wg gr x rc bm j Z q gs w t):∀g∈gs,Go.Conc.awake g:=by
 intro o ho d
 obtain⟨i,hi⟩:=dX.1 ho
 have hb:∀(b:Bool) (g:aI),g.status=.running->(blk b g).status≠.sleeping d:=λ b g hg=>by rw[zbr hg];split<;>simp
 by_cases e0:i=0
 ·subst e0
  rw[h.main] at hi
  cases hi
  exact hb _ _ h.zrk
 ·by_cases hlv:∃s,s<j/\i=gr s/\(Z s).isLive
  ·obtain⟨s',h1,rfl,h3⟩:=hlv
   cases SC:Z s' with
   |live y' r' bl'=>
    obtain⟨a1,_,a3,_,a4,_⟩:=h.wk s' y' r' bl' h1 SC
    rw[a1] at hi
    cases hi
    exact hb _ _ ((yU a3).1 a4)
   |no=>rw[SC] at h3;exact h3.elim
   |gone a b=>rw[SC] at h3;exact h3.elim
  ·obtain⟨d',h1,_⟩:=h.lv i o e0 hlv hi
   rcases h1.status with e|e<;>rw[e]<;>simp
theorem RI.znE(h:RI ph F cF csF W0 dead n1 R0 wg gr x rc bm j Z q gs w t):∃(i:Nat) (g:aI),gs[i]?=ab g/\g.status=.running:=by
 cases bm with
 |false=>exact⟨0,x.g,h.main,h.zrk⟩
 |true=>
 have hT:=(h.bmo rfl).1
 have Jr:x.T≠.st:=by rw[hT];simp
 obtain⟨mu,ms,st,sm,ρ,jF,ES⟩:=h.sy Jr
 have hj:j=2:=by have:=h.jT;rw[hT] at this;exact this
 subst hj
 have runs:∀{s y r},s<2->Z s=.live y r aa->∃(i:Nat) (g:aI),gs[i]?=ab g/\g.status=.running:=λ {s y r} hs hz=>by
  obtain⟨a1,_,a3,_,a4,_⟩:=h.wk s y r aa hs hz
  exact⟨gr s,y.g,a1,(yU a3).1 a4⟩
 have zup:∀{s y r},s<2->Z s=.live y r ae->y.T.pc=.s1/\wy y.T.pc=ae/\mv (s == 0) y.T ⟨mu,ms,KKi,0⟩=[]/\ms=0:=λ {s y r} hs hz=>by
  obtain⟨b1,b2⟩:=ES.hl s y r hs hz
  have b3:=mv_nil b1 b2
  refine⟨b3,b1,b2,?_⟩
  simp only[mv,b3] at b2
  split at b2
  ·assumption
  ·cases b2
 have Yf:=jF.md
 have hsm:=ES.hm rfl
 rw[hT] at Yf
 subst hsm
 generalize zei:nk aa .w3=tag at Yf
 have hex:∃s,s<2/\(DZ Z s).stage≠1/\(DZ Z s).stage≠0:=by
  generalize hv:(0:Int)=v0 at Yf
  cases Yf with
  |opn h1 _ _=>subst zei;exact h1.elim
  |reg _ h2 h3=>
   have:cnt (DZ Z 0)+cnt (DZ Z 1)=Vc 2 (DZ Z):=by simp only[Vc,sumTo];omega
   by_cases c:cnt (DZ Z 0)=0
   ·refine⟨1,by omega,?_⟩
    have h4:cnt (DZ Z 1)≠0:=by omega
    simp only[cnt] at h4
    split at h4<;>omega
   ·refine⟨0,by omega,?_⟩
    simp only[cnt] at c
    split at c<;>omega
  |last L _ h2 h3 h4=>exact⟨L,h2,by omega,by omega⟩
  |sema _=>cases hv
  |fin h1 _=>subst zei;exact h1.elim
 obtain⟨s,hs,hs1,hs0⟩:=hex
 cases hz:Z s with
 |no=>exact absurd (by simp only[DZ,hz];rfl) hs0
 |gone A B=>exact absurd (by simp only[DZ,hz];rfl) hs1
 |live y r bl=>
  cases bl with
  |false=>exact runs hs hz
  |true=>
   obtain⟨p1,p2,p3,p4⟩:=zup hs hz
   have hso:∃o,o<2/\o≠s/\(o == 0)=!(s == 0):=by
    have:s=0\/s=1:=by omega
    rcases this with rfl|rfl
    ·exact⟨1,by omega,by omega,rfl⟩
    ·exact⟨0,by omega,by omega,rfl⟩
   obtain⟨o,ho,fh,zq9⟩:=hso
   have hts:(Z s).jV (s == 0)=y.T:=by rw[hz,Bd,if_pos p2]
   have key:(Z o).jV (o == 0)=Wv (o == 0)->False:=λ hg=>by
    have h3:=zm4 jF.tb
    simp only[GS.ok3,p4] at h3
    have:s=0\/s=1:=by omega
    rcases this with rfl|rfl
    ·have:o=1:=by omega
     subst this
     have e1:(Z 0).jV ae=y.T:=hts
     have e2:(Z 1).jV aa=at_ .wr:=hg
     rw[e1,e2,p1] at h3
     simp[at_] at h3
    ·have:o=0:=by omega
     subst this
     have e1:(Z 1).jV aa=y.T:=hts
     have e2:(Z 0).jV ae=at_ .kd:=hg
     rw[e1,e2,p1] at h3
     simp[at_] at h3
   cases hzo:Z o with
   |no=>exact absurd hzo (h.yes o ho)
   |gone A B=>exact(key (by rw[hzo];rfl)).elim
   |live y2 r2 b2=>
    cases b2 with
    |false=>exact runs ho hzo
    |true=>
     obtain⟨q1,q2,q3,q4⟩:=zup ho hzo
     have hto:(Z o).jV (o == 0)=y2.T:=by rw[hzo,Bd,if_pos q2]
     exfalso
     have zcX:=jF.tb.facts.live
     have:s=0\/s=1:=by omega
     rcases this with rfl|rfl
     ·have:o=1:=by omega
      subst this
      have e1:(Z 0).jV ae=y.T:=hts
      have e2:(Z 1).jV aa=y2.T:=hto
      have p3':mv ae y.T ⟨mu,ms,KKi,0⟩=[]:=p3
      have q3':mv aa y2.T ⟨mu,ms,KKi,0⟩=[]:=q3
      rw[e1,e2] at zcX
      rcases zcX with hl|hl
      ·have:y.T.pc=.ret:=hl
       rw[p1] at this;cases this
      ·apply hl
       simp only[GS.succs,p3',q3']
       simp
     ·have:o=0:=by omega
      subst this
      have e1:(Z 1).jV aa=y.T:=hts
      have e2:(Z 0).jV ae=y2.T:=hto
      have p3':mv aa y.T ⟨mu,ms,KKi,0⟩=[]:=p3
      have q3':mv ae y2.T ⟨mu,ms,KKi,0⟩=[]:=q3
      rw[e1,e2] at zcX
      rcases zcX with hl|hl
      ·have:y2.T.pc=.ret:=hl
       rw[q1] at this;cases this
      ·apply hl
       simp only[GS.succs,p3',q3']
       simp
theorem RI.step(Dy:∀s WS RS w aJ,s<2->gY ph s (λ b=>WS b\/RS b) w aJ->F s WS RS w->F s WS RS aJ)(h:RI ph F cF csF W0 dead n1 R0 wg gr x rc bm j Z q gs w t)(r1:Rk):
  (∃m' ops gs' w' DF Gu x' Al yA j' Z' q',stepT an (crowd gs w sl)=(.next m',ops)/\m'=crowd gs' w' DF/\gs.size<=gs'.size/\RI ph F cF csF W0 dead n1 R0 wg Gu x' Al yA j' Z' q' gs' w' (t++ops)/\Ms.lt (As r1 Al Z' (Jw gs' q' yA Z')) (As r1 rc Z (Jw gs q bm Z)))\/
   (bm=aa/\∃d DF,stepT an (crowd gs w sl)=runT an (crowd gs (w.at d) DF) 0/\RI ph F cF csF W0 dead n1 R0 wg gr x rc aa j Z q gs (w.at d) t/\zaZ ph F cF csF rc x (w.at d)):=by
 obtain⟨i,g,d,DF,hg,hr,hs⟩:=crowd_pick (P:=an) (w:=w) (sl:=sl) h.awake h.znE
 have h':=h.at Dy d
 rw[hs]
 by_cases e0:i=0
 ·subst e0
  rcases h'.ziX Dy (sl:=DF) r1 hg hr with⟨m',ops,gs',w',Gu,x',Al,yA,j',Z',q',a1,a2,a3,a4,a5⟩|⟨a1,rfl⟩
  ·exact .inl ⟨m',ops,gs',w',DF,Gu,x',Al,yA,j',Z',q',a1,a2,a3,a4,a5⟩
  ·exact .inr ⟨rfl,d,DF,rfl,h',a1⟩
 ·left
  by_cases hlv:∃s,s<j/\i=gr s/\(Z s).isLive
  ·obtain⟨s,h1,rfl,h3⟩:=hlv
   cases hz:Z s with
   |live y r bl=>
    obtain⟨m',ops,gs',w',yA,Z',q',a1,a2,a3,a4,a5⟩:=h'.workerStep Dy (sl:=DF) r1 h1 hz hg hr
    exact⟨m',ops,gs',w',DF,gr,x,rc,yA,j,Z',q',a1,a2,dh a3.symm,a4,a5⟩
   |no=>rw[hz] at h3;exact h3.elim
   |gone a b=>rw[hz] at h3;exact h3.elim
  ·obtain⟨m',ops,gs',w',Gu,x',Al,yA,j',Z',q',a1,a2,a3,a4,a5⟩:=h'.Pw (sl:=DF) r1 e0 hlv hg hr
   exact⟨m',ops,gs',w',DF,Gu,x',Al,yA,j',Z',q',a1,a2,a3,a4,a5⟩
end
section
variable{N:aG}{fA fB:aB}{w0:ai}{R0:BR}{WSA WSB:Nat->Prop}{vA vB:aj}{W:ai}
theorem zrK(hA:Gr N fA w0 R0 WSA vA W)(hB:Gr N fB w0 R0 WSB vB W)(hk:tG w0)(hd:∀b,WSA b->¬WSB b)(h0:∀b,(∃a l,R0 a b l)->¬WSA b/\¬WSB b):
  ∃v1 wA v2 w1 R',VY N fA w0 v1 wA/\VY N fB wA v2 w1/\VR R' v1 vA/\VR R' v2 vB/\HR R' w1 W/\R0.le R'/\(∀a b l,R' a b l->R0 a b l\/WSA b\/WSB b)/\∀a,a<w0.heap.size->w1.heap[a]?=w0.heap[a]?:=by
 obtain⟨v1,wA,RA,a1,a2,a3,a4,a5,a6,a7⟩:=hA.ext w0 ⟨λ _ _ h=>h,hk⟩
 obtain⟨v2,w1,RB,b1,b2,b3,b4,b5,b6,b7⟩:=hB.ext wA ⟨λ a o h=>(a6 a (ah.1 h).1).trans h,a3.kinds⟩
 have leA:RA.le λ a b l=>RA a b l\/RB a b l:=λ _ _ _ h=>.inl h
 have leB:RB.le λ a b l=>RA a b l\/RB a b l:=λ _ _ _ h=>.inr h
 have fz1:∀a,Fz wA a->Fz w1 a:=λ a hz=>by
  obtain⟨c,e,f,h1,h2⟩:=hz
  exact⟨c,e,f,(b6 a (ah.1 h1).1).trans h1,h2⟩
 have inA:∀a a' b b' l m,RA a a' l->RA b b' m->(a=b->a'=b')/\(a'=b'->a=b\/(Fz w1 a/\Fz w1 b)):=λ a a' b b' l m hr hs=>
  ⟨(a3.inj a a' b b' l m hr hs).1,λ e=>((a3.inj a a' b b' l m hr hs).2 e).imp id λ z=>⟨fz1 _ z.1,fz1 _ z.2⟩⟩
 have zoL:∀a a' b b' l m,RA a a' l->RB b b' m->(a=b->a'=b')/\(a'=b'->a=b\/(Fz w1 a/\Fz w1 b)):=λ a a' b b' l m hr hs=>by
  rcases b4 b b' m hs with h|⟨h1,h2⟩
  ·exact inA a a' b b' l m hr (a5 _ _ _ h)
  ·rcases a4 a a' l hr with k|⟨k1,k2⟩
   ·exact b3.inj a a' b b' l m (b5 _ _ _ k) hs
   ·have:=(a3.lt hr).1
    exact⟨λ e=>by omega,λ e=>absurd (e▸h2) (hd _ k2)⟩
 refine⟨v1,wA,v2,w1,λ a b l=>RA a b l\/RB a b l,a1,b1,a2.mono leA,b2.mono leB,⟨λ a a' b b' l m hr hs=>?_,λ a a' l hr=>?_,b3.kinds⟩,λ _ _ _ h=>.inl (a5 _ _ _ h),λ a b l hr=>?_,λ a ha=>(b6 a (aY ha a7)).trans (a6 a ha)⟩
 ·rcases hr with hr|hr<;>rcases hs with hs|hs
  ·exact inA _ _ _ _ _ _ hr hs
  ·exact zoL _ _ _ _ _ _ hr hs
  ·have:=zoL _ _ _ _ _ _ hs hr
   exact⟨λ e=>(this.1 e.symm).symm,λ e=>(this.2 e.symm).imp Eq.symm And.symm⟩
  ·exact b3.inj _ _ _ _ _ _ hr hs
 ·rcases hr with hr|hr
  ·obtain⟨o,o',h1,h2,h3⟩:=a3.obj _ _ _ hr
   exact⟨o,o',(b6 a (a3.lt hr).1).trans h1,h2,h3.mono leA⟩
  ·obtain⟨o,o',h1,h2,h3⟩:=b3.obj _ _ _ hr
   exact⟨o,o',h1,h2,h3.mono leB⟩
 ·rcases hr with hr|hr
  ·exact(a4 a b l hr).imp id λ h=>.inl h.2
  ·exact(b4 a b l hr).imp id λ h=>.inr h.2
theorem zpU{R:BR}{v x y:aj}{cs:Array aj}(h:VR R v (.tuple #[.agg cs,x,y])):∃cs1 x1 y1,v=.tuple #[.agg cs1,x1,y1]/\AV R cs1 cs:=by
 cases h with
 |@tuple z _ hz hv=>
  have h3:z.size=3:=by simpa using hz
  obtain⟨l⟩:=z
  match l,h3 with
  |[a,b,c],_=>
  have ha:=hv 0 a (.agg cs) rfl rfl
  cases ha with
  |@agg cs1 _ hc hcv=>exact⟨cs1,b,c,rfl,⟨hc,hcv⟩⟩
end
structure FA(N:aG)(Fin:aj->ai->Prop)(W0:ai)(r1 rk:Rk)(ph:Ph)(F:Nat->(Nat->Prop)->(Nat->Prop)->ai->Prop)(cF:aB)(csF:List aB)(dead:Nat->Prop)(x:Nm)(rc:Rk)(kr jb:Array aj)(q:Nat->Nat)(gs:Array aI)(w:ai)(t:pk)(fr:aB)(L:List aB)(wg:ai)(R:BR):Prop where
 main:gs[0]?=ab x.g
 T:x.T=.fin kr jb
 kz:x.k≠0
 beh:BhM an ph F cF csF rc { x with w:=w }
 deaf:Deaf t 0=x.d
 lv:ve an gs t (λ _=>False) q
 cb:CB W0 dead gs w t
 tree:xh N (lN N) Fin rk fr L wg
 lt:Rk.lt rk r1
 f:yC N R fr (cF.finish (.agg (kr++jb)))
 l:LA N R L csF
 h:HR R wg w
 rn:∀a b l,R a b l->¬dead b/\(b<W0.heap.size->Fz wg a)/\¬x.WS b/\¬ph.sh b
 wm:∀b,x.WS b->¬dead b/\W0.heap.size<=b/\b<w.heap.size/\¬ph.sh b
 u9:ph.Ok
 bo:¬dead ph.Bo
 rs:x.RS=λ b=>b=ph.Bo
 xs:∀b,¬x.XS b
 shd:∀b,b=ph.Mu\/b=ph.Wg->dead b
 sz:∀b,ph.sh b->b<w.heap.size/\W0.heap.size<=b
 ti:TI (ShL ph) (DdL dead) (λ _=>False) (LK dead) onL t
section
variable{N:aG}{Fin:aj->ai->Prop}{W0:ai}{r1 rk:Rk}{ph:Ph}{F:Nat->(Nat->Prop)->(Nat->Prop)->ai->Prop}{cF:aB}{csF:List aB}{dead:Nat->Prop}{x:Nm}{rc:Rk}{kr jb:Array aj}{q:Nat->Nat}{gs:Array aI}{w w':ai}{t:pk}{fr:aB}{L:List aB}{wg:ai}{R:BR}{sl:Option (Nat×Nat)}
theorem FA.at(h:FA N Fin W0 r1 rk ph F cF csF dead x rc kr jb q gs w t fr L wg R)(d:Nat):FA N Fin W0 r1 rk ph F cF csF dead x rc kr jb q gs (w.at d) t fr L wg R:=
 ⟨h.main,h.T,h.kz,PD (x:={ x with w:=w }) h.beh ⟨WG d,λ _=>rfl⟩,h.deaf,h.lv,h.cb.at d,h.tree,h.lt,h.f,h.l,h.h.at d,h.rn,h.wm,h.u9,h.bo,h.rs,h.xs,h.shd,h.sz,h.ti⟩
theorem FA.zuW(h:FA N Fin W0 r1 rk ph F cF csF dead x rc kr jb q gs w t fr L wg R)(hd:x.d=0)(hg:x.g=G (cF.finish (.agg (kr++jb))) csF):
  PA N Fin W0 rk q dead gs w t fr L wg (cF.finish (.agg (kr++jb))) csF R:=
 ⟨hg▸h.main,h.tree,h.f,h.l,h.h,λ a b l r=>⟨(h.rn a b l r).1,(h.rn a b l r).2.1⟩,h.deaf.trans hd,h.lv,h.cb,h.ti.WE (λ _ _ k=>.inl k) (λ _ _ k=>.inr (.inl k)) (λ _ k=>k.elim) (λ _ k=>k) (λ _ k=>k)⟩
theorem FA.excl(h:FA N Fin W0 r1 rk ph F cF csF dead x rc kr jb q gs w t fr L wg R):zms (ShL ph) (LK dead) onL:=
 ⟨λ _ _ _ h k=>h.1.trans k.1.symm,λ _ _ _ _ k=>k.elim,λ _ _ a ⟨b,b1,b2⟩=>a.2 ⟨b,b1,h.shd b b2⟩,λ _ _ k=>k.elim⟩
theorem FA.free(h:FA N Fin W0 r1 rk ph F cF csF dead x rc kr jb q gs w t fr L wg R):∀o∈gs,o.status≠.blocked\/o.offers=ak:=by
 intro o ho
 obtain⟨i,hi⟩:=dX.1 ho
 by_cases e:i=0
 ·subst e
  rw[h.main] at hi
  cases hi
  exact .inl (by rw[(rR h.beh).1 h.kz];decide)
 ·obtain⟨d,h1,_⟩:=h.lv i o e id hi
  rcases h1.status with e|e<;>exact .inl (by rw[e];decide)
theorem FA.awake(h:FA N Fin W0 r1 rk ph F cF csF dead x rc kr jb q gs w t fr L wg R):∀g∈gs,Go.Conc.awake g:=by
 intro o ho d
 obtain⟨i,hi⟩:=dX.1 ho
 by_cases e:i=0
 ·subst e
  rw[h.main] at hi
  cases hi
  rw[(rR h.beh).1 h.kz];simp
 ·obtain⟨d',h1,_⟩:=h.lv i o e id hi
  rcases h1.status with e|e<;>rw[e]<;>simp
theorem FA.next(h:FA N Fin W0 r1 rk ph F cF csF dead x rc kr jb q gs w t fr L wg R):
  (x.d=0/\x.g=G (cF.finish (.agg (kr++jb))) csF)\/
  ∃m' ops gs' w' x' Al,runT an (crowd gs w sl) 0=(.next m',ops)/\m'=crowd gs' w' sl/\gs'.size=gs.size/\Rk.lt Al rc/\FA N Fin W0 r1 rk ph F cF csF dead x' Al kr jb q gs' w' (t++ops) fr L wg R:=by
 have u9:=h.u9
 have DC:∀b,ph.sh b->¬x.WS b:=λ b h1 h2=>(h.wm b h2).2.2.2 h1
 have law:=(rR h.beh).2 w (Jy.refl _)
 have hT:=h.T
 cases law with
 |deep hk=>exact absurd hk h.kz
 |AM ot g' w' es pL dz hB=>
  right
  obtain⟨r',cj,hB⟩:=hB
  have he:=OH pL (aA _) u9 DC
  have h0:0<gs.size:=(ah.1 h.main).1
  obtain⟨f,hf,_,eB⟩:=OU (sl:=sl) (i:=0) h.main h.free pL.mv
  have nd:∀b,w.heap.size<=b->¬dead b:=λ b hb hd=>by have:=(h.cb.dlt b hd).1;omega
  have wm':∀b,ot b->¬dead b/\W0.heap.size<=b/\b<w'.heap.size/\¬ph.sh b:=λ b hb=>by
   rcases (pL.ws b).1 hb with h1|⟨h1,h2,h3⟩
   ·obtain⟨a1,a2,a3,a4⟩:=h.wm b h1
    exact⟨a1,a2,aY a3 he.size,a4⟩
   ·exact⟨nd b h1,bD h.cb.size h1,h2,h3⟩
  obtain⟨o1,o2,o3⟩:=zhZ (ph:=ph) (w':=w') (g:=x.g) (Wx:=LK dead) (Rx:=λ g l=>LK dead g l) pL.ev pL.acts
   (λ l b h1 h2=>⟨rfl,λ⟨b',k1,k2⟩=>by rw[h1] at k1;cases k1;exact(wm' b h2).1 k2⟩)
   (λ l b h1 h2=>⟨rfl,λ⟨b',k1,k2⟩=>by
    rw[h1] at k1;cases k1
    change x.RS b at h2
    rw[h.rs] at h2
    subst h2
    exact h.bo k2⟩)
   (λ l ⟨a,h1,h2,_⟩=>⟨rfl,λ⟨b',k1,k2⟩=>by subst h1;cases k1;rw[h2] at k2;exact h.bo k2⟩)
   (λ e AI b hb=>by
    rcases hb with hb|hb|hb
    ·exact(wm' b hb).2.2.1
    ·change x.RS b at hb
     rw[h.rs] at hb
     subst hb
     exact aY (h.sz _ (.inr (.inr rfl))).1 he.size
    ·exact aY (h.sz b hb).1 he.size)
  have o2':∀op∈opsOf 0 x.g es [],OkT (ShL ph) (LK dead) onL 0 op:=λ op cM=>by
   obtain⟨a1,a2,a3⟩:=o2 op cM
   refine⟨a1,a2,λ y hy=>?_⟩
   rcases a3 y hy with k|k|k
   ·exact .inl k
   ·exact .inr (.inl k)
   ·exact .inr (.inl k.1)
  refine⟨_,_,_,w',{ x with WS:=ot,g:=g',w:=w',d:=cG x.d es },r',eB,rfl,eW,cj,gX h0,hT,h.kz,hB,by rw[Hb pL.acts,h.deaf],(h.lv.move hf (.inl rfl)).app o1 (.inl rfl),?_,h.tree,h.lt,h.f,h.l,?_,λ a b l r=>?_,wm',u9,h.bo,h.rs,h.xs,h.shd,λ b hb=>⟨aY (h.sz b hb).1 he.size,(h.sz b hb).2⟩,h.ti.app h.excl (.inl rfl) o2'⟩
  ·refine h.cb.step he.size (λ b hb=>?_) (dh eW.symm) he.os he.output λ op cM=>⟨by rw[o1 op cM,eW];exact h0,o3 op cM⟩
   exact he.blk b (aY hb h.cb.size) (λ k=>by have:=(h.wm b k).2.1;omega) λ k=>by have:=(h.sz b k).2;omega
  ·refine h.h.right λ a b l r=>?_
   obtain⟨_,_,a3,a4⟩:=h.rn a b l r
   exact he.blk b (h.h.lt r).2 a3 a4
  ·obtain⟨a1,a2,a3,a4⟩:=h.rn a b l r
   refine⟨a1,a2,λ k=>?_,a4⟩
   rcases (pL.ws b).1 k with k|⟨k,_⟩
   ·exact a3 k
   ·have:=(h.h.lt r).2
    omega
 |fin An Ao wh hd hg=>
  left
  rw[hT] at wh
  cases wh
  exact⟨hd,hg⟩
 |est wh=>rw[hT] at wh;cases wh
 |ad i wh=>rw[hT] at wh;cases wh
 |go i wh=>rw[hT] at wh;cases wh
 |w1 wh=>rw[hT] at wh;cases wh
 |w2 v wh=>rw[hT] at wh;cases wh
 |w3 wh=>rw[hT] at wh;cases wh
 |w4 wh=>rw[hT] at wh;cases wh
 |aq wh=>rw[hT] at wh;cases wh
theorem FA.Pw(h:FA N Fin W0 r1 rk ph F cF csF dead x rc kr jb q gs w t fr L wg R){i:Nat}{g:aI}(hi:i≠0)(hg:gs[i]?=ab g)(hr:g.status=.running):
  ∃m' ops gs' q',runT an (crowd gs w sl) i=(.next m',ops)/\m'=crowd gs' w sl/\gs'.size=gs.size/\FA N Fin W0 r1 rk ph F cF csF dead x rc kr jb q' gs' w (t++ops) fr L wg R/\left gs.size q'<left gs.size q:=by
 obtain⟨d,h1,h2⟩:=h.lv i g hi id hg
 obtain⟨m,g',es,e1,e2,e3,e4⟩:=Fq h1 hr
 have cj:=(ah.1 hg).1
 have eB:=jN (P:=an) (w:=w) (sl:=sl) (i:=i) (g':=g') (w':=w) (es:=es) hg (by rw[show (i == 0)=aa by simpa using hi];exact e3 w)
 have hwk:=xw an g g' w
 have wv:∀op∈cW i g.frame.fn g.frame.place es,op.g=i:=Go.ConcR.g_of_ofEvents
 have Yg:∀op∈cW i g.frame.fn g.frame.place es,op.act.touch?=ak/\∀a,op.act≠.mark (.release a):=λ op cM=>by
  obtain⟨e,he,rfl⟩:=Hl cM
  exact zi (e2 e he)
 have hm0:(woken an g g' w) x.g=x.g:=by
  rcases hwk x.g with e|e
  ·exact e
  ·rw[e];exact again_running _ (.inl ((rR h.beh).1 h.kz))
 refine⟨_,_,_,upd q i m,eB,rfl,eW,⟨?_,h.T,h.kz,h.beh,?_,?_,?_,h.tree,h.lt,h.f,h.l,h.h,h.rn,h.wm,h.u9,h.bo,h.rs,h.xs,h.shd,h.sz,h.ti.app0 wv Yg⟩,by have:=WW (q:=q) cj e1;omega⟩
 ·rw[rU 0 (dr hi),h.main]
  exact congrArg ab hm0
 ·rw[nC t hi _ wv];exact h.deaf
 ·have h5:ve an ((gs.map (woken an g g' w)).setIfInBounds i g') t (λ j=>j=i) q:=(h.lv.sub (λ _ x=>x.elim)).move hwk (.inr rfl)
  refine(h5.app wv (.inr rfl)).more (Lv':=λ _=>False) (n:=m) (d:=cG d es) hi (λ g1 hg1=>?_) (λ j hj=>.inr hj)
  rw[gX cj] at hg1
  cases hg1
  exact⟨e4,by rw[Deaf_own,h2]⟩
 ·refine h.cb.step (aA _) (λ _ _=>rfl) (dh eW.symm) (.refl _) rfl λ op cM=>⟨by rw[wv op cM,eW];exact cj,λ y hy=>by rw[(Yg op cM).1] at hy;cases hy⟩
end
def zoD(N:aG)(fr:aB)(w:ai)(kr jb:Array aj)(fr1:aB)(w1:ai):Prop:=
 ∃T d Jq x1 y1 wA csQ x2 y2,VY N (dsF N kr) (World.on w T d) (.tuple #[.agg Jq,x1,y1]) wA/\VY N (dsF N jb) wA (.tuple #[.agg csQ,x2,y2]) w1/\Jq.size=22/\csQ.size=22/\fr1=fr.finish (.agg (Jq++csQ))
structure Cx(N:aG)(Fin:aj->ai->Prop)(W0:ai)(r1:Rk)(ph:Ph)(cF:aB)(csF:List aB)(dead:Nat->Prop)(n1:Nat)(R0:BR)(wg:ai)(fr:aB)(L:List aB)(kr jb:Array aj):Prop where
 d22:ph.d=22
 f:yC N R0 fr cF
 l:LA N R0 L csF
 rn:∀a b l,R0 a b l->¬dead b/\(b<W0.heap.size->Fz wg a)
 dd:∀b,dead b->b<n1
 nx:∀fr1 w1,zoD N fr wg kr jb fr1 w1->Rel N ⟨fr1,L,w1⟩->∃rk,Rk.lt rk r1/\xh N (lN N) Fin rk fr1 L w1
theorem ziB{ph:Ph}{cs:Array aj}(h:cs.size=2*ph.d):half ph 0 cs++half ph 1 cs=cs:=by
 apply fj
 unfold half
 simp only[dw,cD,bI,Nat.zero_mul,Nat.one_mul,Nat.zero_add,fL,jH]
 rw[show ph.d+ph.d-ph.d=ph.d by omega,bq (l:=List.drop _ _) (by simp;omega),dH]
theorem zvv{ph:Ph}{w:ai}{cs kT:Array aj}(h:Am ph w cs)(k:Am ph w kT):kT=cs:=by
 have:=h.1.symm.trans k.1
 simp only[aF,Obj.cells.injEq] at this
 exact this.1.symm
theorem zcb{z:lj}(h:z.stage=1):∃A B,z=.gone A B:=by
 cases z with
 |no=>cases h
 |gone A B=>exact⟨A,B,rfl⟩
 |live y r b=>
  simp only[lj.stage] at h
  split at h<;>cases h
section
variable{N:aG}{Fin:aj->ai->Prop}{W0:ai}{r1 rk:Rk}{ph:Ph}{cF:aB}{csF:List aB}{dead:Nat->Prop}{n1:Nat}{R0:BR}{wg:ai}{gr:Nat->Nat}{x:Nm}{rc:Rk}{kr jb:Array aj}{j:Nat}{Z:Nat->lj}{q:Nat->Nat}{gs:Array aI}{w w':ai}{t:pk}{fr:aB}{L:List aB}{sl:Option (Nat×Nat)}
theorem RI.join(c:Cx N Fin W0 r1 ph cF csF dead n1 R0 wg fr L kr jb)(h:RI ph (F2 N wg R0 ph kr jb) cF csF W0 dead n1 R0 wg gr x rc aa j Z q gs w t)(ha:zaZ ph (F2 N wg R0 ph kr jb) cF csF rc x w):
  ∃m' ops gs' x' Al OY Jq rk bx wN R',runT an (crowd gs w sl) 0=(.next m',ops)/\m'=crowd gs' w sl/\gs'.size=gs.size/\Rk.lt Al rc/\
   FA N Fin W0 r1 rk ph (F2 N wg R0 ph kr jb) cF csF (AS ph dead) x' Al OY Jq q gs' w (t++ops) bx L wN R':=by
 obtain⟨hT,hd,g',dz,hx⟩:=ha
 have Jr:x.T≠.st:=by rw[hT];simp
 have hj:j=2:=by have:=h.jT;rw[hT] at this;exact this
 subst hj
 obtain⟨mu,ms,st,sm,ρ,jF,_⟩:=h.sy Jr
 obtain⟨hq,_,_⟩:=jF.md.fin_inv (by rw[hT];trivial)
 have zoW:∀s,s<2->∃A B,Z s=.gone A B:=λ s hs=>zcb (hq s hs)
 have hrel:∀s,s<2->(∃r,xd (DdL (AS ph dead)) (stA ph.Wg) t (gr s) r)/\F2 N wg R0 ph kr jb s (Z s).ws (Z s).rs w:=λ s hs=>h.rel s hs (by obtain⟨A,B,e⟩:=zoW s hs;rw[e];rfl)
 obtain⟨OY,xO,yO,GA,a1,a2,a3,⟨a4,a4'⟩,cs,a5,a6⟩:=(hrel 0 (by omega)).2
 obtain⟨Jq,xP,yP,GB,b1,b2,b3,⟨b4,b4'⟩,kT,b5,b6⟩:=(hrel 1 (by omega)).2
 obtain rfl:=zvv a5 b5
 have hcs:OY++Jq=kT:=by rw[<-a6,<-b6];exact ziB a5.2
 have m:=h.mem
 have u9:=m.u9
 obtain⟨v1,wA,v2,w1,R',p1,p2,p3,p4,p5,p6,p7,p8⟩:=zrK a3 b3 h.gh.kinds (λ b k1 k2=>absurd (m.ff 0 1 b (a1 b k1) (b1 b k2)) (by decide)) (λ b ⟨a,l,r⟩=>by
  have hl:=h.gl a b l r
  exact⟨λ k=>by have:=(m.wf 0 b (a1 b k)).1;omega,λ k=>by have:=(m.wf 1 b (b1 b k)).1;omega⟩)
 obtain⟨cs1,x1,y1,rfl,q1⟩:=zpU p3
 obtain⟨cs2,x2,y2,rfl,q2⟩:=zpU p4
 obtain⟨Al,cj,hB⟩:=hx OY Jq (by rw[c.d22];exact a4) (by rw[c.d22];exact b4) (by rw[Array.all_append,a4',b4'];rfl) (by rw[hcs];exact a5)
 have zyY:zoD N fr wg kr jb (fr.finish (.agg (cs1++cs2))) w1:=⟨wg.tape,wg.drawn,cs1,x1,y1,wA,cs2,x2,y2,p1,p2,q1.size.trans a4,q2.size.trans b4,rfl⟩
 have Cr:yC N R' (fr.finish (.agg (cs1++cs2))) (cF.finish (.agg (OY++Jq))):=(c.f.mono p6).finish (by
  have:=q1.app q2
  exact .agg this.size this.at_)
 obtain⟨rk,hrk,zvM⟩:=c.nx _ _ zyY ⟨R',_,csF,w,Cr,c.l.mono p6,p5⟩
 have hg:gs[0]?=ab x.g:=h.main
 have h0:0<gs.size:=(ah.1 hg).1
 have eB:=jN (P:=an) (sl:=sl) (i:=0) (w:=w) hg dz
 have hwk:=xw an x.g g' w
 have wv:cW 0 x.g.frame.fn x.g.frame.place #[Go.ConcR.mk (.acquire (stA ph.Wg))]=#[{ g:=0,fn:=x.g.frame.fn,pos:=x.g.frame.place,act:=.mark (.acquire (stA ph.Wg)) }]:=by
  rw[ofEvents_eq];simp[aP,Go.ConcR.mk]
 have rI:Deaf (t++cW 0 x.g.frame.fn x.g.frame.place #[Go.ConcR.mk (.acquire (stA ph.Wg))]) 0=x.d:=by
  rw[Deaf_own,h.deaf,hd]
  rfl
 rw[wv] at eB rI
 have zzg:∀i,¬∃s,s<2/\i=gr s/\(Z s).isLive:=λ i ⟨s,k1,_,k3⟩=>by
  obtain⟨A,B,e⟩:=zoW s k1
  rw[e] at k3
  exact k3
 have hlv:ve an ((gs.map (woken an x.g g' w)).setIfInBounds 0 g') t (λ _=>False) q:=λ i g k1 k2 k3=>(h.lv.move hwk (.inl rfl)) i g k1 (zzg i) k3
 have ndd:∀b,n1<=b->¬ph.sh b->¬AS ph dead b:=λ b k1 k2 k3=>by
  rcases k3 with k3|k3|k3
  ·have:=c.dd b k3;omega
  ·exact k2 (.inl k3)
  ·exact k2 (.inr (.inl k3))
 have hle:=m.le
 have hwn:=m.wn
 have hcb:=h.cb.step (u:=#[{ g:=0,fn:=x.g.frame.fn,pos:=x.g.frame.place,act:=.mark (.acquire (stA ph.Wg)) }]) (gs':=(gs.map (woken an x.g g' w)).setIfInBounds 0 g') (aA _) (λ _ _=>rfl) (dh eW.symm) (.refl _) rfl λ op cM=>by
  simp only[db,bF,cf,or_false] at cM
  subst cM
  exact⟨by rw[eW];exact h0,λ y hy=>by cases hy⟩
 refine⟨_,_,_,{ x with T:=.fin OY Jq,RS:=λ b=>b=ph.Bo,g:=g',w:=w },Al,OY,Jq,rk,_,w1,R',eB,rfl,eW,cj,gX h0,rfl,Ww h.kz,hB,rI,hlv.app (k:=0) (λ op cM=>?_) (.inl rfl),⟨hcb.old,hcb.size,hcb.bnd,λ b hb=>?_,hcb.ids,hcb.os,hcb.output⟩,zvM,hrk,Cr,c.l.mono p6,p5,λ a b l r=>?_,λ b hb=>?_,u9,λ hb=>?_,rfl,λ b hb=>Jr (h.xs b hb).1,λ b hb=>.inr hb,λ b hb=>⟨h.sz Jr b hb,bD hwn (m.shl b hb)⟩,?_⟩
 ·simp only[db,bF,cf,or_false] at cM
  subst cM
  rfl
 ·rcases hb with hb|hb|hb
  ·exact hcb.dlt b hb
  ·exact⟨h.sz Jr b (.inl hb),bD hwn (m.shl b (.inl hb))⟩
  ·exact⟨h.sz Jr b (.inr (.inl hb)),bD hwn (m.shl b (.inr (.inl hb)))⟩
 ·have new:∀s,(Z s).ws b->¬AS ph dead b/\(b<W0.heap.size->Fz w1 a)/\¬x.WS b/\¬ph.sh b:=λ s k=>by
   obtain⟨k1,k2,k3⟩:=m.wf s b k
   exact⟨ndd b k1 k3,λ hb=>by omega,λ hb=>m.mf s b hb k,k3⟩
  rcases p7 a b l r with k|k|k
  ·have hb:=h.gl a b l k
   obtain⟨k1,k2⟩:=c.rn a b l k
   have nsh:¬ph.sh b:=λ e=>by have:=m.shl b e;omega
   refine⟨λ e=>?_,λ e=>?_,λ e=>by have:=(m.wm b e).1;omega,nsh⟩
   ·rcases e with e|e|e
    ·exact k1 e
    ·exact nsh (.inl e)
    ·exact nsh (.inr (.inl e))
   ·obtain⟨c1,e1,f1,g1,g2⟩:=k2 e
    exact⟨c1,e1,f1,(p8 a (h.gh.lt k).1).trans g1,g2⟩
  ·exact new 0 (a1 b k)
  ·exact new 1 (b1 b k)
 ·obtain⟨k1,k2,k3⟩:=m.wm b hb
  exact⟨ndd b k1 k3,by omega,k2,k3⟩
 ·have hbs:=m.shl ph.Bo (.inr (.inr rfl))
  rcases hb with hb|hb|hb
  ·have:=c.dd _ hb;omega
  ·exact u9.mb hb.symm
  ·exact u9.wb hb.symm
 ·exact h.ti.join ⟨rfl,rfl⟩ (h.deaf.trans hd) (λ k ⟨s,k1,k2⟩=>by rw[k2];exact(hrel s k1).1) (λ g l k=>k) (λ g l k=>k.elim) (λ l k=>k) (λ l k=>k)
end
theorem zvA{fr:aB}(h:fr.mode=.run)(h2:fr.roundOf=ak):fr.at ⟨fr.tmps,fr.defers⟩ fr.todo=fr:=by
 cases fr
 simp only at h h2
 subst h h2
 rfl
theorem YU{R:BR}{a b c:Array aj}(h:AV R (a++b) c)(ha:a.size=22)(hb:b.size=22):∃a' b',c=a'++b'/\AV R a a'/\AV R b b'/\a'.size=22/\b'.size=22:=by
 have hs:c.size=44:=by rw[<-h.size];simp[ha,hb]
 refine⟨c.extract 0 22,c.extract 22 44,?_,⟨by simp[ha,hs],λ i v v' h1 h2=>?_⟩,⟨by simp[hb,hs],λ i v v' h1 h2=>?_⟩,by simp[hs],by simp[hs]⟩
 ·apply fj
  simp only[dw,cD,bI,fL,jH]
  rw[show 44-22=22 from rfl,bq (l:=List.drop _ _) (by simp;omega),dH]
 ·have hi:i<22:=by rw[<-ha];exact(ah.1 h1).1
  refine h.at_ i v v' ?_ ?_
  ·rw[kl,if_pos (by omega)];exact h1
  ·rw[qm,if_pos (by omega)] at h2
   simpa using h2
 ·have hi:i<22:=by rw[<-hb];exact(ah.1 h1).1
  refine h.at_ (22+i) v v' ?_ ?_
  ·rw[kl,if_neg (by omega),show 22+i-a.size=i by omega];exact h1
  ·rw[qm,if_pos (by omega)] at h2
   exact h2
theorem zdd{R:BR}{a b:Array aj}(h:AV R a b)(ha:a.all pP=ae):b.all pP=ae:=by
 rw[Array.all_eq_true_iff_forall_mem] at ha ⊢
 intro u hu
 obtain⟨i,hi⟩:=dX.1 hu
 have cj:i<a.size:=by rw[h.size];exact(ah.1 hi).1
 rw[zdQ (h.at_ i a[i] u (Array.getElem?_eq_getElem cj) hi)]
 exact ha _ (Array.getElem_mem cj)
section
variable{N:aG}{Fin:aj->ai->Prop}{W0:ai}{rk r1:Rk}{q:Nat->Nat}{dead:Nat->Prop}{gs:Array aI}{w w':ai}{t u:pk}{fr:aB}{L:List aB}{wg:ai}{bx:aB}{L':List aB}{R:BR}{sl:Option (Nat×Nat)}
theorem PA.ask(g:PG N an)(gp:GP N)(hf:∃fn,N.funcs[17]?=ab fn/\fn.body.isSome=ae)(h:PA N Fin W0 rk q dead gs w t fr L wg bx L' R){S:aB->ai->Prop}(ha:lN N fr wg S)
  (hk:∀fr1 w1,S fr1 w1->Rel N ⟨fr1,L,w1⟩->∃rk,Rk.lt rk r1/\xh N (lN N) Fin rk fr1 L w1):
  ∃m' ops gs' x rc kr jb,runT an (crowd gs w sl) 0=(.next m',ops)/\m'=crowd gs' w sl/\Cx N Fin W0 r1 (dx w.heap.size) bx L' dead w.heap.size R wg fr L kr jb/\
   RI (dx w.heap.size) (F2 N wg R (dx w.heap.size) kr jb) bx L' W0 dead w.heap.size R wg (λ _=>0) x rc aa 0 (λ _=>.no) q gs' w (t++ops):=by
 obtain⟨b,a,opr,i,rest,kk,o,x,qv,kr,jb,h1,h2,h3,h4,h5,h6,⟨h7,h8,h9,vc⟩,Ju,Yd,h13,h14,h15⟩:=ha
 have hm':bx.mode=.run:=by rw[h.f.mode,h1];rfl
 have ht':bx.todo=.inRegion opr (i::rest)::kk:=by rw[h.f.todo,h1];rfl
 have iZ:=zvA hm' h.f.tO
 rw[ht'] at iZ
 have hv:=h.f.eval h5
 rw[h1,DW,h6] at hv
 obtain⟨kT,zy4,hav⟩:∃kT,bx.eval x=.agg kT/\AV R (kr++jb) kT:=by
  generalize bx.eval x=u at hv
  cases hv with
  |agg hc hcv=>exact⟨_,rfl,⟨hc,hcv⟩⟩
 obtain⟨An,Ao,rfl,hA,hB,hzA,hzB⟩:=YU hav h7 h8
 have hw3:Region.wanted o (yielded opr bx.tmps)=ae:=by
  rw[h.f.tmps.yielded opr,h1]
  exact h3
 have dz:=xK (P:=an) (main:=ae) (b:=bx) (a:=⟨bx.tmps,bx.defers⟩) (rest:=rest) (kk:=kk) (cs:=L') (w:=w) h2 hw3 (by rw[h.f.zP];simp) h4 Tryz.func38 rfl rfl
 rw[iZ] at dz
 have zyZ:(#[x].map (Act.eval ⟨bx.tmps,bx.defers⟩))=#[.agg (An++Ao)]:=by
  have e1:Act.eval ⟨bx.tmps,bx.defers⟩ x=.agg (An++Ao):=by
   rw[<-zy4,<-DW bx ⟨bx.tmps,bx.defers⟩ bx.todo,ht',iZ]
  rw[<-e1]
  simp
 rw[zyZ] at dz
 have eB:=jN (P:=an) (sl:=sl) (i:=0) (w:=w) h.main dz
 rw[rH] at eB
 obtain⟨rc,zqZ⟩:=zai (cF:=bx) (csF:=L') (W:=w) g gp hf h13 h14 h.h hA hB Ju Yd hzA hzB (zdd hA h9) (zdd hB vc) 5
 have h0:0<gs.size:=(ah.1 h.main).1
 have hwk:=xw an (G bx L') (G (aU an 38 #[.agg (An++Ao)] .normal) (bx::L')) w
 have new:∀{l:Loc} {b:Nat},vj l=ab b->w.heap.size<=b->∀i y,touchAt t i=ab y->y.loc≠l:=λ h1 h2 i y hy e=>by
  have:=h.cb.bnd i y hy _ (e▸h1)
  omega
 refine⟨_,_,_,⟨.st,5,0,λ _=>False,λ b=>∃a l,R a b l,(dx w.heap.size).sh,G (aU an 38 #[.agg (An++Ao)] .normal) (bx::L'),w⟩,rc,kr,jb,eB,rfl,⟨rfl,h.f,h.l,h.rn,λ b hb=>(h.cb.dlt b hb).1,λ fr1 w1 hs hr=>hk fr1 w1 (by rw[h15];exact hs) hr⟩,gX h0,(λ e=>by cases e),zqZ,by rw[iJ];exact h.deaf,show 3<=5 by omega,rfl,?_,λ _ _=>rfl,λ s hs=>absurd hs (by omega),λ s hs=>absurd hs (by omega),λ s s' hs=>absurd hs (by omega),λ s y r bl hs=>absurd hs (by omega),λ s hs=>absurd hs (by omega),
  ⟨CE _,λ b hb=>by have:=E8.1 hb;omega,aA _,h.cb.size,λ b hb=>hb.elim,λ b ⟨a,l,r⟩=>(h.h.lt r).2,λ s b hb=>hb.elim,λ s b hb=>hb.elim,λ s b hb=>hb.elim,λ s s' b hb=>hb.elim⟩,λ b hb=>⟨rfl,hb⟩,h.h,λ a b l r=>(h.h.lt r).2,?_,?_,λ e=>absurd rfl e,λ e=>absurd rfl e⟩
 ·rw[iJ]
  exact(h.lv.move hwk (.inl rfl)).sub λ i k=>k.elim
 ·rw[iJ]
  refine h.ti.WE (λ g l hw=>?_) (λ g l hr=>?_) (λ l ⟨b,k1,k2⟩=>.inr (new k1 ?_)) (λ l ⟨b,k1,k2⟩=>⟨b,k1,.inl k2⟩) (λ k hk=>hk.elim)
  ·rcases hw with⟨rfl,⟨b,k1,k2⟩|⟨a,k1,k2,_⟩⟩|⟨s,hs,_⟩
   ·exact k2.elim
   ·refine .inr (new (b:=a.block) (by rw[k1];rfl) ?_)
    rw[k2]
    show _<=w.heap.size+4
    omega
   ·omega
  ·rcases hr with⟨rfl,b,k1,a,l',k2⟩|⟨s,hs,_⟩
   ·refine .inl ⟨rfl,λ⟨b',k3,k4⟩=>?_⟩
    rw[k1] at k3
    cases k3
    exact(h.rn a b l' k2).1 k4
   ·omega
  ·have:ShL (dx w.heap.size) l:=⟨b,k1,k2⟩
   have:=E8.1 (show (dx w.heap.size).sh b from k2.elim .inl λ e=>.inr (.inl e))
   omega
 ·rw[iJ]
  exact⟨h.cb.old,h.cb.size,h.cb.bnd,h.cb.dlt,λ i op hi=>by rw[eW];exact h.cb.ids i op hi,h.cb.os,h.cb.output⟩
end
end Rn
namespace Rn
open Go Go.Conc Go.ConcM
section
variable(N:aG)(Fin:aj->ai->Prop)(W0:ai)
inductive Co:Ms->Machine->pk->Prop
 |pa {rk:Rk} {q:Nat->Nat} {dead:Nat->Prop} {gs:Array aI} {w:ai} {sl:Option (Nat×Nat)} {t:pk} {fr:aB} {L:List aB} {wg:ai} {bx:aB} {L':List aB} {R:BR}
   (h:PA N Fin W0 rk q dead gs w t fr L wg bx L' R):Co ⟨rk,Rk.bot,Rk.bot,Rk.bot,left gs.size q⟩ (crowd gs w sl) t
 |ri {r1 rc:Rk} {n1:Nat} {cF:aB} {csF:List aB} {dead:Nat->Prop} {R0:BR} {wg:ai} {fr:aB} {L:List aB} {kr jb:Array aj} {gr:Nat->Nat} {x:Nm} {bm:Bool} {j:Nat} {Z:Nat->lj} {q:Nat->Nat} {gs:Array aI} {w:ai} {sl:Option (Nat×Nat)} {t:pk}
   (c:Cx N Fin W0 r1 (dx n1) cF csF dead n1 R0 wg fr L kr jb) (h:RI (dx n1) (F2 N wg R0 (dx n1) kr jb) cF csF W0 dead n1 R0 wg gr x rc bm j Z q gs w t):Co (As r1 rc Z (Jw gs q bm Z)) (crowd gs w sl) t
 |fa {r1 rc rk:Rk} {ph:Ph} {F:Nat->(Nat->Prop)->(Nat->Prop)->ai->Prop} {cF:aB} {csF:List aB} {dead:Nat->Prop} {x:Nm} {kr jb:Array aj} {q:Nat->Nat} {gs:Array aI} {w:ai} {sl:Option (Nat×Nat)} {t:pk} {fr:aB} {L:List aB} {wg:ai} {R:BR}
   (h:FA N Fin W0 r1 rk ph F cF csF dead x rc kr jb q gs w t fr L wg R):Co ⟨r1,rc,Rk.bot,Rk.bot,left gs.size q⟩ (crowd gs w sl) t
def zyE(μ:Ms)(m:Machine)(t:pk):Prop:=
 (∃o w ops,stepT an m=(.ended o w,ops)/\tq an (YA Fin W0) m o w (t++ops))\/∃m' ops μ',stepT an m=(.next m',ops)/\(Ms.lt μ' μ\/∃ν,Ms.lt μ' ν/\Ms.lt ν μ)/\Co N Fin W0 μ' m' (t++ops)
end
section
variable{N:aG}{Fin:aj->ai->Prop}{W0:ai}
theorem PA.awake{rk:Rk}{q:Nat->Nat}{dead:Nat->Prop}{gs:Array aI}{w:ai}{t:pk}{fr:aB}{L:List aB}{wg:ai}{bx:aB}{L':List aB}{R:BR}(h:PA N Fin W0 rk q dead gs w t fr L wg bx L' R):∀g∈gs,Go.Conc.awake g:=by
 intro o ho d
 obtain⟨i,hi⟩:=dX.1 ho
 by_cases e:i=0
 ·subst e
  rw[h.main] at hi
  cases hi
  simp[G]
 ·obtain⟨d',h1,_⟩:=h.lv i o e id hi
  rcases h1.status with e|e<;>rw[e]<;>simp
theorem PA.step(g:PG N an)(gp:GP N)(hf:∃fn,N.funcs[17]?=ab fn/\fn.body.isSome=ae)(AI:∀f fn,N.funcs[f]?=ab fn->fn.body.isSome=ae->an.inits.idxOf? f=ak)
  {rk:Rk} {q:Nat->Nat} {dead:Nat->Prop} {gs:Array aI} {w:ai} {sl:Option (Nat×Nat)} {t:pk} {fr:aB} {L:List aB} {wg:ai} {bx:aB} {L':List aB} {R:BR} (h:PA N Fin W0 rk q dead gs w t fr L wg bx L' R):
  (∃o w' ops,stepT an (crowd gs w sl)=(.ended o w',ops)/\tq an (YA Fin W0) (crowd gs w sl) o w' (t++ops))\/∃m' ops μ',stepT an (crowd gs w sl)=(.next m',ops)/\Ms.lt μ' ⟨rk,Rk.bot,Rk.bot,Rk.bot,left gs.size q⟩/\Co N Fin W0 μ' m' (t++ops):=by
 obtain⟨i,g1,d,DF,hg,hr,hs⟩:=crowd_pick (P:=an) (w:=w) (sl:=sl) h.awake ⟨0,_,h.main,rfl⟩
 have h':=h.at d
 rw[hs]
 by_cases e0:i=0
 ·subst e0
  have ht:=h'.tree
  cases ht with
  |mk ρ ok lt nx=>
   rcases ok (w.at d).tape (w.at d).drawn with⟨v,w1,es,e1,e2⟩|⟨fr1,L1,w1,es,acts,e1⟩
   ·obtain⟨o,W',ops,a1,a2⟩:=h'.fin (sl:=DF) g gp AI e1 e2 (crowd gs w sl) ⟨rfl,rfl⟩
    exact .inl ⟨o,W',ops,a1,a2⟩
   ·obtain⟨m',ops,a1,gs',W',AO,Yc,R',rfl,a3,a4⟩:=h'.next (sl:=DF) g gp e1 (nx _ _ _ _ _ _ _ e1)
    exact .inr ⟨_,ops,_,a1,.m (lt _ _ _),.pa a4⟩
  |@ask _ r1 _ _ _ S hO h1 ρ lt k=>
   obtain⟨m',ops,gs',x,rc,kr,jb,a1,rfl,a3,a4⟩:=h'.ask (sl:=DF) (r1:=r1) g gp hf hO λ fr1 w1 hS hR=>⟨ρ fr1 w1,lt fr1 w1,k fr1 w1 hS hR⟩
   exact .inr ⟨_,ops,_,a1,.m h1,.ri (n1:=(w.at d).heap.size) a3 a4⟩
 ·obtain⟨m',ops,q',a1,⟨gs',rfl,a3,a4⟩,a5⟩:=h'.Pw (sl:=DF) e0 hg hr
  refine .inr ⟨_,ops,_,a1,?_,.pa a4⟩
  exact .n rfl rfl rfl rfl (by show left gs'.size q'<_;rw[a3];exact a5)
theorem zmP(g:PG N an)(gp:GP N)(hf:∃fn,N.funcs[17]?=ab fn/\fn.body.isSome=ae)(AI:∀f fn,N.funcs[f]?=ab fn->fn.body.isSome=ae->an.inits.idxOf? f=ak)
  {μ:Ms} {m:Machine} {t:pk} (h:Co N Fin W0 μ m t):zyE N Fin W0 μ m t:=by
 cases h with
 |pa h=>
  rcases h.step g gp hf AI with h1|⟨m',ops,μ',a1,a2,a3⟩
  ·exact .inl h1
  ·exact .inr ⟨m',ops,μ',a1,.inl a2,a3⟩
 |@ri r1 rc n1 cF csF dead R0 wg fr L kr jb gr x bm j Z q gs w sl t c h=>
  have Dy:∀s WS RS w aJ,s<2->gY (dx n1) s (λ b=>WS b\/RS b) w aJ->F2 N wg R0 (dx n1) kr jb s WS RS w->F2 N wg R0 (dx n1) kr jb s WS RS aJ:=λ s WS RS w aJ _ r h=>WT r h
  rcases h.step (sl:=sl) Dy r1 with⟨m',ops,gs',w',DF,Gu,x',Al,yA,j',Z',q',a1,rfl,_,a4,a5⟩|⟨rfl,d,DF,hs,h',ha⟩
  ·exact .inr ⟨_,ops,_,a1,.inl a5,.ri c a4⟩
  ·obtain⟨m',ops,gs',x',Al,OY,Jq,rk,bx,wN,R',a1,rfl,a3,a4,a5⟩:=h'.join (sl:=DF) c ha
   refine .inr ⟨_,ops,_,hs.trans a1,?_,.fa a5⟩
   exact .inl (.c rfl a4)
 |@fa r1 rc rk ph F cF csF dead x kr jb q gs w sl t fr L wg R h=>
  have eB:x.g.status=.running:=(rR h.beh).1 h.kz
  obtain⟨i,g1,d,DF,hg,hr,hs⟩:=crowd_pick (P:=an) (w:=w) (sl:=sl) h.awake ⟨0,_,h.main,eB⟩
  rcases h.next (sl:=sl) with⟨hd,hx⟩|_
  ·rcases (h.zuW hd hx).step (sl:=sl) g gp hf AI with h1|⟨m',ops,μ',a1,a2,a3⟩
   ·exact .inl h1
   ·exact .inr ⟨m',ops,μ',a1,.inr ⟨_,a2,.m h.lt⟩,a3⟩
  ·have h':=h.at d
   by_cases e0:i=0
   ·subst e0
    rcases h'.next (sl:=DF) with⟨hd,hx⟩|⟨m',ops,gs',w',x',Al,a1,rfl,a3,a4,a5⟩
    ·rcases (h.zuW hd hx).step (sl:=sl) g gp hf AI with h1|⟨m',ops,μ',a1,a2,a3⟩
     ·exact .inl h1
     ·exact .inr ⟨m',ops,μ',a1,.inr ⟨_,a2,.m h.lt⟩,a3⟩
    ·refine .inr ⟨_,ops,_,hs.trans a1,?_,.fa a5⟩
     exact .inl (.c rfl a4)
   ·obtain⟨m',ops,gs',q',a1,rfl,a3,a4,a5⟩:=h'.Pw (sl:=DF) e0 hg hr
    refine .inr ⟨_,ops,_,hs.trans a1,?_,.fa a4⟩
    exact .inl (.n rfl rfl rfl rfl (by show left gs'.size q'<_;rw[a3];exact a5))
def Ms.lt2(x y:Ms):Prop:=Ms.lt x y\/∃ν,Ms.lt x ν/\Ms.lt ν y
theorem Ms.zyL(x:Ms):Acc Ms.lt2 x:=by
 have key:∀x,Acc Ms.lt x->Acc Ms.lt2 x/\∀y,Ms.lt y x->Acc Ms.lt2 y:=by
  intro x hx
  induction hx with
  |intro x _ ih=>
   refine⟨⟨_,λ y hy=>?_⟩,λ y hy=>(ih y hy).1⟩
   rcases hy with hy|⟨ν,h1,h2⟩
   ·exact(ih y hy).1
   ·exact(ih ν h2).2 y h1
 exact(key x (Ms.acc x)).1
theorem zrA(g:PG N an)(gp:GP N)(hf:∃fn,N.funcs[17]?=ab fn/\fn.body.isSome=ae)(AI:∀f fn,N.funcs[f]?=ab fn->fn.body.isSome=ae->an.inits.idxOf? f=ak):
  ∀μ m t,Co N Fin W0 μ m t->∃n last o w t',runNT an (n+1) m t=(.ended o w,t')/\runN an n m=.next last/\Go.step an last=.ended o w/\tq an (YA Fin W0) last o w t':=by
 intro μ
 induction Ms.zyL μ with
 |intro μ zDV ih=>
  intro m t hI
  rcases zmP g gp hf AI hI with⟨o,w,ops,hs,hq⟩|⟨m',ops,μ',hs,hr,nX⟩
  ·exact⟨0,m,o,w,t++ops,by simp[runNT,hs],rfl,by simp[Go.step,hs],hq⟩
  ·obtain⟨n,last,o,w,t',h1,h2,h3,h4⟩:=ih μ' hr m' (t++ops) nX
   exact⟨n+1,last,o,w,t',by rw[Go.runNT_succ_next hs];exact h1,by rw[Go.runN_succ_next hs];exact h2,h3,h4⟩
end
theorem zdr(W:ai):HR (UH W) (VJ W) W:=by
 refine⟨λ a a' b b' l m h1 h2=>⟨λ e=>h1.1▸h2.1▸e,λ e=>.inl (by rw[h1.1,h2.1];exact e)⟩,λ a b l hr=>?_,JZ W⟩
 obtain⟨rfl,rfl,c,e,f,h1⟩:=hr
 refine⟨_,_,xp h1,h1,.cells (.inl ⟨rfl,rfl⟩) (PU c) (λ i v v' _ a b=>?_) (.inr λ i hi=>⟨bw _,hi⟩)⟩
 rw[(CF a).1] at b
 cases b
 exact G0 (CF a).2
theorem zsj{Sh Dd:Loc->Prop}{Wk:Nat->Prop}{W Rr:Nat->Loc->Prop}:TI Sh Dd Wk W Rr #[]:=by
 have no:∀i,touchAt #[] i=ak:=λ i=>rfl
 refine⟨λ i op x ho=>(by simp at ho),λ g l _ i a ha=>(by rw[no] at ha;cases ha),λ g l _ i a ha=>(by rw[no] at ha;cases ha),λ said ⟨i,k,_,⟨a,b,h,_⟩,_⟩=>(by cases h),λ i ⟨x,hx,_⟩=>(by rw[no] at hx;cases hx),λ i a ho=>(by cases ho)⟩
section
variable{N:aG}{Fin:aj->ai->Prop}{W:ai}
end
open Go.RowKit
section
variable{N:aG}{Fin:aj->ai->Prop}{W:ai}
theorem zeW(g:PG N an)(gp:GP N){f:FuncId}{args xs:Array aj}{wg:ai}{R:BR}{rk:Rk}(hf:∃fn,N.funcs[f]?=ab fn/\fn.body.isSome=ae)(ha:AV R xs args)(hh:HR R wg W)(hz:∀a b l,R a b l->Fz wg a)(ht:xh N (lN N) Fin rk (aU N f xs .normal) [] wg):
  PA N Fin W rk (λ _=>0) (λ _=>False) #[G (aU an f args .normal) []] W #[] (aU N f xs .normal) [] wg (aU an f args .normal) [] R:=by
 refine⟨rfl,ht,px g gp hf ha,trivial,hh,λ a b l r=>⟨id,λ _=>hz a b l r⟩,rfl,λ i g h0 _ hg=>?_,⟨λ _ _=>rfl,aA _,λ i x hx=>(by cases hx),λ b hb=>hb.elim,λ i op hi=>(by simp at hi),.refl _,rfl⟩,zsj⟩
 rw[Array.getElem?_eq_none (by simp;omega)] at hg
 cases hg
theorem XH(g:PG N an)(gp:GP N)(hds:∃fn,N.funcs[17]?=ab fn/\fn.body.isSome=ae)(AI:∀f fn,N.funcs[f]?=ab fn->fn.body.isSome=ae->an.inits.idxOf? f=ak)
  {f:FuncId} {args xs:Array aj} {wg:ai} {R:BR} (hf:∃fn,N.funcs[f]?=ab fn/\fn.body.isSome=ae) (ha:AV R xs args) (hh:HR R wg W) (hz:∀a b l,R a b l->Fz wg a) (ht:Tree N (lN N) Fin (aU N f xs .normal) [] wg):
  ∃M last o w' t',runNT an (M+1) (solo (G (aU an f args .normal) []) W) #[]=(.ended o w',t')/\runN an M (solo (G (aU an f args .normal) []) W)=.next last/\Go.step an last=.ended o w'/\tq an (YA Fin W) last o w' t':=by
 obtain⟨rk,hr⟩:=zak ht
 exact zrA g gp hds AI _ _ _ (Co.pa (sl:=ak) (zeW g gp hf ha hh hz hr))
end
def SU(x:cr×List aj):Nat:=if x.2.isEmpty then 0 else x.1.off
def zrj(x:cr×List aj):Obj:=.cells (List.replicate (SU x) (Value.bool aa)++x.2).toArray sF (0,SU x+x.2.length)
def yK(W:ai)(E:List (cr×List aj)):ai:={ W with heap:=(E.map zrj).toArray }
def Pt(E:List (cr×List aj)):BR:=λ a b l=>∃x,E[a]?=ab x/\b=x.1.block/\l=x.1.off+1
def zcR(W:ai)(x:cr×List aj):Prop:=∃c e f,W.heap[x.1.block]?=ab (.cells c e f)/\∀(i:Nat) (v:aj),x.2[i]?=ab v->c[x.1.off+i]?=ab v/\vp v=ae
theorem Hg(W:ai)(E:List (cr×List aj))(a:Nat):(yK W E).heap[a]?=(E[a]?).map zrj:=by simp[yK]
variable{W:ai}{E:List (cr×List aj)}
theorem PK{a b l:Nat}(h:Pt E a b l):Fz (yK W E) a:=by
 obtain⟨x,h1,_⟩:=h
 exact⟨_,_,_,by rw[Hg,h1];rfl,λ i hi=>⟨bw _,by simpa using hi⟩⟩
theorem ziw(hE:∀x∈E,zcR W x):HR (Pt E) (yK W E) W:=by
 refine⟨λ a a' b b' l m h1 h2=>⟨λ e=>?_,λ _=>.inr ⟨PK h1,PK h2⟩⟩,λ a b l h=>?_,λ b o h=>?_⟩
 ·obtain⟨x,e1,rfl,_⟩:=h1
  obtain⟨y,e2,rfl,_⟩:=h2
  subst e
  rw[e1] at e2
  cases e2
  rfl
 ·obtain⟨x,e1,rfl,rfl⟩:=h
  obtain⟨c,e,f,k1,k3⟩:=hE x (List.mem_of_getElem? e1)
  have hsz:SU x+x.2.length<=c.size:=by
   unfold SU
   cases hx:x.2 with
   |nil=>simp
   |cons v r=>
    have hl:=k3 r.length ((v::r)[r.length]'(by simp)) (by rw[hx];exact List.getElem?_eq_getElem (by simp))
    have:=(ah.1 hl.1).1
    simp
    omega
  refine⟨_,_,by rw[Hg,e1];rfl,k1,.cells (.inr ⟨rfl,by omega⟩) (by simpa using hsz) (λ i v v' hi hv Js=>?_) (.inr λ i hi=>⟨bw _,by simpa using hi⟩)⟩
  have X8:x.1.off<=i:=by omega
  simp only[List.getElem?_toArray] at hv
  have hp:SU x=x.1.off:=by
   unfold SU at hv ⊢
   cases hx:x.2 with
   |nil=>rw[hx] at hv;simp at hv
   |cons a r=>rfl
  rw[List.getElem?_append_right (by simpa [hp] using X8)] at hv
  simp only[List.length_replicate,hp] at hv
  obtain⟨m1,m2⟩:=k3 _ _ hv
  rw[show x.1.off+(i-x.1.off)=i by omega,Js] at m1
  cases m1
  exact G0 m2
 ·rw[Hg] at h
  obtain⟨x,_,rfl⟩:=Option.map_eq_some_iff.1 h
  trivial
theorem zii{x:cr}(hs:x.spot=ak){c:Array aj}{e:TypeId}{f:Nat×Nat}(h:W.heap[x.block]?=ab (.cells c e f))(i:Nat):W.cell? (x.add i)=c[x.off+i]?:=by
 obtain⟨b,o,s⟩:=x
 simp only at hs h
 subst hs
 have:(⟨b,o,ak⟩:cr).add i=⟨b,o+i,ak⟩:=by unfold Addr.add;split<;>simp_all
 rw[this,World.cell?]
 simp[h]
theorem znd{x:cr}{cs:List aj}(hs:x.spot=ak)(hr:∃c e f,W.heap[x.block]?=ab (.cells c e f))(hc:∀(i:Nat) (v:aj),cs[i]?=ab v->W.cell? (x.add i)=ab v/\vp v=ae):zcR W (x,cs):=by
 obtain⟨c,e,f,h⟩:=hr
 exact⟨c,e,f,h,λ i v hv=>⟨by rw[<-zii hs h];exact(hc i v hv).1,(hc i v hv).2⟩⟩
theorem ziy{k:Nat}{x:cr×List aj}(h:E[k]?=ab x)(hs:x.1.spot=ak)(n c:Nat):VR (Pt E) (.slice (ab ⟨k,x.1.off,ak⟩) n c) (.slice (ab x.1) n c):=
 .slice _ _ ⟨⟨x.1.off+1,⟨x,h,rfl,rfl⟩,by simp⟩,rfl,hs.symm⟩
theorem znu{N:aG}(g:PG N an)(gp:GP N)(hds:∃fn,N.funcs[17]?=ab fn/\fn.body.isSome=ae)(AI:∀f fn,N.funcs[f]?=ab fn->fn.body.isSome=ae->an.inits.idxOf? f=ak)
  {f:FuncId} {args xs:Array aj} {E:List (cr×List aj)} (hf:∃fn,N.funcs[f]?=ab fn/\fn.body.isSome=ae) (ha:AV (Pt E) xs args) (hE:∀x∈E,zcR W x)
  (ht:Rel N ⟨aU N f xs .normal,[],yK W E⟩->Tree N (lN N) (λ v _=>v=.bool ae) (aU N f xs .normal) [] (yK W E)):
  ∃M last o w' t',runNT an (M+1) (solo (G (aU an f args .normal) []) W) #[]=(.ended o w',t')/\runN an M (solo (G (aU an f args .normal) []) W)=.next last/\Go.step an last=.ended o w'/\
   tq an (λ v W'=>v=.bool ae/\Below W.heap.size W { W' with os:=W.os,tape:=W.tape }/\OsLater W.os W'.os) last o w' t':=by
 have hh:=ziw hE
 obtain⟨M,last,o,w',t',h1,h2,h3,v,e,⟨v1,w1,R,hv,hr,_,k1,k2,k3,k4⟩,h4⟩:=XH g gp hds AI hf ha hh (λ _ _ _=>PK) (ht ⟨_,_,[],W,px g gp hf ha,trivial,hh⟩)
 refine⟨M,last,o,w',t',h1,h2,h3,v,e,⟨?_,⟨rfl,rfl,k4,k2,k1⟩,k3⟩,h4⟩
 subst hv
 cases hr
 rfl
end Rn
end Go.Proofs.YtdpfknhenjngcaaGreatDoor
