/-
  Related runs of a ghost and of a goroutine in company (part 2). No condition.
-/
import Derived.Test.YtdpfknhenjngcaaGreatDoorZ1
set_option linter.unusedSimpArgs false
set_option linter.unusedVariables false
set_option linter.unusedSectionVars false
set_option maxRecDepth 100000
set_option maxHeartbeats 16000000
open Classical renaming byContradiction→nY,choose→dk,choose_spec→ep,axiomOfChoice→jh
open Go renaming Frame→aB,World→ai,Program→aG,Value→aj,Event→bT,MemAct→jX,Question→dP,Frame.enter→aU,Exit→ni,exitTo→tN,Code→gZ,Frame.at→oC,Exit.then→CK,step_lone_go→fR,stepG.apply→dR,execOp→bd
open Go.Frame renaming finish_at→eN
open Go.Region renaming wanted→aR
open Go.Stepped.next renaming injEq→l9
open List renaming range→oY
open Bool renaming true→ae,false→aa
open Option renaming some→ab,none→ak
namespace Go.Proofs.YtdpfknhenjngcaaGreatDoor
namespace Rn
open Go Go.Conc
structure Nd where
 fr:aB
 L:List aB
 w:ai
def Rel(P:aG)(x:Nd):Prop:=∃R bx L' w',yC P R x.fr bx/\LA P R x.L L'/\HR R x.w w'
inductive Tree(P:aG)(O:aB->ai->(aB->ai->Prop)->Prop)(Fin:aj->ai->Prop):aB->List aB->ai->Prop
 |mk {fr:aB} {L:List aB} {w:ai}
   (ok:∀T d,(∃v w1 es,eG P fr L (World.on w T d)=.ret v w1 es/\Fin v w1)\/∃fr1 L1 w1 es acts,eG P fr L (World.on w T d)=.next fr1 L1 w1 es acts)
   (nx:∀T d fr1 L1 w1 es acts,eG P fr L (World.on w T d)=.next fr1 L1 w1 es acts->Tree P O Fin fr1 L1 w1):Tree P O Fin fr L w
 |ask {fr:aB} {L:List aB} {w:ai} (S:aB->ai->Prop) (h:O fr w S) (k:∀fr1 w1,S fr1 w1->Rel P ⟨fr1,L,w1⟩->Tree P O Fin fr1 L w1):Tree P O Fin fr L w
inductive MU(P:aG)(Tg:aB->List aB->ai->Prop)(Fin:aj->ai->Prop):aB->List aB->ai->Prop
 |done {fr:aB} {L:List aB} {w:ai} (h:Tg fr L w):MU P Tg Fin fr L w
 |ret {fr:aB} {L:List aB} {w w1:ai} {v:aj} {es:Array bT} (h:eG P fr L w=.ret v w1 es) (hf:Fin v w1):MU P Tg Fin fr L w
 |next {fr fr1:aB} {L L1:List aB} {w w1:ai} {es:Array bT} {acts:List jX} (h:eG P fr L w=.next fr1 L1 w1 es acts) (k:MU P Tg Fin fr1 L1 w1):MU P Tg Fin fr L w
section
variable{P P':aG}{O:aB->ai->(aB->ai->Prop)->Prop}{Fin:aj->ai->Prop}{Tg:aB->List aB->ai->Prop}
def St(P:aG)(x:Nd)(T:Nat->dP->Nat)(d:Nat):LR:=eG P x.fr x.L (World.on x.w T d)
theorem Rel.on{x:Nd}(h:Rel P x)(T:Nat->dP->Nat)(d:Nat):∃R bx L' w',yC P R x.fr bx/\LA P R x.L L'/\HR R (World.on x.w T d) w'/\∀n,TA n (World.on x.w T d) w':=by
 obtain⟨R,bx,L',w',h1,h2,h3⟩:=h
 exact⟨R,bx,L',World.on w' T d,h1,h2,⟨h3.inj,h3.obj,h3.kinds⟩,λ n j q _=>rfl⟩
variable{L:List aB}{w:ai}
theorem Rel.on'{fr:aB}(h:Rel P ⟨fr,L,w⟩)(T:Nat->dP->Nat)(d:Nat):Rel P ⟨fr,L,World.on w T d⟩:=by
 obtain⟨R,bx,L',w',h1,h2,h3⟩:=h
 exact⟨R,bx,L',w',h1,h2,⟨h3.inj,h3.obj,h3.kinds⟩⟩
theorem Rel.next(g:PG P P')(gp:GP P){x:Nd}(h:Rel P x){T:Nat->dP->Nat}{d:Nat}{fr1:aB}{L1:List aB}{w1:ai}{es:Array bT}{acts:List jX}(hs:St P x T d=.next fr1 L1 w1 es acts):
  Rel P ⟨fr1,L1,w1⟩/\w1.tape=T/\d<=w1.drawn:=by
 obtain⟨R,bx,L',w',h1,h2,h3,h4⟩:=h.on T d
 have:=sim g gp h1 h2 h3 h4
 unfold St at hs
 rw[hs] at this
 obtain⟨AO,Yc,wi,_,_,R1,_,k1,k2,k3,k4,_⟩:=this
 exact⟨⟨R1,AO,Yc,wi,k1,k2,k3⟩,k4.zhu,k4.drawn⟩
variable{x:Nd}
theorem St.shift(g:PG P P')(h:Rel P x){T:Nat->dP->Nat}{d:Nat}{fr1:aB}{L1:List aB}{w1:ai}{es:Array bT}{acts:List jX}(hs:St P x T d=.next fr1 L1 w1 es acts)
  {T':Nat->dP->Nat} {d':Nat} (ht:∀j q,j<w1.drawn-d->T (d+j) q=T' (d'+j) q):St P x T' d'=.next fr1 L1 (World.on w1 T' (d'+(w1.drawn-d))) es acts:=by
 obtain⟨R,bx,L',w',h1,h2,h3,_⟩:=h.on T d
 unfold St at hs ⊢
 have k:=(Yx g (L:=x.L) h1 h3 (by rw[hs];simp)).2 T' d'
 rw[hs] at k
 exact k λ j q hj=>ht j q hj
theorem St.zr7(g:PG P P')(h:Rel P x){T:Nat->dP->Nat}{d:Nat}{v:aj}{w1:ai}{es:Array bT}(hs:St P x T d=.ret v w1 es)
  {T':Nat->dP->Nat} {d':Nat} (ht:∀j q,T (d+j) q=T' (d'+j) q):∃d2,St P x T' d'=.ret v (World.on w1 T' d2) es:=by
 obtain⟨R,bx,L',w',h1,h2,h3,_⟩:=h.on T d
 unfold St at hs ⊢
 have k:=(Yx g (L:=x.L) h1 h3 (by rw[hs];simp)).2 T' d'
 rw[hs] at k
 exact⟨_,k λ j q _=>ht j q⟩
structure zcQ(Tg:aB->List aB->ai->Prop)(Fin:aj->ai->Prop):Prop where
 tg:∀fr L w T d,Tg fr L w->Tg fr L (World.on w T d)
 fin:∀v w T d,Fin v w->Fin v (World.on w T d)
theorem MU.shift(g:PG P P')(gp:GP P)(hB:zcQ Tg Fin){fr:aB}{L:List aB}{w:ai}(h:MU P Tg Fin fr L w):∀(_:Rel P ⟨fr,L,w⟩) (T':Nat->dP->Nat) (d':Nat),(∀j q,w.tape (w.drawn+j) q=T' (d'+j) q)->MU P Tg Fin fr L (World.on w T' d'):=by
 induction h with
 |done h=>intro hr T' d' ht;exact .done (hB.tg _ _ _ _ _ h)
 |@ret fr L w w1 v es hs hf=>
  intro hr T' d' ht
  obtain⟨d2,k⟩:=St.zr7 g (x:=⟨fr,L,w⟩) hr (T:=w.tape) (d:=w.drawn) hs (T':=T') (d':=d') ht
  exact .ret k (hB.fin _ _ _ _ hf)
 |@next fr fr1 L L1 w w1 es acts hs _ ih=>
  intro hr T' d' ht
  obtain⟨rj,ht1,hd1⟩:=hr.next g gp (T:=w.tape) (d:=w.drawn) hs
  have k:=St.shift g (x:=⟨fr,L,w⟩) hr (T:=w.tape) (d:=w.drawn) hs (T':=T') (d':=d') (λ j q _=>ht j q)
  refine .next k (ih rj T' (d'+(w1.drawn-w.drawn)) λ j q=>?_)
  have:=ht (w1.drawn-w.drawn+j) q
  rw[ht1,show w1.drawn+j=w.drawn+(w1.drawn-w.drawn+j) by omega,this]
  congr 1
  omega
def Live(P:aG)(Tg:aB->List aB->ai->Prop)(Fin:aj->ai->Prop)(x:Nd):Prop:=∀T d,MU P Tg Fin x.fr x.L (World.on x.w T d)
theorem Live.next(g:PG P P')(gp:GP P)(hB:zcQ Tg Fin){x:Nd}(h:Rel P x)(hl:Live P Tg Fin x)(hx:¬Tg x.fr x.L x.w){T:Nat->dP->Nat}{d:Nat}{fr1:aB}{L1:List aB}{w1:ai}{es:Array bT}{acts:List jX}(hs:St P x T d=.next fr1 L1 w1 es acts):
  Live P Tg Fin ⟨fr1,L1,w1⟩:=by
 intro T' d'
 let U:Nat->dP->Nat:=λ n q=>if n<w1.drawn then T n q else T' (d'+(n-w1.drawn)) q
 obtain⟨rj,_,hd⟩:=h.next g gp hs
 have k:=St.shift g h hs (T':=U) (d':=d) λ j q hj=>by
  show T (d+j) q=if d+j<w1.drawn then _ else _
  rw[if_pos (by omega)]
 rw[show d+(w1.drawn-d)=w1.drawn by omega] at k
 have r:=hl U d
 unfold St at k
 cases r with
 |done ht=>exact absurd (hB.tg _ _ _ x.w.tape x.w.drawn ht) hx
 |ret Jv=>rw[k] at Jv;cases Jv
 |next Jv r2=>
  rw[k] at Jv
  cases Jv
  exact r2.shift g gp hB (rj.on' _ _) T' d' λ j q=>by
   show (if w1.drawn+j<w1.drawn then T (w1.drawn+j) q else T' (d'+(w1.drawn+j-w1.drawn)) q)=_
   rw[if_neg (by omega)]
   congr 1
   omega
def Lt(P:aG)(Tg:aB->List aB->ai->Prop)(y x:Nd):Prop:=¬Tg x.fr x.L x.w/\∃T d es acts,St P x T d=.next y.fr y.L y.w es acts
theorem zx(h:¬Acc (Lt P Tg) x):∃y,Lt P Tg y x/\¬Acc (Lt P Tg) y:=by
 refine nY λ hn=>h (Acc.intro x λ y hy=>?_)
 exact nY λ hy'=>hn ⟨y,hy,hy'⟩
noncomputable def path(x:Nd)(h:¬Acc (Lt P Tg) x):Nat->{ y:Nd // ¬Acc (Lt P Tg) y }
 |0=>⟨x,h⟩
 |n+1=>⟨dk (zx (path x h n).2),(ep (zx (path x h n).2)).2⟩
theorem znj(x:Nd)(h:¬Acc (Lt P Tg) x)(n:Nat):Lt P Tg (path x h (n+1)).1 (path x h n).1:=(ep (zx (path x h n).2)).1
theorem ZO(g:PG P P')(gp:GP P)(hB:zcQ Tg Fin)(hr:Rel P x)(hl:Live P Tg Fin x):Acc (Lt P Tg) x:=by
 refine nY λ hn=>?_
 have hp:=znj x hn
 generalize hf:(λ n=>(path x hn n).1)=f
 have f0:f 0=x:=by rw[<-hf];rfl
 have hq:∀n,Lt P Tg (f (n+1)) (f n):=λ n=>by rw[<-hf];exact hp n
 have hT:∀n,¬Tg (f n).fr (f n).L (f n).w:=λ n=>(hq n).1
 have bG:=λ n=>(hq n).2
 clear hp hf hn hq
 obtain⟨T,bG⟩:=jh bG
 obtain⟨d,bG⟩:=jh bG
 obtain⟨es,bG⟩:=jh bG
 obtain⟨acts,bG⟩:=jh bG
 have hrel:∀n,Rel P (f n):=by
  intro n
  induction n with
  |zero=>rw[f0];exact hr
  |succ n ih=>exact(ih.next g gp (bG n)).1
 have X7:∀n,d n<=(f (n+1)).w.drawn:=λ n=>((hrel n).next g gp (bG n)).2.2
 let m:Nat->Nat:=λ n=>(f (n+1)).w.drawn-d n
 let D:Nat->Nat:=λ n=>Nat.rec 0 (λ k s=>s+m k) n
 have D0:D 0=0:=rfl
 have D1:∀n,D (n+1)=D n+m n:=λ n=>rfl
 have Dm:∀a b,a<=b->D a<=D b:=by
  intro a b h
  induction h with
  |refl=>exact Nat.le_refl _
  |step _ ih=>rw[D1];omega
 have uniq:∀n k k',D k<=n->n<D (k+1)->D k'<=n->n<D (k'+1)->k=k':=by
  intro n k k' h1 h2 h3 h4
  rcases Nat.lt_trichotomy k k' with h|h|h
  ·have:=Dm (k+1) k' h;omega
  ·exact h
  ·have:=Dm (k'+1) k h;omega
 let U:Nat->dP->Nat:=λ n q=>open Classical in if h:∃k,D k<=n/\n<D (k+1) then T (dk h) (d (dk h)+(n-D (dk h))) q else 0
 have hU:∀k j q,j<m k->T k (d k+j) q=U (D k+j) q:=by
  intro k j q hj
  have hex:∃k',D k'<=D k+j/\D k+j<D (k'+1):=⟨k,by omega,by rw[D1];omega⟩
  have e:dk hex=k:=uniq (D k+j) _ _ (ep hex).1 (ep hex).2 (by omega) (by rw[D1];omega)
  have hU1:U (D k+j) q=T (dk hex) (d (dk hex)+(D k+j-D (dk hex))) q:=dif_pos hex
  rw[hU1,e]
  congr 1
  omega
 have step:∀k,St P (f k) U (D k)=.next (f (k+1)).fr (f (k+1)).L (World.on (f (k+1)).w U (D (k+1))) (es k) (acts k):=by
  intro k
  rw[D1]
  exact St.shift g (hrel k) (bG k) (λ j q hj=>hU k j q hj)
 have never:∀{fr:aB} {L:List aB} {w:ai},MU P Tg Fin fr L w->∀k,fr=(f k).fr->L=(f k).L->w=World.on (f k).w U (D k)->False:=by
  intro fr L w h
  induction h with
  |done h=>
   intro k h1 h2 h3
   rw[h1,h2,h3] at h
   have h9:=hB.tg _ _ _ (f k).w.tape (f k).w.drawn h
   exact hT k h9
  |ret hs=>
   intro k h1 h2 h3
   have:=step k
   unfold St at this
   rw[h1,h2,h3,this] at hs
   cases hs
  |next hs _ ih=>
   intro k h1 h2 h3
   have:=step k
   unfold St at this
   rw[h1,h2,h3,this] at hs
   cases hs
   exact ih (k+1) rfl rfl rfl
 exact never (hl U 0) 0 (by rw[f0]) (by rw[f0]) (by rw[f0];rfl)
theorem zE(g:PG P P')(gp:GP P)(hB:zcQ Tg Fin)(hr:Rel P x)(hl:Live P Tg Fin x)(hT:∀fr L w,Rel P ⟨fr,L,w⟩->Tg fr L w->Tree P O Fin fr L w):Tree P O Fin x.fr x.L x.w:=by
 have acc:=ZO g gp hB hr hl
 induction acc with
 |intro x _ ih=>
  by_cases hx:Tg x.fr x.L x.w
  ·exact hT _ _ _ hr hx
  ·refine .mk (λ T d=>?_) λ T d fr1 L1 w1 es acts hs=>ih ⟨fr1,L1,w1⟩ ⟨hx,T,d,es,acts,hs⟩ (hr.next g gp hs).1 (hl.next g gp hB hr hx hs)
   have r:=hl T d
   cases r with
   |done h=>exact absurd (hB.tg _ _ _ x.w.tape x.w.drawn h) hx
   |ret hs hf=>exact .inl ⟨_,_,_,hs,hf⟩
   |next hs _=>exact .inr ⟨_,_,_,_,_,hs⟩
theorem zh7{L':List aB}(h:L++[stub P]=L'++[stub P]):L=L':=List.append_cancel_right h
theorem qS(g:PG P P')(gp:GP P):∀(n:Nat) (fr:aB) (L:List aB) (w:ai) (MR:aB) (LE:List aB) (wE:ai),Rel P ⟨fr,L,w⟩->runN P n (lone fr (L++[stub P]) w)=.next (lone MR (LE++[stub P]) wE)->
  (MR.mode=.run\/MR.mode=.returning)->(Tg MR LE wE\/(LE=[]/\∃v,MR.leaving P wE (.returned v)/\Fin v wE))->MU P Tg Fin fr L w
 |0,fr,L,w,MR,LE,wE,hr,hn,hm,he=>by
  simp only[runN,l9] at hn
  obtain⟨h1,h2,h3⟩:=Hh hn
  have h2':=zh7 h2
  subst h1 h2' h3
  rcases he with he|⟨rfl,v,hv,hf⟩
  ·exact .done he
  ·obtain⟨es,h⟩:=Z4 hv
   exact .ret h hf
 |n+1,fr,L,w,MR,LE,wE,hr,hn,hm,he=>by
  obtain⟨R,bx,L',w',k1,k2,k3⟩:=hr
  have hd:=zaL (P:=P) (main:=ae) (fr:=fr) (L:=L) (w:=w) k1.norm k1.round
  cases hx:eG P fr L w with
  |bad=>exact absurd hm (zeo g k1 k2 k3 hx (by simp) hn)
  |ret v1 w1 es=>
   rw[hx] at hd
   obtain⟨rfl,_,_,_,dz⟩:=hd
   have h1:=runN_succ_next (wW (dz (stub P) [])) hn
   exfalso
   cases n with
   |zero=>
    simp only[runN,l9] at h1
    have:=(Hh h1).2.1
    simp at this
   |succ n=>
    have hs:∃o w2,(stepG P ae { frame:=(stub P).finish v1,callers:=[],status:=.running,dying:=ak } w1).bare=.ended o w2:=by simp[stepG,stub,Frame.finish,stepG.exec,zrW]
    obtain⟨o,w2,hs⟩:=hs
    exact ky (step_lone_ended hs) h1
  |next fr1 L1 w1 es acts=>
   rw[hx] at hd
   have rj:Rel P ⟨fr1,L1,w1⟩:=(Rel.next g gp (x:=⟨fr,L,w⟩) ⟨R,bx,L',w',k1,k2,k3⟩ (T:=w.tape) (d:=w.drawn) hx).1
   refine .next hx (qS g gp n fr1 L1 w1 MR LE wE rj ?_ hm he)
   rcases hd [stub P] with⟨_,e⟩|⟨c,sh,w0,e,hc⟩
   ·exact runN_succ_next (wW e) hn
   ·have hs:=B4 e
    obtain⟨rfl,_,e2⟩:=x8 (P:=P) (rest:={ timers:=#[],alone:=ak,slice:=ak }) (gs:=#[{ (default:Goroutine) with status:=.finished }]) (i:=0) (cs:=L++[stub P]) (λ r b=>Er r b) hc
    rw[e2] at hs
    have hs':step P (lone fr (L1++[stub P]) w)=.next (lone fr1 (L1++[stub P]) w1):=hs
    exact runN_succ_next hs' hn
theorem XK(g:PG P P')(gp:GP P){f:FuncId}{args:Array aj}(hr:Rel P ⟨aU P f args .normal,[],w⟩)(h:Calls P f args w λ e w1=>∃v,e=.returned v/\Fin v w1):MU P Tg Fin (aU P f args .normal) [] w:=by
 obtain⟨e,w',fr,⟨v,rfl,hf⟩,hc,_,hl⟩:=h [stub P]
 obtain⟨n,hn⟩:=hc
 exact qS g gp n _ [] w fr [] w' hr hn (.inr hl.1) (.inr ⟨rfl,v,hl,hf⟩)
def TgW(b:aB)(k:List Item)(L:List aB)(Q:ni->Act->ai->Prop)(fr:aB)(L1:List aB)(w:ai):Prop:=
 L1=L/\∃a,(Q .normal a w/\fr=b.at a k)\/(∃id k',Q (.exit id) a w/\tN id k=ab k'/\fr=b.at a k')\/(∃todo,Q .ret a w/\fr={ b.at a todo with mode:=.returning })
structure zun(k:List Item)(Q:ni->Act->ai->Prop):Prop where
 exit:∀id a w,Q (.exit id) a w->∃k',tN id k=ab k'
 goto:∀l a w,¬Q (.goto l) a w
 panic:∀ch a w,¬Q (.panic ch) a w
 out:∀a w,¬Q .outgrown a w
theorem ze4(g:PG P P')(gp:GP P){b:aB}{k:List Item}{c:gZ}{Q:ni->Act->ai->Prop}{a:Act}(hr:Rel P ⟨b.at a (.code c::k),L,w⟩)(ho:zun k Q)(h:c.wp P Q a w):
  MU P (TgW b k L Q) Fin (b.at a (.code c::k)) L w:=by
 obtain⟨e,a',w',hq,har⟩:=h b k (L++[stub P])
 cases e with
 |normal=>
  obtain⟨n,hn⟩:=har
  exact qS g gp n _ L w (b.at a' k) L w' hr hn (.inl rfl) (.inl ⟨rfl,a',.inl ⟨hq,rfl⟩⟩)
 |exit id=>
  obtain⟨k',hk⟩:=ho.exit _ _ _ hq
  obtain⟨n,hn⟩:=har k' hk
  exact qS g gp n _ L w (b.at a' k') L w' hr hn (.inl rfl) (.inl ⟨rfl,a',.inr (.inl ⟨id,k',hq,hk,rfl⟩)⟩)
 |goto l=>exact(ho.goto _ _ _ hq).elim
 |ret=>
  obtain⟨todo,n,hn⟩:=har
  exact qS g gp n _ L w _ L w' hr hn (.inr rfl) (.inl ⟨rfl,a',.inr (.inr ⟨todo,hq,rfl⟩)⟩)
 |panic ch=>exact(ho.panic _ _ _ hq).elim
 |outgrown=>exact(ho.out _ _ hq).elim
theorem Tree.on(hO:∀fr w S T d,O fr w S->O fr (World.on w T d) S){fr:aB}{L:List aB}{w:ai}(h:Tree P O Fin fr L w)(T:Nat->dP->Nat)(d:Nat):Tree P O Fin fr L (World.on w T d):=by
 cases h with
 |mk ok nx=>exact .mk (λ T d=>ok T d) (λ T d=>nx T d)
 |ask S h k=>exact .ask S (hO _ _ _ _ _ h) k
end
structure Env(P P':aG)(O:aB->ai->(aB->ai->Prop)->Prop)(Fin:aj->ai->Prop):Prop where
 g:PG P P'
 gp:GP P
 ask:∀fr w S T d,O fr w S->O fr (World.on w T d) S
 fin:∀v w T d,Fin v w->Fin v (World.on w T d)
section
variable{P P':aG}{O:aB->ai->(aB->ai->Prop)->Prop}{Fin:aj->ai->Prop}
structure zf6(P:aG)(O:aB->ai->(aB->ai->Prop)->Prop)(Fin:aj->ai->Prop)(b:aB)(k:List Item)(L:List aB)(Q:ni->Act->ai->Prop):Prop where
 normal:∀a w,Q .normal a w->Rel P ⟨b.at a k,L,w⟩->Tree P O Fin (b.at a k) L w
 exit:∀id a w,Q (.exit id) a w->∃k',tN id k=ab k'/\(Rel P ⟨b.at a k',L,w⟩->Tree P O Fin (b.at a k') L w)
 ret:∀a w todo,Q .ret a w->Rel P ⟨{ b.at a todo with mode:=.returning },L,w⟩->Tree P O Fin { b.at a todo with mode:=.returning } L w
 goto:∀l a w,¬Q (.goto l) a w
 panic:∀ch a w,¬Q (.panic ch) a w
 out:∀a w,¬Q .outgrown a w
def Sr(P:aG)(O:aB->ai->(aB->ai->Prop)->Prop)(Fin:aj->ai->Prop)(c:gZ)(Q:ni->Act->ai->Prop)(a:Act)(w:ai):Prop:=
 ∀b k L,Rel P ⟨b.at a (.code c::k),L,w⟩->zf6 P O Fin b k L Q->Tree P O Fin (b.at a (.code c::k)) L w
variable{L:List aB}
theorem zf6.outs{b:aB}{k:List Item}{Q:ni->Act->ai->Prop}(h:zf6 P O Fin b k L Q):zun k Q:=⟨λ id a w hq=>(h.exit id a w hq).imp λ _ x=>x.1,h.goto,h.panic,h.out⟩
variable{w:ai}
theorem jd(E:Env P P' O Fin){fr fr1:aB}{L1:List aB}{es:Array bT}(hr:Rel P ⟨fr,L,w⟩)(hs:∀T d,eG P fr L (World.on w T d)=.next fr1 L1 (World.on w T d) es [])(h:Rel P ⟨fr1,L1,w⟩->Tree P O Fin fr1 L1 w):Tree P O Fin fr L w:=by
 have rj:Rel P ⟨fr1,L1,w⟩:=(hr.next E.g E.gp (x:=⟨fr,L,w⟩) (hs w.tape w.drawn)).1
 refine .mk (λ T d=>.inr ⟨_,_,_,_,_,hs T d⟩) λ T d EP L2 w2 es2 zoH h2=>?_
 rw[hs T d] at h2
 cases h2
 exact(h rj).on E.ask T d
theorem QK(E:Env P P' O Fin){fr fr1:aB}{L1:List aB}(hr:Rel P ⟨fr,L,w⟩)(hs:∀T d,∃es,eG P fr L (World.on w T d)=.next fr1 L1 (World.on w T d) es [])(h:Rel P ⟨fr1,L1,w⟩->Tree P O Fin fr1 L1 w):Tree P O Fin fr L w:=by
 obtain⟨es,hs0⟩:=hs w.tape w.drawn
 have rj:Rel P ⟨fr1,L1,w⟩:=(hr.next E.g E.gp (x:=⟨fr,L,w⟩) hs0).1
 refine .mk (λ T d=>?_) λ T d EP L2 w2 es2 zoH h2=>?_
 ·obtain⟨es,h⟩:=hs T d
  exact .inr ⟨_,_,_,_,_,h⟩
 ·obtain⟨es,h3⟩:=hs T d
  rw[h3] at h2
  cases h2
  exact(h rj).on E.ask T d
theorem zeP(E:Env P P' O Fin){c:gZ}{Q:ni->Act->ai->Prop}{a:Act}(hB:∀e a w T d,Q e a w->Q e a (World.on w T d))(h:∀T d,c.wp P Q a (World.on w T d)):Sr P O Fin c Q a w:=by
 intro b k L hr hk
 refine zE (Tg:=TgW b k L Q) (Fin:=Fin) E.g E.gp ⟨?_,E.fin⟩ (x:=⟨b.at a (.code c::k),L,w⟩) hr (λ T d=>ze4 E.g E.gp (hr.on' T d) hk.outs (h T d)) ?_
 ·rintro fr L1 w T d ⟨rfl,a,h|⟨id,k',h1,h2,h3⟩|⟨todo,h1,h2⟩⟩
  ·exact⟨rfl,a,.inl ⟨hB _ _ _ _ _ h.1,h.2⟩⟩
  ·exact⟨rfl,a,.inr (.inl ⟨id,k',hB _ _ _ _ _ h1,h2,h3⟩)⟩
  ·exact⟨rfl,a,.inr (.inr ⟨todo,hB _ _ _ _ _ h1,h2⟩)⟩
 ·rintro fr L1 w AK ⟨rfl,a,⟨h1,rfl⟩|⟨id,k',h1,h2,rfl⟩|⟨todo,h1,rfl⟩⟩
  ·exact hk.normal _ _ h1 AK
  ·obtain⟨k2,h4,h5⟩:=hk.exit _ _ _ h1
   rw[h2] at h4
   cases h4
   exact h5 AK
  ·exact hk.ret _ _ _ h1 AK
section rules
variable{Q Q':ni->Act->ai->Prop}{a:Act}{w:ai}
variable{c:gZ}
theorem PM(h:Sr P O Fin c Q a w)(hq:∀e a w,Q e a w->Q' e a w):Sr P O Fin c Q' a w:=λ b k L hr hk=>
 h b k L hr ⟨λ a w q=>hk.normal a w (hq _ _ _ q),λ id a w q=>hk.exit id a w (hq _ _ _ q),λ a w t q=>hk.ret a w t (hq _ _ _ q),λ l a w q=>hk.goto l a w (hq _ _ _ q),λ ch a w q=>hk.panic ch a w (hq _ _ _ q),λ a w q=>hk.out a w (hq _ _ _ q)⟩
theorem ziL(E:Env P P' O Fin)(h:Q .normal a w):Sr P O Fin .skip Q a w:=λ b k L hr hk=>jd E hr (λ T d=>rfl) λ rj=>hk.normal _ _ h rj
theorem zm7(E:Env P P' O Fin)(h:Q .ret a w):Sr P O Fin .ret Q a w:=λ b k L hr hk=>jd E hr (λ T d=>rfl) λ rj=>hk.ret _ _ _ h rj
theorem ziJ(E:Env P P' O Fin){id:Nat}(h:Q (.exit id) a w):Sr P O Fin (.exit id) Q a w:=λ b k L hr hk=>by
 obtain⟨k',h1,h2⟩:=hk.exit _ _ _ h
 exact jd E (fr1:=b.at a k') (L1:=L) (es:=#[]) hr (λ T d=>by simp[eG,JB,lto,oC,h1]) h2
theorem zm8(E:Env P P' O Fin){x y:gZ}(h:Sr P O Fin x (CK (Sr P O Fin y Q) Q) a w):Sr P O Fin (.seq x y) Q a w:=λ b k L hr hk=>
 jd E (fr1:=b.at a (.code x::.code y::k)) (L1:=L) hr (λ T d=>rfl) λ rj=>h b (.code y::k) L rj
  ⟨λ a w q AK=>q b k L AK hk,λ id a w q=>(hk.exit id a w q).imp λ k' z=>⟨by simpa [tN] using z.1,z.2⟩,λ a w t q=>hk.ret a w t q,λ l a w q=>hk.goto l a w q,λ ch a w q=>hk.panic ch a w q,λ a w q=>hk.out a w q⟩
theorem ziI(E:Env P P' O Fin){c:Operand}{x y:gZ}{t:Bool}(hc:a.eval c=.bool t)(h:Sr P O Fin (if t then x else y) Q a w):Sr P O Fin (.cond c x y) Q a w:=λ b k L hr hk=>by
 have e:=Frame.eval_at b a (.code (.cond c x y)::k) c
 refine jd E (fr1:=b.at a (.code (if t then x else y)::k)) (L1:=L) (es:=#[]) hr (λ T d=>?_) λ rj=>h b k L rj hk
 rw[hc] at e
 unfold eG JB
 simp only[oC] at e ⊢
 rw[e]
 rfl
theorem zeO(E : Env P P' O Fin){id: Nat}(h : Sr P O Fin c (Exit.inBlock id Q) a w) : Sr P O Fin (.block id c) Q a w := fun b k L hr hk =>
  jd E (fr1 := b.at a (.code c :: .inBlock id :: k)) (L1 := L) hr (fun T d => rfl) fun rj => h b (.inBlock id :: k) L rj
    ⟨fun a w q AK => jd E (fr1 := b.at a k) (L1 := L) AK (fun T d => rfl) fun hr3 => hk.normal a w q hr3,
     fun id' a w q => by
      by_cases hid : id' = id
      · simp only [Exit.inBlock, hid, if_true] at q
        exact ⟨k, by simp [tN, hid], fun AK => hk.normal a w q AK⟩
      · simp only [Exit.inBlock, hid, if_false] at q
        obtain ⟨k', h1, h2⟩ := hk.exit id' a w q
        refine ⟨k', ?_, h2⟩
        have : (id == id') = aa := by simp; exact fun h => hid h.symm
        simp [tN, this, h1],
     fun a w t q => hk.ret a w t q, fun l a w q => hk.goto l a w q, fun ch a w q => hk.panic ch a w q, fun a w q => hk.out a w q⟩
def JIn(P:aG)(O:aB->ai->(aB->ai->Prop)->Prop)(Fin:aj->ai->Prop)(c:gZ)(Q:ni->Act->ai->Prop)(a:Act)(w:ai):Prop:=
 ∀b k L,Rel P ⟨b.at a (.code c::.inLoop c::k),L,w⟩->zf6 P O Fin b k L Q->Tree P O Fin (b.at a (.code c::.inLoop c::k)) L w
theorem ziK(E:Env P P' O Fin)(h:JIn P O Fin c Q a w):Sr P O Fin (.loop c) Q a w:=λ b k L hr hk=>
 jd E (fr1:=b.at a (.code c::.inLoop c::k)) (L1:=L) hr (λ T d=>rfl) λ rj=>h b k L rj hk
theorem Zk(E : Env P P' O Fin)(h : Sr P O Fin c (CK (JIn P O Fin c Q) Q) a w) : JIn P O Fin c Q a w := fun b k L hr hk =>
  h b (.inLoop c :: k) L hr
    ⟨fun a w q AK => jd E (fr1 := b.at a (.code c :: .inLoop c :: k)) (L1 := L) AK (fun T d => rfl) fun hr3 => q b k L hr3 hk,
     fun id a w q => (hk.exit id a w q).imp fun k' z => ⟨by simpa [tN] using z.1, z.2⟩, fun a w t q => hk.ret a w t q, fun l a w q => hk.goto l a w q, fun ch a w q => hk.panic ch a w q, fun a w q => hk.out a w q⟩
theorem zhj(E:Env P P' O Fin){σ:Type}(I:σ->Act->ai->Prop)(μ:σ->Nat)(x0:σ)(h0:I x0 a w)
  (round:∀x a w,I x a w->Sr P O Fin c (CK (λ a' w'=>∃x',I x' a' w'/\μ x' < μ x) Q) a w):JIn P O Fin c Q a w:=by
 have key:∀n x a w,μ x=n->I x a w->JIn P O Fin c Q a w:=by
  intro n
  induction n using Nat.strongRecOn with
  |_ n ih=>
   intro x a w hn hI
   refine Zk E (PM (round x a w hI) ?_)
   intro e a' w' h
   cases e with
   |normal=>
    obtain⟨x',zha,cj⟩:=h
    exact ih (μ x') (hn▸cj) x' a' w' rfl zha
   |_=>exact h
 exact key _ x0 a w rfl h0
end rules
def ET(P:aG)(O:aB->ai->(aB->ai->Prop)->Prop)(Fin:aj->ai->Prop)(ops:Array Oper)(Q:ni->Act->ai->Prop)(l:List Nat)(a:Act)(w:ai):Prop:=
 ∀b k L,Rel P ⟨b.at a (.inRegion ops l::k),L,w⟩->zf6 P O Fin b k L Q->Tree P O Fin (b.at a (.inRegion ops l::k)) L w
section ops
variable{Q:ni->Act->ai->Prop}{a:Act}{w:ai}{ops:Array Oper}{i:Nat}{rest:List Nat}{o:Oper}
theorem zbJ(E:Env P P' O Fin){id:Nat}(h:ET P O Fin ops Q (oY ops.size) a w):Sr P O Fin (.region id ops aa) Q a w:=λ b k L hr hk=>
 jd E (fr1:=b.at a (.inRegion ops (oY ops.size)::k)) (L1:=L) hr (λ T d=>rfl) λ rj=>h b k L rj hk
theorem ziH(E:Env P P' O Fin)(h:Q .normal a w):ET P O Fin ops Q [] a w:=λ b k L hr hk=>jd E (fr1:=b.at a k) (L1:=L) hr (λ T d=>rfl) λ rj=>hk.normal _ _ h rj
theorem zeN(E:Env P P' O Fin)(hw:((ops[i]?).map (aR · (yielded ops a.tmps))).getD aa=aa)(h:ET P O Fin ops Q rest (a.put ((ops[i]?).bind (·.dst)) undef) w):ET P O Fin ops Q (i::rest) a w:=λ b k L hr hk=>by
 refine jd E (fr1:=b.at (a.put ((ops[i]?).bind (·.dst)) undef) (.inRegion ops rest::k)) (L1:=L) (es:=#[]) hr (λ T d=>?_) λ rj=>h b k L rj hk
 rw[<-eN]
 have e:∀(fr:aB),fr.mode=.run->fr.todo=.inRegion ops (i::rest)::k->fr.tmps=a.tmps->eG P fr L (World.on w T d)=.next (fr.finish undef) L (World.on w T d) #[] []:=by
  intro fr h1 h2 h3
  simp only[eG,JB,h1,h2,h3,hw,Bool.false_eq_true,if_false]
 exact e _ rfl rfl rfl
def zoF(P:aG)(O:aB->ai->(aB->ai->Prop)->Prop)(Fin:aj->ai->Prop)(f:FuncId)(args:Array aj)(w:ai)(R:aj->ai->Prop):Prop:=
 ∀c L,Rel P ⟨aU P f args .normal,c::L,w⟩->(∀v w1,R v w1->Rel P ⟨c.finish v,L,w1⟩->Tree P O Fin (c.finish v) L w1)->Tree P O Fin (aU P f args .normal) (c::L) w
theorem Rel.tail{c:aB}{L:List aB}{fr:aB}{w:ai}:∀{L0:List aB},Rel P ⟨fr,L0++c::L,w⟩->Rel P ⟨fr,L0,w⟩:=by
 intro L0 ⟨R,bx,L',w',h1,h2,h3⟩
 have:∃L2,LA P R L0 L2:=by
  clear h1 h3
  simp only at h2
  induction L0 generalizing L' with
  |nil=>exact⟨[],trivial⟩
  |cons x l ih=>
   cases L' with
   |nil=>exact h2.elim
   |cons y l'=>
    obtain⟨L2,h⟩:=ih l' h2.2
    exact⟨y::L2,h2.1,h⟩
 obtain⟨L2,h⟩:=this
 exact⟨R,bx,L2,w',h1,h,h3⟩
end ops
variable{Q:ni->Act->ai->Prop}{a:Act}{w:ai}{ops:Array Oper}{i:Nat}{rest:List Nat}{o:Oper}
theorem zrq{next:Act->ai->Prop}(ho:ops[i]?=ab o)(hw:aR o (yielded ops a.tmps)=ae)(h:o.wp P a w next (λ _ _ _=>False))(b:aB)(k:List Item)(cs:List aB):
  ∃a' w',next a' w'/\Steps P (lone (b.at a (.inRegion ops (i::rest)::k)) cs w) (lone (b.at a' (.inRegion ops rest::k)) cs w'):=by
 simp only[Oper.wp,Oper.upon] at h
 have hg:=stepG_op (P:=P) (b:=b) (k:=k) (cs:=cs) (w:=w) (rest:=rest) ho hw
 have oV:∀v,(b.at a (.inRegion ops (i::rest)::k)).finish v=b.at (a.put o.dst v) (.inRegion ops rest::k):=by
  intro v;rw[eN,ho];rfl
 split at h
 ·rename_i v w' hr
  refine⟨_,_,h,.one (fR ?_)⟩
  rw[hg,<-oV];simp[dR,hr]
 ·rename_i w' hr
  refine⟨_,_,h,.one (fR ?_)⟩
  rw[hg,<-oV];simp[dR,hr]
 ·rename_i d w' hr
  refine⟨_,_,h,.one (fR ?_)⟩
  have:({ b.at a (.inRegion ops (i::rest)::k) with defers:=d::a.defers }:aB).finish undef =
    b.at ({ a with defers:=d::a.defers }.put o.dst undef) (.inRegion ops rest::k):=by
   have:=eN b { a with defers:=d::a.defers } ops i rest k undef
   rw[ho] at this;exact this
  rw[hg];simp only[dR,Sem.runT_eq,hr,GStep.bare_after]
  exact congrArg (λ fr=>GStep.go { frame:=fr,callers:=cs,status:=.running,dying:=ak } w') this
 ·rename_i f args w' hr
  obtain⟨e,w'',fr,hR,za8,_,zrN⟩:=h (b.at a (.inRegion ops (i::rest)::k)::cs)
  have yL:step P (lone (b.at a (.inRegion ops (i::rest)::k)) cs w) =
    .next (lone (aU P f args .normal) (b.at a (.inRegion ops (i::rest)::k)::cs) w'):=
   fR (by rw[hg];simp[dR,hr,oC])
  cases e with
  |returned v=>
   refine⟨_,_,hR,.head yL (za8.trans (.one ?_))⟩
   rw[<-oV];exact step_leave_returned zrN
  |panicked chain=>exact hR.elim
  |outgrown=>
   obtain⟨nN,zmF,hq⟩:=hR
   exact hq.elim
 ·rename_i row args w' hr
  obtain⟨v,w'',hR,za8⟩:=h (b.at a (.inRegion ops (i::rest)::k)) cs
  have yL:step P (lone (b.at a (.inRegion ops (i::rest)::k)) cs w) =
    .next (lone (Frame.ofRow P row args .normal) (b.at a (.inRegion ops (i::rest)::k)::cs) w'):=
   fR (by rw[hg];simp[dR,hr,oC])
  refine⟨_,_,hR,.head yL ?_⟩
  rw[<-oV];exact za8
 ·exact h.elim
 ·exact h.elim
theorem zm5(E:Env P P' O Fin){l:List Nat}(h:ET P O Fin ops Q l a w)(T:Nat->dP->Nat)(d:Nat):ET P O Fin ops Q l a (World.on w T d):=λ b k L hr hk=>
 (h b k L (hr.on' w.tape w.drawn) hk).on E.ask T d
theorem zm6(E:Env P P' O Fin)(ho:ops[i]?=ab o)(hw:aR o (yielded ops a.tmps)=ae){next:Act->ai->Prop}(hB:∀a w T d,next a w->next a (World.on w T d))(h:∀T d,o.wp P a (World.on w T d) next (λ _ _ _=>False))
  (hn:∀a w,next a w->ET P O Fin ops Q rest a w):ET P O Fin ops Q (i::rest) a w:=by
 intro b k L hr hk
 refine zE (Tg:=λ fr L1 w=>L1=L/\∃a',next a' w/\fr=b.at a' (.inRegion ops rest::k)) (Fin:=Fin) E.g E.gp ⟨?_,E.fin⟩ (x:=⟨b.at a (.inRegion ops (i::rest)::k),L,w⟩) hr (λ T d=>?_) ?_
 ·rintro fr L1 w T d ⟨h1,a',h2,h3⟩
  exact⟨h1,a',hB _ _ _ _ h2,h3⟩
 ·obtain⟨a',w',h1,n,hn⟩:=zrq (rest:=rest) ho hw (h T d) b k (L++[stub P])
  exact qS E.g E.gp n _ L _ _ L w' (hr.on' T d) hn (.inl rfl) (.inl ⟨rfl,a',h1,rfl⟩)
 ·rintro fr L1 w AK ⟨rfl,a',h1,rfl⟩
  exact hn _ _ h1 b k L1 AK hk
theorem zeM(E:Env P P' O Fin)(ho:ops[i]?=ab o)(hw:aR o (yielded ops a.tmps)=ae){f:FuncId}{args:Array aj}{R:aj->ai->Prop}
  (cM:∀T d,(bd a.eval o).run P (World.on w T d)=.ok (.enter f args) (World.on w T d)) (hc:zoF P O Fin f args w R)
  (hn:∀v w1,R v w1->ET P O Fin ops Q rest (a.put o.dst v) w1):ET P O Fin ops Q (i::rest) a w:=by
 intro b k L hr hk
 have oV:∀v,(b.at a (.inRegion ops (i::rest)::k)).finish v=b.at (a.put o.dst v) (.inRegion ops rest::k):=by
  intro v;rw[eN,ho];rfl
 refine QK E (fr1:=aU P f args .normal) (L1:=b.at a (.inRegion ops (i::rest)::k)::L) hr (λ T d=>?_) λ rj=>?_
 ·have sC:=Frame.eval_at' b a (.inRegion ops (i::rest)::k)
  refine⟨seen P b.fn ((bd a.eval o).events P (World.on w T d) #[]),?_⟩
  have e:∀(fr:aB),fr.mode=.run->fr.todo=.inRegion ops (i::rest)::k->fr.tmps=a.tmps->fr.eval=a.eval->eG P fr L (World.on w T d)=.next (aU P f args .normal) (fr::L) (World.on w T d) (seen P fr.fn ((bd a.eval o).events P (World.on w T d) #[])) []:=by
   intro fr h1 h2 h3 h4
   have hw':((ab o).map (aR · (yielded ops a.tmps))).getD aa=ae:=hw
   have hp:(bd a.eval o).runT P (World.on w T d) #[]=(.ok (.enter f args) (World.on w T d),(bd a.eval o).events P (World.on w T d) #[]):=by rw[Sem.runT_eq,cM]
   simp only[eG,JB,h1,h2,h3,ho,hw',if_true,LF,h4,hp]
  exact e _ rfl rfl rfl sC
 ·refine hc _ L rj λ v w1 hv AK=>?_
  rw[oV] at AK ⊢
  exact hn v w1 hv b k L AK hk
end
end Rn
end Go.Proofs.YtdpfknhenjngcaaGreatDoor
