/-
  The company of the starter and its workers (part 7). No condition.
-/
import Derived.Test.YtelohkknmgaacaaGreatDoorZ6
import Derived.Conc.SmallLaws
import Derived.Conc.AtomicLaws
import Derived.Laws.Externs
import Derived.Lib.Builder
import Derived.Conc.CompanyDraw
import Derived.Lib.UnsafeStr
set_option linter.unusedSimpArgs false
set_option linter.unusedVariables false
set_option linter.unusedSectionVars false
set_option linter.defProp false
set_option maxRecDepth 100000
set_option maxHeartbeats 16000000
open Array renaming getElem?_eq_some_iff→ab,replicate→aK,getElem?_modify→bh,getElem?_eq_getElem→cB
open Go renaming Program→al,Value→Y,World→V,Goroutine→av,Event→bB,stepG→bg,Trace→nb,Frame→ag,FuncId→bu,Frame.enter→aF,Addr→bX,TypeId→ah,execOp→aG,stepG.apply→cD,FrameMode→xm,loadVar→dx,Operand→aU,Oper→bU,run_underlying→aT
open Go.Act renaming eval→a8
open Go.Builtin renaming unsafeString_→pI
open Go.CallKind renaming early→jW
open Go.Conc renaming Goes→sx,Good→sQ,mem_seen→nj,anyCH_take→jw
open Go.Frame renaming eval_at→kV,raise→gx
open Go.GStep renaming after→bP
open Go.Instr renaming alloc→nX,storeAt→jG,loadAt→dz
open Go.IntKind renaming i64→aD
open Go.MemAct renaming ofEvent→aI,touch?→cd
open Go.Next renaming value→dU
open Go.Op renaming equalIn→cY
open Go.Region renaming wanted→ar,free→gy,ready→bE
open Go.Result renaming evThen→vV
open List renaming mem_singleton→dC,getElem?_eq_getElem→aN
open Nat renaming zero_le→a7,blt→lA,le_refl→ao,zero_add→ew
open Option renaming map_eq_some_iff→ak,bind_eq_some_iff→bH
open Option.some renaming injEq→ay
open Prod.mk renaming injEq→aX
open Bool renaming true→E,false→H
open Option renaming some→C,none→U
namespace Go.Proofs.YtelohkknmgaacaaGreatDoor
open Tryz
namespace Rn
open Go Go.Conc Go.ConcM
def StT(N:al)(Fin:Y->V->Prop)(W0:V)(dead:Nat->Prop)(r:Rk)(g:av)(w:V):Prop:=∃a L b f c R rk,g=G f c/\Rk.lt rk r/\wT N (Ask N) Fin rk a L b/\zbv N W0 dead a L b f c w R
def Rk.nat:Nat->Rk|0=>Rk.bot|n+1=>.nd Unit λ_=>Rk.nat n
def Vv{P:al}{m:Bool}{R:V->V->Prop}{D:V->V->Array bB->Prop}{A B:av->V->Prop}(h:∀g w,A g w->B g w):∀{n:Nat}{g:av}{w:V},sx P m R D A n g w->sx P m R D B n g w|0,_,_,k=>λa r=>h _ _ (k a r)|n+1,g,w,k=>k.imp (λk a r=>h _ _ (k a r)) λk=>⟨k.1,λa r=>by have:=k.2 a r;revert this;cases bg P m g a<;>simp only[GStep.goes,imp_self];exactλ⟨d,x⟩=>⟨d,Vv h x⟩⟩
def Qk{P:al}{a:Bool}{D:V->V->Array bB->Prop}{A:av->V->Prop}{n:Nat}{g:av}{w:V}(h:sx P a Wb D A n g w):A g w\/∃m,n=m+1/\g.status=.running/\∀b,Wb w b->(bg P a g b).goes λc w' e=>D b w' e/\sx P a Wb D A m c w':=by cases n with|zero=>exact .inl (h w (.refl w))|succ n=>exact h.imp (λk=>k w (.refl w)) λk=>⟨n,rfl,k⟩
section
variable(N:al)(Fin:Y->V->Prop)(W0:V)
inductive Co:Ms->Machine->nb->Prop|pa{rk:Rk}{q:Nat->Nat}{dead:Nat->Prop}{gs:Array av}{w:V}{sl:Option (Nat×Nat)}{t:nb}{fr:ag}{L:List ag}{wg:V}{cm:ag}{L':List ag}{R:BR}(h:PA N Fin W0 rk q dead gs w t fr L wg cm L' R):Co ⟨rk,Rk.bot,Rk.bot,Rk.bot,left gs.size q⟩ (crowd gs w sl) t|ri{r1 rc:Rk}{n1:Nat}{cF:ag}{csF:List ag}{dead:Nat->Prop}{R0:BR}{wg:V}{fr:ag}{L:List ag}{mi iR:Array Y}{fH:Nat->Nat}{x:Nm}{bm:Bool}{j:Nat}{Z:Nat->jL}{q:Nat->Nat}{gs:Array av}{w:V}{sl:Option (Nat×Nat)}{t:nb}(c:Cx N Fin W0 r1 (c8 n1) cF csF dead n1 R0 wg fr L mi iR)(h:RI (c8 n1) (F2 N wg R0 (c8 n1) mi iR) cF csF W0 dead n1 R0 wg fH x rc bm j Z q gs w t):Co (zK r1 rc Z (IN gs q bm Z)) (crowd gs w sl) t|rt{r1:Rk}{n:Nat}{q:Nat->Nat}{dead:Nat->Prop}{gs:Array av}{w:V}{sl:Option (Nat×Nat)}{t:nb}{g0:av}(h:PB W0 q dead gs w t g0)(k:sx prog E Wb (UJ W0 dead) (StT N Fin W0 dead r1) n g0 w):Co ⟨r1,Rk.nat n,Rk.bot,Rk.bot,left gs.size q⟩ (crowd gs w sl) t|fa{r1 rc rk:Rk}{ph:Ph}{F:Nat->(Nat->Prop)->(Nat->Prop)->V->Prop}{cF:ag}{csF:List ag}{dead:Nat->Prop}{x:Nm}{mi iR:Array Y}{q:Nat->Nat}{gs:Array av}{w:V}{sl:Option (Nat×Nat)}{t:nb}{fr:ag}{L:List ag}{wg:V}{R:BR}(h:FA N Fin W0 r1 rk ph F cF csF dead x rc mi iR q gs w t fr L wg R):Co ⟨r1,rc,Rk.bot,Rk.bot,left gs.size q⟩ (crowd gs w sl) t
def zxL(μ:Ms)(m:Machine)(t:nb):Prop:=(∃o w b,stepT prog m=(.ended o w,b)/\sQ prog (Zc Fin W0) m o w (t++b))\/∃a b μ',stepT prog m=(.next a,b)/\(Ms.lt μ' μ\/∃ν,Ms.lt μ' ν/\Ms.lt ν μ)/\Co N Fin W0 μ' a (t++b)
end
section
variable{N:al}{Fin:Y->V->Prop}{W0:V}
def ze5{dead:Nat->Prop}{r:Rk}{n:Nat}{g:av}{w:V}(h:sx prog E Wb (UJ W0 dead) (StT N Fin W0 dead r) n g w):g.status=.running:=by
 rcases Qk h with⟨_,_,_,_,_,_,_,rfl,_⟩|⟨_,_,h,_⟩;.rfl
 .exact h
def PA.step(g:PG N prog)(gp:GP N)(D:∃fn,N.funcs[128]?=C fn/\fn.body.isSome=E)(wR:∀f fn,N.funcs[f]?=C fn->fn.body.isSome=E->prog.inits.idxOf? f=U){rk:Rk}{q:Nat->Nat}{dead:Nat->Prop}{gs:Array av}{w:V}{sl:Option (Nat×Nat)}{t:nb}{fr:ag}{L:List ag}{wg:V}{cm:ag}{L':List ag}{R:BR}(h:PA N Fin W0 rk q dead gs w t fr L wg cm L' R):(∃o w' ops,stepT prog (crowd gs w sl)=(.ended o w',ops)/\sQ prog (Zc Fin W0) (crowd gs w sl) o w' (t++ops))\/∃p ops μ',stepT prog (crowd gs w sl)=(.next p,ops)/\Ms.lt μ' ⟨rk,Rk.bot,Rk.bot,Rk.bot,left gs.size q⟩/\Co N Fin W0 μ' p (t++ops):=by
 have⟨i,g1,d,s,T,hr,hs⟩:=crowd_pick (P:=prog) (w:=w) (sl:=sl) h.b.awake ⟨0,_,h.b.main,rfl⟩;have h':=h.at d;rw[hs];by_cases z:i=0
 .subst z;cases h'.tree with |mk ρ ok lt F=>
  rcases ok (w.at d).tape (w.at d).drawn with⟨v,w1,es,r,X⟩|⟨fr1,L1,w1,es,acts,r⟩;.have⟨o,W,ops,a1,a2⟩:=h'.fin (sl:=s) g gp wR r X (crowd gs w sl) ⟨rfl,rfl⟩;grind
  .obtain⟨p,ops,a1,gs',W,a,c,Q,rfl,a3,a4⟩:=h'.next g gp r (F _ _ _ _ _ _ _ r);exact .inr ⟨_,ops,_,a1,.m (lt _ _ _),.pa a4⟩|@ask _ r1 _ _ _ S O A ρ lt k=>
  rcases O with O|O
  .obtain⟨p,ops,gs',x,rc,mi,iR,a1,rfl,a3,a4⟩:=h'.ask g gp D O λfr1 L1 w1 y I=>⟨ρ fr1 L1 w1,lt fr1 L1 w1,k fr1 L1 w1 y I⟩;exact .inr ⟨_,ops,_,a1,.m A,.ri a3 a4⟩
  .have⟨n,hn⟩:=O W0 dead cm L' (w.at d) R ⟨h'.f,h'.l,h'.h,h'.rn,h'.gf,λb J=>(h'.b.cb.dlt b J).1,h'.b.cb.size⟩;have u:=hn _ (.refl _);cases j:bg prog E (G cm L') (w.at d)with|go g2 w2 es=>rw[j]at u;have⟨d2,K⟩:=u;have k3:=Vv (B:=StT N Fin W0 dead r1) (λg w⟨fr1,L1,wg1,a,c,Z,e,y,q⟩=>⟨fr1,L1,wg1,a,c,Z,_,e,lt fr1 L1 wg1,k _ _ _ y ⟨Z,a,c,w,q.f,q.l,q.h,q.gf⟩,q⟩) K;obtain⟨p,ops,gs',a1,rfl,a3,a4⟩:=h'.b.go j d2 (ze5 k3);exact .inr ⟨_,ops,_,a1,.m A,.rt a4 k3⟩|_=>rw[j]at u;cases u
 .obtain⟨p,ops,M,gs',a1,rfl,a3,a4,a5⟩:=h'.b.I7 z T hr;refine .inr ⟨_,ops,_,a1,?_,.pa ⟨a4,h'.tree,h'.f,h'.l,h'.h,h'.rn,h'.gf⟩⟩;exact .n rfl rfl rfl rfl Y7
def zmO(g:PG N prog)(gp:GP N)(v:∃fn,N.funcs[128]?=C fn/\fn.body.isSome=E)(wR:∀f fn,N.funcs[f]?=C fn->fn.body.isSome=E->prog.inits.idxOf? f=U){μ:Ms}{m:Machine}{t:nb}(h:Co N Fin W0 μ m t):zxL N Fin W0 μ m t:=by
 cases h with |pa h=>
  rcases h.step g gp v wR with o|⟨e,S,μ',T,a2,W⟩;.exact .inl o
  .exact .inr ⟨e,S,μ',T,.inl a2,W⟩|@ri r1 rc n1 cF csF dead R0 wg fr L mi iR fH x bm j Z q gs w sl t c h=>
  have B:∀s WS RS w bd,s<2->fF (c8 n1) s (λb=>WS b\/RS b) w bd->F2 N wg R0 (c8 n1) mi iR s WS RS w->F2 N wg R0 (c8 n1) mi iR s WS RS bd:=λs WS RS w bd _ r h=>Xk r h;rcases h.step B r1 with⟨e,S,X,w',a,M,x',z8,G,O,I,y,T,rfl,_,a4,a5⟩|⟨rfl,d,a,hs,h',ha⟩;.exact .inr ⟨_,S,_,T,.inl a5,.ri c a4⟩
  .obtain⟨e,S,X,x',z8,IM,D9,rk,cm,J,K,T,rfl,W,a4,a5⟩:=h'.zqQ c ha;refine .inr ⟨_,S,_,hs.trans T,?_,.fa a5⟩;exact .inl (.c rfl a4)|@rt r1 n q dead gs w sl t g0 h k=>
  rcases Qk k with⟨fr,L,wg,cm,L',R,rk,rfl,k1,z,k3⟩|⟨m,rfl,Q,k1⟩
  .rcases PA.step g gp v wR ⟨h,z,k3.f,k3.l,k3.h,k3.rn,k3.gf⟩with o|⟨e,S,μ',T,a2,W⟩;.exact .inl o
   .exact .inr ⟨e,S,μ',T,.inr ⟨_,a2,.m k1⟩,W⟩
  .have⟨i,g1,d,a,D,hr,hs⟩:=crowd_pick (P:=prog) (w:=w) (sl:=sl) h.awake ⟨0,_,h.main,Q⟩;have h':=h.at d;by_cases u:i=0
   .subst u;have A:=k1 (w.at d) ⟨d,rfl⟩;cases p:bg prog E g0 (w.at d)with|go g2 w2 es=>rw[p]at A;have⟨d2,z⟩:=A;obtain⟨e,S,X,T,rfl,W,a4⟩:=h'.go p d2 (ze5 z);refine .inr ⟨_,S,_,hs.trans T,.inl ?_,.rt a4 z⟩;exact .c rfl ⟨(),rfl⟩|_=>rw[p]at A;cases A
   .obtain⟨e,S,y,X,T,rfl,W,a4,a5⟩:=h'.I7 u D hr;refine .inr ⟨_,S,_,hs.trans T,.inl ?_,.rt a4 (k.rely xn ⟨d,rfl⟩)⟩;exact .n rfl rfl rfl rfl Y7|@fa r1 rc rk ph F cF csF dead x mi iR q gs w sl t fr L wg R h=>
  have⟨i,g1,d,a,D,hr,hs⟩:=crowd_pick (P:=prog) (w:=w) (sl:=sl) h.awake ⟨0,_,h.main,(qR h.beh).1 h.kz⟩;rcases h.next (sl:=sl)with⟨hd,hx⟩|_
  .rcases(h.zup hd hx).step g gp v wR with o|⟨e,S,μ',T,a2,W⟩;.exact .inl o
   .exact .inr ⟨e,S,μ',T,.inr ⟨_,a2,.m h.lt⟩,W⟩
  .have h':=h.at d;by_cases u:i=0
   .subst u;rcases h'.next with⟨hd,hx⟩|⟨e,S,X,w',x',z8,T,rfl,W,a4,a5⟩
    .rcases(h.zup hd hx).step g gp v wR with o|⟨e,S,μ',T,a2,W⟩;.exact .inl o
     .exact .inr ⟨e,S,μ',T,.inr ⟨_,a2,.m h.lt⟩,W⟩
    .refine .inr ⟨_,S,_,hs.trans T,?_,.fa a5⟩;exact .inl (.c rfl a4)
   .obtain⟨e,S,X,y,T,rfl,W,a4,a5⟩:=h'.I7 u D hr;refine .inr ⟨_,S,_,hs.trans T,?_,.fa a4⟩;exact .inl (.n rfl rfl rfl rfl Y7)
def Ms.lt2(x y:Ms):Prop:=Ms.lt x y\/∃ν,Ms.lt x ν/\Ms.lt ν y
def Ms.zxS(x:Ms):Acc Ms.lt2 x:=by
 have k:∀x,Acc Ms.lt x->Acc Ms.lt2 x/\∀y,Ms.lt y x->Acc Ms.lt2 y:=by intro x c;induction c with|intro x _ i=>
  refine⟨⟨_,λy h=>?_⟩,λy h=>(i y h).1⟩;rcases h with h|⟨ν,a,b⟩;.simp_all
  .grind
 exact(k x (Ms.acc x)).1
def zrf(g:PG N prog)(gp:GP N)(h:∃p,N.funcs[128]?=C p/\p.body.isSome=E)(wR:∀f p,N.funcs[f]?=C p->p.body.isSome=E->prog.inits.idxOf? f=U):∀μ m t,Co N Fin W0 μ m t->∃n l o w t',runNT prog (n+1) m t=(.ended o w,t')/\runN prog n m=.next l/\Go.step prog l=.ended o w/\sQ prog (Zc Fin W0) l o w t':=by intro μ;induction Ms.zxS μ with|intro μ a i=>
 intro m t r;rcases zmO g gp h wR r with⟨o,w,k,s,q⟩|⟨b,k,μ',s,u,I⟩;.exact⟨0,m,o,w,t++k,by simp[runNT,s],rfl,by simp[Go.step,s],q⟩
 .have⟨n,l,o,w,t',c,d,e,j⟩:=i μ' u b (t++k) I;exact⟨n+1,l,o,w,t',by rw[Go.runNT_succ_next s];exact c,by rw[Go.runN_succ_next s];exact d,e,j⟩
end
def zex(W:V):HR (UP W) (UK W) W:=by refine⟨λa j b k l m h d=>⟨λe=>h.1▸d.1▸e,λe=>.inl Y0⟩,λa b l r=>?_,Jl W⟩;obtain⟨rfl,rfl,c,e,f,h⟩:=r;refine⟨_,_,tp h,h,.cells (.inl ⟨rfl,rfl⟩) (PF c) (λi v n _ a b=>?_) (.inr λi g=>⟨a7 _,g⟩)⟩;rw[(Ck a).1]at b;cases b;exact Gj (Ck a).2
def zsd{Sh D:Loc->Prop}{Wk:Nat->Prop}{W R:Nat->Loc->Prop}:TI Sh D Wk W R #[]:=by have no:∀i,touchAt #[] i=U:=λi=>rfl;refine⟨λi op x o=>(by simp at o),λg l _ i a c=>Y7,λg l _ i a c=>Y7,λs⟨i,k,_,⟨a,b,h,_⟩,_⟩=>(by cases h),λi⟨x,d,_⟩=>Y7,λi a o=>(by cases o)⟩
section
variable{N:al}{Fin:Y->V->Prop}{W:V}
end
open Go.RowKit
section
variable{N:al}{Fin:Y->V->Prop}{W:V}
def zgo(g:PG N prog)(gp:GP N){f:bu}{args m:Array Y}{w:V}{R:BR}{rk:Rk}(d:∃n,N.funcs[f]?=C n/\n.body.isSome=E)(o:AV R m args)(e:HR R w W)(z:∀a b l,R a b l->Fz w a)(h:∀g,lA g nGl=E->∃l,R g g l/\l<=1)(t:wT N (Ask N) Fin rk (aF N f m .normal) [] w):PA N Fin W rk (λ_=>0) (λ_=>False) #[G (aF prog f args .normal) []] W #[] (aF N f m .normal) [] w (aF prog f args .normal) [] R:=by refine⟨⟨rfl,rfl,rfl,λi g k _ c=>?_,⟨λ_ _=>rfl,ao _,λi x p=>(by cases p),λb j=>j.elim,λi op q=>(by simp at q),.refl _,rfl⟩,zsd⟩,t,nW g gp d o h,aA,e,λa b l r=>⟨id,λ_=>z a b l r⟩,λg c=>let⟨_,r,_⟩:=h g c;z _ _ _ r⟩;rw[Array.getElem?_eq_none (by simp;omega)]at c;cases c
def Ym(g:PG N prog)(gp:GP N)(d:∃j,N.funcs[128]?=C j/\j.body.isSome=E)(wR:∀f j,N.funcs[f]?=C j->j.body.isSome=E->prog.inits.idxOf? f=U){f:bu}{args x:Array Y}{w:V}{R:BR}(c:∃j,N.funcs[f]?=C j/\j.body.isSome=E)(m:AV R x args)(e:HR R w W)(z:∀a b l,R a b l->Fz w a)(h:∀g,lA g nGl=E->∃l,R g g l/\l<=1)(t:fG N (Ask N) Fin (aF N f x .normal) [] w):∃M i o k t',runNT prog (M+1) (solo (G (aF prog f args .normal) []) W) #[]=(.ended o k,t')/\runN prog M (solo (G (aF prog f args .normal) []) W)=.next i/\Go.step prog i=.ended o k/\sQ prog (Zc Fin W) i o k t':=by have⟨rk,r⟩:=zba t;exact zrf g gp d wR _ _ _ (Co.pa (zgo g gp c m e z h r))
end
def Wy(x:bX×List Y):Nat:=if x.2.isEmpty then 0 else x.1.off
def zqY(x:bX×List Y):Obj:=.cells (List.replicate (Wy x) (Value.bool H)++x.2).toArray rQ (0,Wy x+x.2.length)
def vO(W:V)(a:List (bX×List Y)):V:={W with heap:=(a.map zqY).toArray}
def I3(c:List (bX×List Y)):BR:=λa b l=>∃x,c[a]?=C x/\b=x.1.block/\l=x.1.off+1
def Za(W:V)(x:bX×List Y):Prop:=∃c e f,W.heap[x.1.block]?=C (.cells c e f)/\∀(i:Nat)(v:Y),x.2[i]?=C v->c[x.1.off+i]?=C v/\u5 v=E
def AG(W:V)(b:List (bX×List Y))(a:Nat):(vO W b).heap[a]?=(b[a]?).map zqY:=by simp[vO]
variable{W:V}
def GK{d:List (bX×List Y)}{a b l:Nat}(h:I3 d a b l):Fz (vO W d) a:=by have⟨x,c,_⟩:=h;exact⟨_,_,_,by rw[AG,c];rfl,λi e=>⟨a7 _,Y7⟩⟩
def zj4{t:List (bX×List Y)}(q:∀x∈t,Za W x):HR (I3 t) (vO W t) W:=by
 refine⟨λa G b I l m k n=>⟨λe=>?_,λ_=>.inr ⟨GK k,GK n⟩⟩,λa b l h=>?_,λb o h=>?_⟩;.obtain⟨x,d,rfl,_⟩:=k;obtain⟨y,p,rfl,_⟩:=n;subst e;rw[d]at p;cases p;rfl
 .obtain⟨x,d,rfl,rfl⟩:=h;have⟨c,e,f,A,k3⟩:=q x (List.mem_of_getElem? d);have s:Wy x+x.2.length<=c.size:=by unfold Wy;cases w:x.2 with|nil=>simp|cons v r=>have:=(ab.1 (k3 r.length ((v::r)[r.length]'Y1) Y7).1).1;simp;omega
  refine⟨_,_,by rw[AG,d];rfl,A,.cells (.inr ⟨rfl,Y0⟩) Y7 (λi v J B u g=>?_) (.inr λi B=>⟨a7 _,Y7⟩)⟩;have j:x.1.off<=i:=Y0;simp[List.getElem?_toArray]at u;have D:Wy x=x.1.off:=by unfold Wy at u⊢;cases w:x.2 with|nil=>rw[w]at u;simp at u|cons a r=>rfl
  rw[List.getElem?_append_right Y7]at u;simp[List.length_replicate,D]at u;have⟨z,F⟩:=k3 _ _ u;rw[show x.1.off+(i-x.1.off)=i by omega,g]at z;cases z;exact Gj F
 .rw[AG]at h;obtain⟨x,_,rfl⟩:=ak.1 h;trivial
def zjD{x:bX}(a:x.spot=U){c:Array Y}{e:ah}{f:Nat×Nat}(h:W.heap[x.block]?=C (.cells c e f))(i:Nat):W.cell? (x.add i)=c[x.off+i]?:=by
 have⟨b,o,s⟩:=x;simp  at a h;subst a;have:(⟨b,o,U⟩:bX).add i=⟨b,o+i,U⟩:=by unfold Addr.add;split<;>simp_all
 rw[this,World.cell?];simp[h]
def znm{x:bX}{a:List Y}(s:x.spot=U)(r:∃c e f,W.heap[x.block]?=C (.cells c e f))(b:∀(i:Nat)(v:Y),a[i]?=C v->W.cell? (x.add i)=C v/\u5 v=E):Za W (x,a):=by have⟨c,e,f,h⟩:=r;exact⟨c,e,f,h,λi v d=>⟨by rw[<-zjD s h];simp_all,(b i v d).2⟩⟩
def zj6{a:List (bX×List Y)}{k:Nat}{x:bX×List Y}(h:a[k]?=C x)(s:x.1.spot=U)(n c:Nat):VR (I3 a) (.slice (C ⟨k,x.1.off,U⟩) n c) (.slice (C x.1) n c):=.slice _ _ ⟨⟨x.1.off+1,⟨x,h,rfl,rfl⟩,Y1⟩,rfl,s.symm⟩
def znJ{N:al}(g:PG N prog)(gp:GP N)(d:∃w,N.funcs[128]?=C w/\w.body.isSome=E)(wR:∀f w,N.funcs[f]?=C w->w.body.isSome=E->prog.inits.idxOf? f=U){f:bu}{args z:Array Y}{t:List (bX×List Y)}(j:∃w,N.funcs[f]?=C w/\w.body.isSome=E)(A:AV (I3 t) z args)(n:∀x∈t,Za W x)(h:∀g,lA g nGl=E->∃x,t[g]?=C x/\x.1.block=g/\x.1.off=0)(B:ou N ⟨aF N f z .normal,[],vO W t⟩->fG N (Ask N) (λv _=>v=.bool E) (aF N f z .normal) [] (vO W t)):∃M u o y t',runNT prog (M+1) (solo (G (aF prog f args .normal) []) W) #[]=(.ended o y,t')/\runN prog M (solo (G (aF prog f args .normal) []) W)=.next u/\Go.step prog u=.ended o y/\sQ prog (λv k=>v=.bool E/\Below W.heap.size W {k with os:=W.os,tape:=W.tape}/\OsLater W.os k.os) u o y t':=by have m:=zj4 n;have gl:∀g,lA g nGl=E->∃l,I3 t g g l/\l<=1:=λg a=>let⟨x,b,c,i⟩:=h g a;⟨1,⟨x,b,c.symm,by rw[i]⟩,ao _⟩;have⟨M,u,o,y,t',b,c,i,v,e,⟨J,w1,R,D,F,_,I,p,k3,q⟩,s⟩:=Ym g gp d wR j A m (λ_ _ _=>GK) gl (B ⟨_,_,[],W,nW g gp j A gl,aA,m,λg a=>let⟨_,r,_⟩:=gl g a;GK r⟩);refine⟨M,u,o,y,t',b,c,i,v,e,⟨?_,⟨rfl,rfl,q,p,I⟩,k3⟩,s⟩;subst D;cases F;rfl
end Rn
namespace Rn
open Go Go.Conc Go.ConcM
section
variable{N:al}{fr:ag}{L:List ag}{w:V}
def znR{v:Y}(h:zop fr v):Seg N fr L w (λs y w1=>s={fr with mode:=.panicking [{v,recovered:=H}]}/\y=L/\w1=w):=by
 obtain⟨b,a,g,i,r,k,o,x,rfl,z,A,t,B,D,p⟩:=h;intro W dead cm u q R rt;have m:cm.mode=.run:=by rw[rt.f.mode];rfl
 have F:cm.todo=.inRegion g (i::r)::k:=by rw[rt.f.todo];rfl
 have c:ar o (yielded g cm.tmps)=E:=by rw[rt.f.tmps.yielded g];exact A
 refine⟨0,λI⟨d,e⟩=>?_⟩;subst e;have e:(aG cm.eval o).runT prog (q.at d) #[]=(.halt (.panic v) (q.at d),#[]):=by
  unfold aG;simp only[t,znw (by have:=rt.f.eval B;rwa[kV,D]at this) p];unfold zhO at p;split at p;.rfl
  .cases p
 rw[Sem.runT_eq,aX]at e;have J:(cm.kind==jW)=H:=by rw[rt.f.pE];rfl
 rw[Jq (o:=o) m rt.f.lT (by unfold YV;rw[F];simp[z,c])];have j:cD prog E cm u U (aG cm.eval o) (q.at d)=.go (G {cm with mode:=.panicking [{v,recovered:=H}]} u) (q.at d) #[]:=by simp[cD,e.1,e.2,J,bP,G,gx,m,seen]
 rw[j];have K:u2 N R {b.at a (.inRegion g (i::r)::k)with mode:=.panicking [{v,recovered:=H}]} {cm with mode:=.panicking [{v,recovered:=H}]}:=⟨rt.f.fn,rt.f.has,rt.f.tmps,rt.f.todo,rt.f.ok,rt.f.defers,rfl,rt.f.norm,rt.f.pE,rt.f.round,rt.f.lT,rt.f.gl⟩;exact⟨.refl _,λI⟨n,e⟩=>e▸⟨_,_,_,_,_,R,rfl,⟨rfl,rfl,rfl⟩,K,rt.l,⟨rt.h.inj,rt.h.obj,rt.h.kinds⟩,rt.rn,rt.gf,rt.dl,rt.wz⟩⟩
def znS(g:PG N prog){c:ag}{ch:List PanicEntry}(n:fr.mode=.panicking ch)(v:fr.defers=[]):Seg N fr (c::L) w (λt z w1=>t=c.raise ch/\z=L/\w1=w):=by intro W dead r s u R rt;have a:=rt.l;match s,a with
 |b::s,a=>
 have m:r.mode=.panicking ch:=by rw[rt.f.mode];exact n
 have i:r.defers=[]:=by have:=rt.f.defers;rw[v]at this;cases h:r.defers with|nil=>rfl|cons x y=>rw[h]at this;cases this
 have⟨fn,o,A⟩:=rt.f.has;have j:prog.funcs[r.fn]?=C fn:=by rw[rt.f.fn];exact g.same o (A.resolve_right λ⟨d,h,_⟩=>Y7)
 have k:∀{x:ag},x.mode=.run->x.raise ch={x with mode:=.panicking ch}:=λh=>by unfold gx;rw[h]
 have B:=k (by rw[a.1.base.mode];exact a.1.run);refine⟨0,λD⟨d,e⟩=>?_⟩;subst e;have p:bg prog E (G r (b::s)) (u.at d)=.go (G (b.raise ch) s) (u.at d) #[]:=by simp[bg,G,m,unwind,i,Frame.catches,j]
 rw[p];have F:u2 N R (c.raise ch) (b.raise ch):=by rw[k a.1.run,B];exact⟨a.1.base.fn,a.1.base.has,a.1.base.tmps,a.1.base.todo,a.1.base.ok,a.1.base.defers,rfl,a.1.base.norm,a.1.base.pE,a.1.base.round,a.1.base.lT,a.1.base.gl⟩
 exact⟨.refl _,λD⟨q,e⟩=>e▸⟨_,_,_,_,_,R,rfl,⟨rfl,rfl,rfl⟩,F,a.2,⟨rt.h.inj,rt.h.obj,rt.h.kinds⟩,rt.rn,rt.gf,rt.dl,rt.wz⟩⟩
end
noncomputable def Lg:Code:=match f23.body with|some (.seq _ (.seq _ c))=>c|_=>.skip
abbrev UO:bu:=23
@[irreducible]def wV(p s q:Y):Array Y:=((((#[p,s]++aK 37 undef).setIfInBounds 4 q).setIfInBounds 7 (.func (.func clF) #[] #[q])))
noncomputable def zoS(p s q:Y)(d:List Deferred):ag:={fn:=UO,tmps:=wV p s q,todo:=[.code Lg],defers:=d,mode:=.run,kind:=.normal,roundOf:=U}
def zqs(s:Y):Obj:=.cells #[s] 9 (0,0)
def WC(w:V):V:={w with heap:=w.heap.push (zqs (.string .empty))}
def OF(w:V):Y:=.pointer (C ⟨w.heap.size,0,U⟩)
section
variable(p s q:Y)(cs:List ag)
noncomputable def OY:ag×List ag:=(aF prog UO #[p,s] .normal,cs)
def zrF:(Oa prog 4 (OY p s cs)).1.mode=.run/\((Oa prog 4 (OY p s cs)).1.kind==jW)=H/\(Oa prog 4 (OY p s cs)).1.roundOf=U/\(YV (Oa prog 4 (OY p s cs)).1).map (·.op)=C (.alloc 9):=⟨gK,gK,gK,gK⟩
def zrG:Oa prog 6 ((Oa prog 4 (OY p s cs)).1.finish q,(Oa prog 4 (OY p s cs)).2)=(zoS p s q [⟨.fn (.func clF) #[q],#[]⟩],cs):=gK
end
def Ve{P:al}{t:ah}{i:TypeInfo}{z:Y}(a:P.info? t=C i)(h:i.zero=C z)(w:V):((do pure (dU (←nX t E (.tuple #[]))):Sem Next)).runT P w #[]=(.ok (.value (.pointer (C ⟨w.heap.size,0,U⟩))) {w with heap:=w.heap.push (.cells z.cells t)},#[]):=by
 have e:(zeroValue t).runT P w #[]=(.ok z w,#[]):=by unfold zeroValue;rw[cn,Oh a];simp only[h];rfl
 rw[cn];unfold nX;rw[cn,e];rfl
def zju{R:BR}(n:Nat):AV R (aK n undef) (aK n undef):=⟨rfl,λi v b h a=>by
 rw[h]at a;cases a;rw[Array.getElem?_replicate]at h;split at h;.cases h;exact oT
 .cases h⟩
def zkq{R:BR}{p s q b f c:Y}(g:VR R p b)(j:VR R s f)(h:VR R q c):AV R (wV p s q) (wV b f c):=by unfold wV;have d:=(AV.nil.push g).push j;have e:VR R (.func (.func clF) #[] #[q]) (.func (.func clF) #[] #[c]):=.func _ rfl (λi v k a=>by simp at a) rfl (AV.one h).at_;exact((d.app (zju 37)).set 4 h).set 7 e
def zev{fr:ag}(h:fr.mode=.run)(a:fr.roundOf=U):fr.at ⟨fr.tmps,fr.defers⟩ fr.todo=fr:=by cases fr;simp  at h a;subst h a;rfl
def zy8:(prog.info? 9).bind (·.zero)=C (.string .empty):=gK
section
variable{N:al}{b:ag}{a:Act}{ops:Array bU}{i:Nat}{rest:List Nat}{k:List Item}{o:bU}{x0 x1:aU}{SJ:Array ah}{p s:Y}{wg:V}{L:List ag}
def zk1(g:PG N prog)(q:∃fn,N.funcs[UO]?=C fn)(r:ll N Lg=E)(ho:ops[i]?=C o)(hw:ar o (yielded ops a.tmps)=E)(oz:o.op=.call {callee:=.value (.func UO),args:=#[x0,x1],argTypes:=SJ})(t:oC x0=E)(u:oC x1=E)(hp:a.eval x0=p)(hs:a.eval x1=s):Seg N (b.at a (.inRegion ops (i::rest)::k)) L wg (fun fr1 L1 w1=>fr1=zoS p s (OF wg) [⟨.nil,#[OF wg]⟩]∧L1=b.at a (.inRegion ops (i::rest)::k)::L∧w1=WC wg):=by
  intro W0 dead Z L' w R rt;have y:Z.mode=.run:=by rw[rt.f.mode];rfl
  have z:Z.todo=.inRegion ops (i::rest)::k:=by rw[rt.f.todo];rfl
  have c:=zev y rt.f.lT;rw[z]at c;have A:ar o (yielded ops Z.tmps)=E:=by rw[rt.f.tmps.yielded ops];exact hw
  have ev:∀x,oC x=E→VR R (a.eval x) (a8 ⟨Z.tmps,Z.defers⟩ x):=fun x hx=>by have :=rt.f.eval hx;rw[kV]at this;rw[←c,kV]at this;exact this
  have B:=ev x0 t;have vs:=ev x1 u;rw[hp]at B;rw[hs]at vs;have h:=fun w=>pV (main:=E) (a:=⟨Z.tmps,Z.defers⟩) (rest:=rest) (kk:=k) (cs:=L') (w:=w) ho A (by rw[rt.f.pE];simp) oz func23 rfl rfl;rw[c]at h;have j:#[x0,x1].map (a8 ⟨Z.tmps,Z.defers⟩)=#[a8 ⟨Z.tmps,Z.defers⟩ x0,a8 ⟨Z.tmps,Z.defers⟩ x1]:=Y1;rw[j]at h;generalize a8 ⟨Z.tmps,Z.defers⟩ x0=P at h B;generalize a8 ⟨Z.tmps,Z.defers⟩ x1=s' at h vs;refine⟨0+6+1+4,fun bd⟨d,e⟩=>?_⟩;subst e;rw[h];refine⟨.refl _,lU 4 (x:=OY P s' (Z::L')) ?_⟩;have⟨G,W,I,J⟩:=zrF P s' (Z::L');have⟨Q,K,M⟩:=ak.1 J;have⟨inf,D,z2⟩:=bH.1 zy8;refine Pd (N:=N) (wg1:=WC wg) (n:=.value (OF wg)) (es:=#[]) (rt.wv.at d) G W I K (s:=do pure (dU (←nX 9 E (.tuple #[])))) ?_ (fun T d=>?_) (.inl ⟨_,rfl⟩) fun S w1 O hq _ hle m _=>?_;. unfold aG;simp[M];exact ow (PS g.pe fun i v X F R=>by rw[←g.pe.Ag,D]at X;cases X;rw[z2]at F;cases F;exact .string _)
  .exact Ve (by rw[←g.pe.Ag];exact D) z2 (World.on wg T d)
  . have hq:=hq _ rfl;apply lU 6;rw[zrG];refine Gt fun d=>⟨_,_,_,_,_,O,rfl,⟨rfl,rfl,rfl⟩,(m.at d).rt ?_ ?_⟩
    . have⟨fn,q⟩:=q;refine⟨rfl,⟨fn,q,.inr ⟨_,dC.2 rfl,rfl⟩⟩,?_,rfl,fun x hx=>?_,⟨.clo hq,aA⟩,rfl,rfl,rfl,rfl,rfl,m.gl⟩;.exact zkq (B.mono hle) (vs.mono hle) hq
      . rcases dC.1 hx with rfl;exact r
    .refine⟨⟨rt.f.mono hle,rfl,⟨_,_,_,_,rfl⟩⟩,rt.l.mono hle⟩
end
abbrev Dw:ByteArray:=⟨#[119,104,97,116]⟩
def S5(s:ByteArray):Y:=.iface 75 (.agg #[.string s])
def zhM(tm:Array Y)(td:List Item)(q:Y)(m:xm):ag:=⟨UO,tm,td,[⟨.fn (.func clF) #[q],#[]⟩],m,.normal,U⟩
def OZ(tm:Array Y)(td:List Item):ag:=⟨UO,tm,td,[],.returning,.normal,U⟩
section
variable(tm:Array Y)(td:List Item)(a' b':bX)(c:ag)(cs:List ag)(s:ByteArray)
noncomputable def ep0:ag×List ag:=(zhM tm td (.pointer (C a')) (.panicking [{v:=S5 s,recovered:=H}]),c::cs)
noncomputable def ep1:ag×List ag:=Oa prog 13 ((MF prog (ep0 tm td a' c cs s)).getD (ep0 tm td a' c cs s))
noncomputable def ep2:ag×List ag:=Oa prog 8 ((ep1 tm td a' c cs s).1.finish undef,(ep1 tm td a' c cs s).2)
noncomputable def ep3:ag×List ag:=((ep2 tm td a' c cs s).1.finish (.pointer (C b')),(ep2 tm td a' c cs s).2)
noncomputable def ep4:ag×List ag:=Oa prog 9 ((ep3 tm td a' b' c cs s).1.finish undef,(ep3 tm td a' b' c cs s).2)
noncomputable def ep5:ag×List ag:=((ep4 tm td a' b' c cs s).1.finish (.string s),(ep4 tm td a' b' c cs s).2)
structure Abt(x:ag)(o:Op):Prop where
 mode:x.mode=.run
 kind:(x.kind==jW)=H
 round:x.roundOf=U
 op:(YV x).map (·.op)=C o
def zu5:Oa prog 14 ((MF prog (zhM tm td (.pointer (C a')) .returning,c::cs)).getD (OZ tm td,[]))=(OZ tm td,c::cs)/\MF prog (zhM tm td (.pointer (C a')) .returning,c::cs)=C ((MF prog (zhM tm td (.pointer (C a')) .returning,c::cs)).getD (OZ tm td,[])):=⟨gK,gK⟩
def zx7:MF prog (ep0 tm td a' c cs s)=C ((MF prog (ep0 tm td a' c cs s)).getD (ep0 tm td a' c cs s)):=gK
def zx8:Abt (ep1 tm td a' c cs s).1 (.store 9 (.tmp 0) (.const (.string Dw)))/\(ep1 tm td a' c cs s).1.eval (.tmp 0)=.pointer (C a'):=⟨⟨gK,gK,gK,gK⟩,gK⟩
def zx9:Abt (ep2 tm td a' c cs s).1 (.alloc 75):=⟨gK,gK,gK,gK⟩
def zya:Abt (ep3 tm td a' b' c cs s).1 (.store 75 (.tmp 2) (.tmp 10))/\(ep3 tm td a' b' c cs s).1.eval (.tmp 2)=.pointer (C b')/\(ep3 tm td a' b' c cs s).1.eval (.tmp 10)=.agg #[.string s]:=⟨⟨gK,gK,gK,gK⟩,gK,gK⟩
def zyb:Abt (ep4 tm td a' b' c cs s).1 (.load 9 (.tmp 13))/\(ep4 tm td a' b' c cs s).1.eval (.tmp 13)=.pointer (C (b'.add 0)):=⟨⟨gK,gK,gK,gK⟩,gK⟩
def zyc:Abt (ep5 tm td a' b' c cs s).1 (.store 9 (.tmp 0) (.tmp 14))/\(ep5 tm td a' b' c cs s).1.eval (.tmp 0)=.pointer (C a')/\(ep5 tm td a' b' c cs s).1.eval (.tmp 14)=.string s:=⟨⟨gK,gK,gK,gK⟩,gK,gK⟩
def zyd:Oa prog 3 ((ep5 tm td a' b' c cs s).1.finish undef,(ep5 tm td a' b' c cs s).2)=(OZ tm td,c::cs):=gK
end
variable{r:Nat}{u x:Y}{w:V}
def zdh{P:al}{t:ah}{o:Nat}{v:Y}(s:(P.info? t).map (·.size)=C 1)(h:v.cells=#[u])(b:nF u=E)(d:w.cell? ⟨r,o,U⟩=C x)(f:w.frozen? ⟨r,o,U⟩=H):(do jG t (.pointer (C ⟨r,o,U⟩)) v;pure Next.skip:Sem Next).runT P w #[]=(.ok .skip (w.setCell ⟨r,o,U⟩ u),#[⟨.cell ⟨r,o,U⟩,E,H⟩]):=by
 rw[cn];have e:(jG t (.pointer (C ⟨r,o,U⟩)) v).runT P w #[]=(.ok () (w.setCell ⟨r,o,U⟩ u),#[⟨.cell ⟨r,o,U⟩,E,H⟩]):=by
  show(storeVar t ⟨r,o,U⟩ v).runT P w #[]=_;unfold storeVar;rw[cn,sE s];have c:v.cells.size=1:=by rw[h];rfl
  simp only[c,ne_eq,not_true_eq_false,if_false];rw[h];unfold storeCells;rw[cn,eC,Nat.add_zero];have a:(store ⟨r,o,U⟩ u).runT P w #[]=(.ok () (w.setCell ⟨r,o,U⟩ u),#[⟨.cell ⟨r,o,U⟩,E,H⟩]):=by cases u<;>first|(cases b;done)|(show Sem.runT P (.store .plain ⟨r,o,U⟩ _ (.pure ())) w #[]=_;simp only[Sem.runT,d,f];rfl)
  rw[a];rfl
 rw[e];rfl
def vm{P:al}{t:ah}{d:TypeDesc}{a:bX}{v:Y}(u:P.underlying t=C d)(b:d.isRow=H)(h:w.cell? a=C v):(dx t a).runT P w #[]=(.ok v w,#[⟨.cell a,H,H⟩]):=by
 have e:(isAgg t).runT P w #[]=(.ok H w,#[]):=by unfold isAgg;rw[cn,tw u];cases d<;>first|(cases b;done)|rfl
 unfold dx;rw[cn,e];simp only[Bool.false_eq_true,if_false];show Sem.runT P (.load .plain a .pure) w #[]=_;simp only[Sem.runT,h];rfl
def PO{e:ah}(h:w.heap[r]?=C (.cells #[x] e (0,0))):(w.setCell ⟨r,0,U⟩ u).heap[r]?=C (.cells #[u] e (0,0)):=by simp[World.setCell,bh,h]
def VP{b:Nat}(h:b≠r):(w.setCell ⟨r,0,U⟩ u).heap[b]?=w.heap[b]?:=by simp[World.setCell,bh,cA h]
def AK{e:ah}(h:w.heap[r]?=C (.cells #[x] e (0,0))):w.cell? ⟨r,0,U⟩=C x/\w.frozen? ⟨r,0,U⟩=H:=by simp[World.cell?,World.frozen?,h]
def szS:(prog.info? 9).map (·.size)=C 1:=gK
def szR:(prog.info? 75).map (·.size)=C 1:=gK
def unS:(prog.underlying 9).map (·.isRow)=C H:=gK
def zy7:(prog.info? 75).bind (·.zero)=C (.agg #[.string .empty]):=gK
def zrH:f23.results=#[.cell 4 9]:=gK
section
variable{N:al}{W0:V}{dead:Nat->Prop}{A:av->V->Prop}{wg wg1 w:V}{R:BR}{m:Nat}{x:ag×List ag}{r:Nat}{s:ByteArray}
def zat{y:ag×List ag}(h:MF prog x=C y)(k:Sg W0 dead A m y w):∀a,Wb w a->(bg prog E (G x.1 x.2) a).goes λg w' e=>UJ W0 dead a w' e/\sx prog E Wb (UJ W0 dead) A m g w':=λa r=>by rw[VS h a];exact⟨.refl _,k.rely xn r⟩
def GZ(g:PG N prog)(h:Wv W0 dead wg w R){t:ah}{p f:aU}{v B u y:Y}{q:Y}(s:Abt x.1 (.store t p f))(F:x.1.eval p=q)(G:x.1.eval f=B)(i:VR R (.pointer (C ⟨r,0,U⟩)) q)(j:VR R v B)(I:(prog.info? t).map (·.size)=C 1)(b:v.cells=#[u])(J:nF u=E)(K:wg.cell? ⟨r,0,U⟩=C y)(l:wg.frozen? ⟨r,0,U⟩=H)(k:∀w1 a,R.le a->Wv W0 dead (wg.setCell ⟨r,0,U⟩ u) w1 a->Sg W0 dead A m (x.1.finish undef,x.2) w1):Sg W0 dead A (m+1) x w:=by
 have⟨o,n,z⟩:=ak.1 s.op;refine Pd (wg1:=wg.setCell ⟨r,0,U⟩ u) h s.mode s.kind s.round n ?_ (λT d=>zdh (by rw[<-g.pe.Ag];exact I) b J K l) (.inr rfl) λB w1 a _ e D c _=>?_
 .unfold aG;simp[z,F,G];exact .seq (QM g.pe t i j) λ_ _ _ _ _=>.pure .skip
 .rw[e rfl];exact k w1 a D c
def zji(g:PG N prog)(h:Wv W0 dead wg w R){t v:Array Y}{x:List Item}{c:ag}{a:List ag}(y:AV R t v)(j:t.getD 4 undef=.pointer (C ⟨r,0,U⟩))(z:wg.cell? ⟨r,0,U⟩=C (.string s))(k:∀w1 b,R.le b->Wv W0 dead wg w1 b->Sg W0 dead A m (c.finish (.string s),a) w1):Sg W0 dead A (m+1) (OZ v x,c::a) w:=by
 refine Goes.step rfl λI B=>?_;obtain⟨d,rfl⟩:=B;have⟨u,D,F⟩:=ak.1 unS;have l:∀T d,(results f23 t).runT N (World.on wg T d) #[]=(.ok (.string s) (World.on wg T d),#[⟨.cell ⟨r,0,U⟩,H,H⟩]):=λT d=>by
  have:=vm (w:=World.on wg T d) (by rw[<-g.pe.under];exact D) F z;unfold results;rw[zrH];simp[List.mapM_toArray];rw[Sem.runT_eq,aX]at this;have e:t[4]?.getD undef=.pointer (C ⟨r,0,U⟩):=by simpa using j
  simp[e,asAddr,this.1,this.2]
 have⟨J,w1,f,b,i,n,o,e,p,_⟩:=h.run (EW g.pe _ y) l d;rw[Sem.runT_eq,aX]at i;cases n;have q:bg prog E (G (OZ v x) (c::a)) (w.at d)=.go (G (c.finish (.string s)) a) w1 (seen prog UO f):=by simp[bg,G,OZ,unwind,func23,i.1,i.2,doReturn,bP]
 rw[q];exact⟨p _,k w1 b o e⟩
variable{fr:ag}{L0:List ag}{c:ag}{e:ah}{y:Y}
structure LnE(fr:ag)(r:Nat)(m:xm):Prop where
 fn:fr.fn=UO
 mode:fr.mode=m
 defs:fr.defers=[⟨.nil,#[.pointer (C ⟨r,0,U⟩)]⟩]t4:fr.tmps.getD 4 undef=.pointer (C ⟨r,0,U⟩)
def LnE.right{m:xm}(h:LnE fr r m){i:ag}(k:u2 N R fr i):∃j,i=zhM i.tmps i.todo (.pointer (C j)) m/\VR R (.pointer (C ⟨r,0,U⟩)) (.pointer (C j)):=by have l:=k.defers;rw[h.defs]at l;have⟨o,t,p,d,q,f,s⟩:=i;have e:=k.fn;have a:=k.mode;have b:=k.pE;have c:=k.lT;simp  at e a b c l;rw[h.fn]at e;rw[h.mode]at a;subst e a b c;match d,l with|[g],l=>cases l.1 with|@clo _ u v=>cases v with|@pointer _ j n=>cases j with|none=>cases n|some j=>exact⟨j,rfl,.pointer n⟩
def znU(g:PG N prog)(b:LnE fr r .returning)(o:wg.cell? ⟨r,0,U⟩=C (.string s)):Seg N fr (c::L0) wg (λn p w1=>n=c.finish (.string s)/\p=L0/\w1=wg):=by intro W0 dead k q w R rt;have L:=rt.l;match q,L with|i::a,L=>have⟨u,e,A⟩:=b.right rt.f;have t:=rt.f.tmps;generalize k.tmps=v at e t;generalize k.todo=x at e;have⟨y,z⟩:=zu5 v x u i a;refine⟨0+1+14,?_⟩;subst e;refine zat z (lU 14 ?_);rw[y];refine zji g rt.wv t b.t4 o λw1 j m h=>Gt λd=>⟨_,_,_,_,_,j,rfl,⟨rfl,rfl,rfl⟩,(h.at d).rt ((L.1.base.mono m).finish (.string s)) (L.2.mono m)⟩
def WE(w:V)(r:Nat)(s:ByteArray):V:=let W:=w.setCell ⟨r,0,U⟩ (.string Dw)
 (World.setCell {W with heap:=W.heap.push (.cells #[.string .empty] 75)} ⟨W.heap.size,0,U⟩ (.string s)).setCell ⟨r,0,U⟩ (.string s)
def znT(g:PG N prog)(M:LnE fr r (.panicking [{v:=S5 s,recovered:=H}]))(hc:wg.heap[r]?=C (.cells #[y] e (0,0))):Seg N fr (c::L0) wg (fun fr1 L1 w1=>fr1=c.finish (.string s)∧L1=L0∧w1=WE wg r s):=by intro W0 dead cm L' w R rt;have B:=rt.l;match L',B with
 |b::L,B=>
 have⟨a',D,hv⟩:=M.right rt.f;have ht:=rt.f.tmps;generalize cm.tmps=tm at D ht;generalize cm.todo=td at D;have hr:=(ab.1 hc).1;refine⟨0+1+3+1+1+9+1+1+8+1+13,?_⟩;subst D;refine zat (zx7 tm td a' b L s) (lU 13 ?_);have⟨p1,p2⟩:=zx8 tm td a' b L s;have Z:=AK hc;refine GZ g rt.wv p1 p2 rfl hv (.string _) szS rfl rfl Z.1 Z.2 fun w1 R1 k P=>lU 8 ?_;have F:=PO (u:=.string Dw) hc;have p3:=zx9 tm td a' b L s;have⟨o0,q1,q2⟩:=ak.1 p3.op;have⟨inf,z1,z2⟩:=bH.1 zy7;refine Pd (x:=ep2 tm td a' b L s) (wg1:={wg.setCell ⟨r,0,U⟩ (.string Dw)with heap:=(wg.setCell ⟨r,0,U⟩ (.string Dw)).heap.push (.cells #[.string .empty] 75)}) (n:=.value (.pointer (C ⟨(wg.setCell ⟨r,0,U⟩ (.string Dw)).heap.size,0,U⟩))) P p3.mode p3.kind p3.round q1 ?_ (fun T d=>Ve (by rw[←g.pe.Ag];exact z1) z2 (World.on (wg.setCell ⟨r,0,U⟩ (.string Dw)) T d)) (.inl ⟨_,rfl⟩) fun q' w2 G hq _ m Q0 _=>?_;. unfold aG;simp[q2];exact ow (PS g.pe fun i v q h2 R=>by rw[←g.pe.Ag,z1]at q;cases q;rw[z2]at h2;cases h2;exact VR.zbx (AV.one (.string _)))
 have hq:=hq _ rfl;have hs1:(wg.setCell ⟨r,0,U⟩ (.string Dw)).heap.size=wg.heap.size:=by simp[World.setCell]
 generalize I:wg.setCell ⟨r,0,U⟩ (.string Dw)=W at*;cases hq with|@pointer _ b' J=>cases b' with|none=>cases J|some b'=>
 have hq:VR G (.pointer (C ⟨W.heap.size,0,U⟩)) (.pointer (C b')):=.pointer J;have hn:({W with heap:=W.heap.push (.cells #[.string .empty] 75)}:V).heap[W.heap.size]?=C (.cells #[.string .empty] 75 (0,0)):=Y1;have q:=AK hn;have⟨p4,p5,p6⟩:=zya tm td a' b' b L s;refine GZ g Q0 p4 p5 p6 hq (VR.zbx (AV.one (.string _))) szR rfl rfl q.1 q.2 fun w3 R3 j K=>lU 9 ?_;have⟨Q1,p8⟩:=zyb tm td a' b' b L s;have⟨o1,q3,q4⟩:=ak.1 Q1.op;have⟨dd,hu,hd⟩:=ak.1 unS;have O:VR G (.pointer (C ⟨W.heap.size,0,U⟩)) (.pointer (C (b'.add 0))):=by have h:VR G (.pointer (C (Addr.add ⟨W.heap.size,0,U⟩ 0))) (.pointer (C (b'.add 0))):=.pointer (AR.add J 0);rwa[eC]at h
 have Q:=fun T d=>vm (w:=World.on (World.setCell {W with heap:=W.heap.push (.cells #[.string .empty] 75)} ⟨W.heap.size,0,U⟩ (.string s)) T d) (by rw[←g.pe.under];exact hu) hd (AK (PO (u:=.string s) hn)).1;refine Pd (N:=N) (x:=ep4 tm td a' b' b L s) (wg1:=World.setCell {W with heap:=W.heap.push (.cells #[.string .empty] 75)} ⟨W.heap.size,0,U⟩ (.string s)) (n:=.value (.string s)) (es:=#[⟨.cell ⟨W.heap.size,0,U⟩,H,H⟩]) K Q1.mode Q1.kind Q1.round q3 (s:=do pure (dU (←dz 9 (.pointer (C ⟨W.heap.size,0,U⟩))))) ?_ (fun T d=>?_) (.inl ⟨_,rfl⟩) fun v' w4 R4 S _ o Q2 _=>?_
 . unfold aG;simp[q4,p8];exact ow (JD g.pe _ (O.mono j))
 . rw[cn,show dz 9 (.pointer (C ⟨W.heap.size,0,U⟩))=dx 9 ⟨W.heap.size,0,U⟩from rfl];simp only[Q T d];rfl
 have :=S _ rfl;cases this;have t:W.heap.size≠r:=Y0;have z:(World.setCell {W with heap:=W.heap.push (.cells #[.string .empty] 75)} ⟨W.heap.size,0,U⟩ (.string s)).heap[r]?=C (.cells #[.string Dw] e (0,0)):=by rw[VP (cA t)];simp[Array.getElem?_push];rw[if_neg (cA t)];exact F
 have h4:=AK z;have⟨p9,pa,pb⟩:=zyc tm td a' b' b L s;refine GZ (x:=ep5 tm td a' b' b L s) g Q2 p9 pa pb (hv.mono (BR.le_trans k (BR.le_trans m (BR.le_trans j o)))) (.string _) szS rfl rfl h4.1 h4.2 fun w5 R5 A Q3=>lU 3 ?_;rw[zyd];have hle:=BR.le_trans k (BR.le_trans m (BR.le_trans j (BR.le_trans o A)));have hw:World.setCell (World.setCell {W with heap:=W.heap.push (.cells #[.string .empty] 75)} ⟨W.heap.size,0,U⟩ (.string s)) ⟨r,0,U⟩ (.string s)=WE wg r s:=by unfold WE;rw[I]
 refine zji g Q3 (ht.mono hle) M.t4 (AK (PO z)).1 fun w6 R6 p X=>Gt fun d=>⟨_,_,_,_,_,R6,rfl,⟨rfl,rfl,hw⟩,(X.at d).rt ((B.1.base.mono (BR.le_trans hle p)).finish (.string s)) (B.2.mono (BR.le_trans hle p))⟩
end
abbrev ccF:bu:=35
section
variable(b':Nat)(c:ag)(cs:List ag)
abbrev bp:Y:=.pointer (C ⟨b',0,U⟩)
noncomputable def cc0:ag×List ag:=(aF prog ccF #[bp b'] .normal,c::cs)
noncomputable def cc1:ag×List ag:=Oa prog 5 (cc0 b' c cs)
noncomputable def cc2:ag×List ag:=Oa prog 6 ((cc1 b' c cs).1.finish (.pointer U),(cc1 b' c cs).2)
noncomputable def cc3:ag×List ag:=((cc2 b' c cs).1.finish (bp b'),(cc2 b' c cs).2)
noncomputable def cc4:ag×List ag:=((cc3 b' c cs).1.finish (bp b'),(cc3 b' c cs).2)
noncomputable def cc5:ag×List ag:=Oa prog 2 ((cc4 b' c cs).1.finish (bp b'),(cc4 b' c cs).2)
noncomputable def cu2:ag×List ag:=Oa prog 8 ((cc1 b' c cs).1.finish (bp b'),(cc1 b' c cs).2)
noncomputable def cu3:ag×List ag:=Oa prog 1 ((cu2 b' c cs).1.finish (bp b'),(cu2 b' c cs).2)
def zxW:Abt (cc1 b' c cs).1 (.load 53 (.tmp 4))/\(cc1 b' c cs).1.eval (.tmp 4)=bp b':=⟨⟨gK,gK,gK,gK⟩,gK⟩
def zxX:Abt (cc2 b' c cs).1 (.convert 53 90 (.tmp 8))/\(cc2 b' c cs).1.eval (.tmp 8)=bp b':=⟨⟨gK,gK,gK,gK⟩,gK⟩
def zxY:Abt (cc3 b' c cs).1 (.call {callee:=.value (.func 55),args:=#[.tmp 9],argTypes:=#[90]})/\(cc3 b' c cs).1.eval (.tmp 9)=bp b':=⟨⟨gK,gK,gK,gK⟩,gK⟩
def zxZ:Abt (cc4 b' c cs).1 (.convert 90 53 (.tmp 10))/\(cc4 b' c cs).1.eval (.tmp 10)=bp b':=⟨⟨gK,gK,gK,gK⟩,gK⟩
def zx0:Abt (cc5 b' c cs).1 (.store 53 (.tmp 13) (.tmp 11))/\(cc5 b' c cs).1.eval (.tmp 13)=bp b'/\(cc5 b' c cs).1.eval (.tmp 11)=bp b':=⟨⟨gK,gK,gK,gK⟩,gK,gK⟩
def zx1:Oa prog 3 ((cc5 b' c cs).1.finish undef,(cc5 b' c cs).2)=(c.finish (.tuple #[]),cs):=gK
def zx2:Abt (cu2 b' c cs).1 (.load 53 (.tmp 16))/\(cu2 b' c cs).1.eval (.tmp 16)=bp b':=⟨⟨gK,gK,gK,gK⟩,gK⟩
def zx3:Abt (cu3 b' c cs).1 (.binOp .neq 53 (.tmp 17) (.tmp 18) 53)/\(cu3 b' c cs).1.eval (.tmp 17)=bp b'/\(cu3 b' c cs).1.eval (.tmp 18)=bp b':=⟨⟨gK,gK,gK,gK⟩,gK,gK⟩
def zx4:Oa prog 5 ((cu3 b' c cs).1.finish (.bool H),(cu3 b' c cs).2)=(c.finish (.tuple #[]),cs):=gK
end
def unB:prog.underlying 53=C (.pointer 55):=gK
def unU:prog.underlying 90=C .unsafePointer:=gK
def szB:(prog.info? 55).map (·.size)=C 2:=gK
def szP:(prog.info? 53).map (·.size)=C 1:=gK
def ceB:prog.cellsOf 55=2:=gK
def liB:∀n,liesAt prog prog.depth 55 (n+1) 0 55 1=E:=λn=>gK
def neB:(f55.name== "runtime.NumGoroutine")=H/\f55.body.isNone=E/\Extern.findNext f55=U/\Extern.find f55=C Extern.AbiNoEscape.same:=⟨gK,gK,gK,gK⟩
section
variable{N:al}{W0:V}{dead:Nat->Prop}{A:av->V->Prop}{wg w:V}{R:BR}{m:Nat}{x:ag×List ag}{r:Nat}
def W8{op:Op}{v:Y}{es:Array bB}(f:Abt x.1 op)(r:∀o:bU,o.op=op->∀d,(aG x.1.eval o).run prog (w.at d)=.ok (.value v) (w.at d)/\(aG x.1.eval o).events prog (w.at d) #[]=es)(a:∀e∈es,(aI e).touch?=U/\(∀x,aI e≠.mark (.release x))/\aI e≠.mark .disable/\aI e≠.mark .enable)(k:Sg W0 dead A m (x.1.finish v,x.2) w):Sg W0 dead A (m+1) x w:=by
 have⟨o,q,b⟩:=ak.1 f.op;refine znW (es:=seen prog x.1.fn es) (λd=>?_) (λd=>⟨ao _,λ_ _=>rfl,rfl,rfl,λe h=>?_⟩) k
 .rw[Jq f.mode f.round q];have⟨c,g⟩:=r o b d;simp[cD,c,g,f.kind,bP,G]
 .have:=a e (nj h);simp_all
def zeZ(g:PG N prog)(h:Wv W0 dead wg w R){t:ah}{p:aU}{v q:Y}(a:Abt x.1 (.load t p))(y:x.1.eval p=q)(e:VR R (.pointer (C ⟨r,0,U⟩)) q)(u:(prog.underlying t).map (·.isRow)=C H)(z:wg.cell? ⟨r,0,U⟩=C v)(k:∀l w1 b,VR b v l→R.le b→Wv W0 dead wg w1 b→Sg W0 dead A m (x.1.finish l,x.2) w1):Sg W0 dead A (m+1) x w:=by
 have⟨o,f,i⟩:=ak.1 a.op;have⟨j,u,B⟩:=ak.1 u;refine Pd (N:=N) (es:=#[⟨.cell ⟨r,0,U⟩,H,H⟩]) h a.mode a.kind a.round f (s:=do pure (dU (←dz t (.pointer (C ⟨r,0,U⟩))))) ?_ (fun T d=>?_) (.inl ⟨_,rfl⟩) fun l w1 b D _ n c _=>k l w1 b (D _ rfl) n c
 . unfold aG;simp[i,y];exact ow (JD g.pe t e)
 . rw[cn,show dz t (.pointer (C _))=dx t _ from rfl];simp only[vm (w:=World.on wg T d) (by rw[←g.pe.under];exact u) B z];rfl
def Wv.bld(h:Wv W0 dead wg w R){p D q:Y}(m:wg.heap[r]?=C (.cells #[p,D] 55 (0,0)))(n:VR R (.pointer (C ⟨r,0,U⟩)) q):∃b' g,q=bp b'/\w.heap[b']?=C (.cells g 55 (0,0))/\2<=g.size/\∀a,VR R (.pointer (C ⟨r,0,U⟩)) (.pointer a)->a=C ⟨b',0,U⟩:=by cases n with|@pointer _ z B=>cases z with|none=>cases B|some z=>have⟨b',s,I⟩:=z;have⟨⟨l,A,_⟩,c,d⟩:=B;simp  at A c d;subst c d;have⟨o,s,k,t,F⟩:=h.h.obj _ _ _ A;rw[m]at k;cases k;cases F with|@cells _ g _ u _ J v K _ x=>
 have i:=x.resolve_right λG=>by have:=G 0 Y1;omega
 subst i;have j:u=55:=by
  rcases v with⟨e,_⟩|⟨e,_⟩;.exact e
  .cases e
 subst j;refine⟨b',g,rfl,t,Y0,λa b=>?_⟩;cases b with|pointer b=>cases a with|none=>cases b|some a=>have⟨a,o2,L⟩:=a;have⟨⟨y,f,_⟩,c,d⟩:=b;simp  at f c d;subst c d;rw[(h.h.inj _ _ _ _ _ _ A f).1 rfl]
def P7{b:ag}{a:Act}{j:Array bU}{i:Nat}{r:List Nat}{k:List Item}{o:bU}{u:Array aU}{n:Array ah}{f:bu}{p:Func}{L:List ag}{cm:ag}{l:List ag}(y:j[i]?=C o)(z:ar o (yielded j a.tmps)=E)(q:o.op=.call {callee:=.value (.func f),args:=u,argTypes:=n})(e:prog.funcs[f]?=C p)(A:(p.name== "runtime.NumGoroutine")=H)(g:p.body.isNone=H)(rt:zbv N W0 dead (b.at a (.inRegion j (i::r)::k)) L wg cm l w R):∃v:aU->Y,(∀x,oC x=E->VR R (a.eval x) (v x))/\(∀d,bg prog E (G cm l) (w.at d)=.go (G (aF prog f (u.map v) .normal) (cm::l)) (w.at d) #[])/\CaR N R (b.at a (.inRegion j (i::r)::k)) cm:=by
 have m:cm.mode=.run:=by rw[rt.f.mode];rfl
 have t:cm.todo=.inRegion j (i::r)::k:=by rw[rt.f.todo];rfl
 have h:=zev m rt.f.lT;rw[t]at h;have c:ar o (yielded j cm.tmps)=E:=by rw[rt.f.tmps.yielded j];exact z
 refine⟨a8 ⟨cm.tmps,cm.defers⟩,λx B=>?_,λd=>?_,⟨rt.f,rfl,⟨_,_,_,_,rfl⟩⟩⟩
 .have:=rt.f.eval B;grind[kV]
 .have s:=pV (main:=E) (a:=⟨cm.tmps,cm.defers⟩) (rest:=r) (kk:=k) (cs:=l) (w:=w.at d) y c (by rw[rt.f.pE];simp) q e A g;simp_all
def zk0(g:PG N prog){b:ag}{a:Act}{ops:Array bU}{i:Nat}{rest:List Nat}{k:List Item}{o:bU}{x0:aU}{SJ:Array ah}{L:List ag}{p0 sl:Y}(ho:ops[i]?=C o)(hw:ar o (yielded ops a.tmps)=E)(oz:o.op=.call {callee:=.value (.func ccF),args:=#[x0],argTypes:=SJ})(Q:oC x0=E)(hp:a.eval x0=bp r)(u:wg.heap[r]?=C (.cells #[p0,sl] 55 (0,0))){W:V}(h0:(p0=.pointer U/\W=wg.setCell ⟨r,0,U⟩ (bp r))\/(p0=bp r/\W=wg)):Seg N (b.at a (.inRegion ops (i::rest)::k)) L wg (λfr1 L1 w1=>fr1=(b.at a (.inRegion ops (i::rest)::k)).finish (.tuple #[])/\L1=L/\w1=W):=by
 intro W0 dead cm L' w R rt;have⟨ev,S,B,hca⟩:=P7 ho hw oz func35 gK gK rt;have hv:=S x0 Q;rw[hp]at hv;have I:#[x0].map ev=#[ev x0]:=Y1;rw[I]at B;generalize ev x0=q' at hv B;obtain⟨b',c',rfl,hb',hs',zfw⟩:=rt.wv.bld u hv;have Q0:wg.cell? ⟨r,0,U⟩=C p0:=by simp[World.cell?,u]
 have T:wg.frozen? ⟨r,0,U⟩=H:=by simp[World.frozen?,u]
 refine⟨20+1+5,λbd⟨d,e⟩=>?_⟩;subst e;rw[B];have fin:∀{Q1:BR}{w1 wg1:V},R.le Q1->Wv W0 dead wg1 w1 Q1->wg1=W->∀m,Sg W0 dead (StS N W0 dead λfr1 L1 w1=>fr1=(b.at a (.inRegion ops (i::rest)::k)).finish (.tuple #[])/\L1=L/\w1=W) m (cm.finish (.tuple #[]),L') w1:=λhle q e m=>Gt λd=>⟨_,_,_,_,_,_,rfl,⟨rfl,rfl,e⟩,(q.at d).rt ((rt.f.mono hle).finish oT) (rt.l.mono hle)⟩;refine⟨.refl _,lU 5 (x:=cc0 b' cm L') ?_⟩;have⟨p1,p2⟩:=zxW b' cm L';refine zeZ (x:=cc1 b' cm L') g (rt.wv.at d) p1 p2 hv gK Q0 λv' w1 Q1 J c q=>?_;rcases h0 with⟨rfl,hW⟩|⟨rfl,hW⟩;.cases J with|@pointer _ O D=>cases O with|some O=>cases D|none=>
  have⟨K,n,e,t,M,_⟩:=q.bld u (hv.mono c);cases e;have sh:∀d,(w1.at d).shape? b'=C (55,n.size):=λd=>by show w1.shape? b'=_;simp[World.shape?,t]
  have⟨j,hj,y⟩:=ak.1 szB;apply lU (m:=14) 6;have⟨Q2,X⟩:=zxX b' cm L';refine W8 (m:=13) (x:=cc2 b' cm L') (v:=bp b') (es:=#[]) Q2 (λo ho d=>?_) Y1 ?_;.unfold aG;simp[ho,X];have Q3:=events_convert_to_unsafe (P:=prog) (w:=w1.at d) (a:=⟨b',0,U⟩) (v:=n[0]'Y0) unB unU (by rw[hj];simp[y]) (by simp[World.cell?,World.at,t]) #[];exact⟨by simp[Lib.run_to_unsafe (P:=prog) (w:=w1.at d) ⟨b',0,U⟩ unB unU hj (by rw[y];decide) (sh d) (by show 0<n.size;omega)],by simp[Q3]⟩
  have⟨Q4,Z⟩:=zxY b' cm L';have⟨n1,n2,n3,n4⟩:=neB;have Q3:=λd=>events_callFunc_extern (P:=prog) (w:=w1.at d) func55 n1 n2 n3 n4 #[bp b'] #[];refine W8 (m:=12) (x:=cc3 b' cm L') (v:=bp b') (es:=(callFunc 55 #[bp b']).events prog (w1.at 0) #[]) Q4 (λo ho d=>?_) (λe h=>by rw[Q3]at h;have h:e∈#[_]:=h;simp at h;subst h;simp[aI,cd]) ?_
  .have e:aG (cc3 b' cm L').1.eval o=callFunc 55 #[bp b']:=by unfold aG;simp[ho];have e6:(cc3 b' cm L').1.eval (.func 55)=.func (.func 55) #[] #[]:=rfl;simp[resolve,e6,Deferred.ofValue,invoke,Z]
   rw[e,run_callFunc_extern (P:=prog) func55 n1 n2 n3 n4 #[bp b'] (w1.at d),Q3,Q3];exact⟨rfl,rfl⟩
  have⟨q5,q6⟩:=zxZ b' cm L';refine W8 (m:=11) (x:=cc4 b' cm L') (v:=bp b') (es:=#[]) q5 (λo ho d=>?_) Y1 ?_
  .unfold aG;simp[ho,q6];have hl:liesAt prog prog.depth 55 (n.size/prog.cellsOf 55) 0 55 1=E:=by rw[ceB,show n.size/2=(n.size/2-1)+1 by omega];exact liB _
   have Q3:(convert 90 53 (bp b')).events prog (w1.at d) #[]=#[]:=by simp[convert,aT unU,aT unB,Conv.unsafePointer,Conv.seenAt,viewAt,sh d,variablesAt,hl,sizeOf,typeInfo,hj,vV]
   exact⟨by simp[Lib.run_from_unsafe (P:=prog) (w:=w1.at d) ⟨b',0,U⟩ unU unB hj (sh d) hl],by simp[Q3]⟩
  refine lU (m:=9) 2 ?_;have⟨q7,q8,q9⟩:=zx0 b' cm L';have z:=hv.mono c;refine GZ (m:=8) (x:=cc5 b' cm L') g q q7 q8 q9 z z szP rfl rfl Q0 T λw2 R2 p A=>lU (m:=5) 3 ?_;rw[zx1];exact fin (BR.le_trans c p) A hW.symm 5
 .cases J with|@pointer _ O D=>have⟨K,n,e,t,M,F⟩:=q.bld u (hv.mono c);cases e;have:=F O (.pointer D);subst this;apply lU (m:=12) 8;have⟨Q2,X⟩:=zx2 b' cm L';refine zeZ (m:=11) (x:=cu2 b' cm L') g q Q2 X (hv.mono c) gK Q0 λv2 w2 R2 z p A=>?_;cases z with|@pointer _ b3 hb3=>
  have⟨K,n,e,_,_,G⟩:=A.bld u (hv.mono (BR.le_trans c p));cases e;have:=G b3 (.pointer hb3);subst this;apply lU (m:=10) 1;have⟨Q4,Z,q5⟩:=zx3 b' cm L';have⟨j,hj,y⟩:=ak.1 szB;refine W8 (m:=9) (x:=cu3 b' cm L') (v:=.bool H) (es:=#[]) Q4 (λo ho d=>?_) Y1 ?_
  .unfold aG;simp only[ho,Z,q5];have Q3:(binOp .neq 53 (bp b') (bp b')).events prog (w2.at d) #[]=#[]:=by
    have h:∀d':Nat,(cY (d'+1) 53 (bp b') (bp b')).events prog (w2.at d) #[]=#[]/\(cY (d'+1) 53 (bp b') (bp b')).run prog (w2.at d)=.ok E (w2.at d):=λd'=>by constructor<;>simp[cY,aT unB,sizeOf,typeInfo,hj,sameAddr,vV]
    simp only[binOp];simp[Op.equal,Op.maxDepth,(h 9999).1]
   have h3:=qa (P:=prog) (s:=eqGuard .neq 53 (.tmp 17) (.tmp 18) (bp b') (bp b')) (a:=()) gK (w2.at d);exact⟨by simp[Lib.run_neq_ptr_same (P:=prog) (w:=w2.at d) ⟨b',0,U⟩ unB hj,h3.1],by simp[Q3,h3.1,h3.2,vV]⟩
  refine lU (m:=4) 5 ?_;rw[zx4];exact fin (BR.le_trans c p) A hW.symm 4
end
end Rn
namespace Rn
open Go Go.Conc
abbrev stF:bu:=27
noncomputable def stX:Nat×Array bU:=match f27.body with|some (.seq _ (.seq (.region id ops _) _))=>(id,ops)|_=>(0,#[])
noncomputable def stA:Array bU:=stX.2
noncomputable def eE(i:Nat):bU:=(stA[i]?).getD default
def rR{i:Nat}(h:(stA[i]?).isSome=E):stA[i]?=C (eE i):=by have⟨o,a⟩:=Option.isSome_iff_exists.1 h;unfold eE;rw[a];rfl
section
variable(b':Nat)(sv q:Y)(n:Nat)(s:ByteArray)(c:ag)(cs:List ag)
noncomputable def OD:Act:=⟨(#[bp b']++aK 13 undef).setIfInBounds 2 (.string .empty),[]⟩
noncomputable def sa4:Act:=((((OD b').put (eE 0).dst (bp b')).put (eE 1).dst (bp b')).put (eE 2).dst (.pointer (C ⟨b',1,U⟩))).put (eE 3).dst sv
noncomputable def sa9:Act:=(((sa4 b' sv).put (eE 5).dst (bp b')).put (eE 6).dst (bp b')).put (eE 7).dst (.pointer (C ⟨b',1,U⟩))
noncomputable def S8:Act:=(((sa9 b' sv).put (eE 8).dst sv).put (eE 9).dst (.int .i64 n)).put (eE 4).dst q
noncomputable def zq1:Act:=((S8 b' sv q n).put (eE 10).dst (.string s)).put (eE 11).dst (.string s)
def zy1:Oa prog 5 (aF prog stF #[bp b'] .normal,c::cs)=((⟨stF,#[],[],[],.run,.normal,U⟩:ag).at (OD b') [.code (.region stX.1 stA E),.code .ret],c::cs):=gK
def zy2:Oa prog 2 ((⟨stF,#[],[],[],.run,.normal,U⟩:ag).at (zq1 b' sv q n s) [.code .ret],c::cs)=(c.finish (.string s),cs):=gK
end
def zy4:(prog.underlying 22).map (·.isRow)=C H:=gK
def zur:prog.underlying 81=C (.pointer 5):=gK
def ce5:prog.cellsOf 5=1:=gK
section
variable{W0:V}{dead:Nat->Prop}
def jb:Terms Wb (UJ W0 dead):=⟨xn,λw=>.refl w⟩
def zjP:LetsDraw (UJ W0 dead):=λw=>⟨ao _,λ_ _=>rfl,rfl,rfl,λe h=>by simp at h⟩
variable{w:V}
def ZJ{k:bu}{g:Array bB}{b:Nat}(c:¬dead b)(l:b<w.heap.size)(h:∀e∈g,∃j,e=⟨.cell ⟨b,j,U⟩,H,H⟩){w':V}(d:UJ W0 dead w w' #[])(m:b<w'.heap.size):UJ W0 dead w w' (seen prog k g):=⟨d.size,d.old,d.os,d.output,λe f=>by
 obtain⟨j,rfl⟩:=h e (nj f);refine⟨λx i=>?_,λad a=>?_,λa=>?_,λa=>?_⟩
 .simp[aI,cd,ay]at i;subst i;exact⟨b,rfl,c,m⟩
 all_goals cases a⟩
def Z5{P:al}{w:V}{g:Nat}{c:Array Y}{e:ah}{f:Nat×Nat}(h:w.heap[g]?=C (.cells c e f)):∀(l:List UInt8)(o:Nat)(p:ByteArray)(r:Array bB),(∀(j:Nat)x,l[j]?=C x->c[o+j]?=C (.int .u8 x.toNat))->∃q b,(loadBytes ⟨g,o,U⟩ p l.length).runT P w r=(.ok b w,r++q)/\∀e∈q,∃j,e=⟨.cell ⟨g,j,U⟩,H,H⟩
 |[],o,p,r,_=>⟨#[],p,by simp[loadBytes,pure],Y1⟩|x::l,o,p,r,s=>by
  have⟨q,b,d,i⟩:=Z5 (P:=P) h l (o+1) (p.push x) (r.push ⟨.cell ⟨g,o,U⟩,H,H⟩) λj y k=>by rw[show o+1+j=o+(j+1)by omega];simp_all
  have m:w.cell? ⟨g,o,U⟩=C (.int .u8 x.toNat):=by rw[GC h];exact s 0 x rfl
  refine⟨#[⟨.cell ⟨g,o,U⟩,H,H⟩]++q,b,?_,λe a=>?_⟩
  .simp only[List.length_cons,loadBytes];rw[cn];have n:(load ⟨g,o,U⟩).runT P w r=(.ok (.int .u8 x.toNat) w,r.push ⟨.cell ⟨g,o,U⟩,H,H⟩):=by show Sem.runT P (.load .plain ⟨g,o,U⟩ .pure) w r=_;simp only[Sem.runT,m];rfl
   rw[n,eC];simp only;have t:(x.toNat:Int).toNat.toUInt8=x:=Y1;rw[t,d];simp
  .grind
def Ct{g a:Nat}{c:Array Y}{e:ah}(d:w.heap[g]?=C (.cells c e (0,0))){n:Nat}(h:Fz w a):Fz (w.freeze ⟨g,0,U⟩ n) a:=by
 unfold World.freeze;split;.exact h
 .have⟨l,k,m,b,f⟩:=h;by_cases j:a=g
  .subst j;rw[d]at b;cases b;have:c.size=0:=by
    rcases Nat.eq_zero_or_pos c.size with h|h;.exact h
    .have:=f 0 h;omega
   exact⟨c,e,_,by simp[bh,d];rfl,λi o=>Y0⟩
  .exact⟨l,k,m,Y8,f⟩
def zgY{wg:V}{R:BR}(h:Wv W0 dead wg w R){g gR:Nat}(M:R g gR 0){c y:Array Y}{e:ah}(i:wg.heap[g]?=C (.cells c e (0,0)))(I:w.heap[gR]?=C (.cells y e (0,0)))(n:Nat):Wv W0 dead (wg.freeze ⟨g,0,U⟩ n) (w.freeze ⟨gR,0,U⟩ n) R:=by
 by_cases J:n=0;.subst J;exact h
 have z:∀{u:V}{b:Nat}{c:Array Y},u.heap[b]?=C (.cells c e (0,0))->(u.freeze ⟨b,0,U⟩ n).heap[b]?=C (.cells c e (0,n)):=λj=>by simp[World.freeze,J,bh,j]
 have q:∀{u:V}{b a:Nat},a≠b->(u.freeze ⟨b,0,U⟩ n).heap[a]?=u.heap[a]?:=λj=>by simp[World.freeze,J,bh,cA j]
 have v:∀{u:V}{b:Nat},(u.freeze ⟨b,0,U⟩ n).heap.size=u.heap.size:=by intro u b;simp[World.freeze,J]
 refine⟨⟨λa N b b' l m d f=>⟨(h.h.inj a N b b' l m d f).1,λe=>((h.h.inj a N b b' l m d f).2 e).imp id λk=>⟨Ct i k.1,Ct i k.2⟩⟩,λa b l r=>?_,λb o G=>?_⟩,λa b l r=>⟨(h.rn a b l r).1,λj=>Ct i ((h.rn a b l r).2 j)⟩,λx P=>Ct i (h.gf x P),h.gl,λb j=>by rw[v];exact h.dl b j,by rw[v];exact h.wz⟩
 .have⟨o,A,d,f,G⟩:=h.h.obj a b l r;by_cases s:a=g
  .subst s;have p:=(h.h.inj _ _ _ _ _ _ r M).1 rfl;subst p;rw[i]at d;rw[I]at f;cases d;cases f;cases G with|cells t K L B=>exact⟨_,_,z i,z I,.cells t K L (.inl rfl)⟩
  .refine⟨o,?_⟩;rw[q s];by_cases p:b=gR
   .subst p;rw[I]at f;cases f;rcases(h.h.inj _ _ _ _ _ _ r M).2 rfl with k|⟨⟨Q,D,S,O,F⟩,_⟩;.cases s k
    .rw[O]at d;cases d;cases G with|cells t K L B=>exact⟨_,O,z I,.cells t K L (.inr F)⟩
   .simp_all
 .by_cases p:b=g
  .subst p;rw[z i]at G;cases G;trivial
  .rw[q p]at G;exact h.h.kinds b o G
end
section
variable{b' gR n cap:Nat}{s:ByteArray}
def zvb:ar (eE 0) (yielded stA (OD b').tmps)=E:=gK
def zvl:oI prog (aG (a8 (OD b')) (eE 0))=C (.value (bp b')):=gK
def zo5:gy .any stA (aK 12 H) 0=E/\(bE .any stA (aK 12 H)).contains 0=E:=⟨gK,gK⟩
def zvc:ar (eE 1) (yielded stA ((OD b').put (eE 0).dst (bp b')).tmps)=E:=gK
def zvm:oI prog (aG (a8 ((OD b').put (eE 0).dst (bp b'))) (eE 1))=C (.value (bp b')):=gK
def zo6:gy .any stA ((aK 12 H).setIfInBounds 0 E) 1=E/\(bE .any stA ((aK 12 H).setIfInBounds 0 E)).contains 1=E:=⟨gK,gK⟩
def zvd:ar (eE 2) (yielded stA (((OD b').put (eE 0).dst (bp b')).put (eE 1).dst (bp b')).tmps)=E:=gK
def zvn:oI prog (aG (a8 (((OD b').put (eE 0).dst (bp b')).put (eE 1).dst (bp b'))) (eE 2))=C (.value (.pointer (C ⟨b',1,U⟩))):=gK
def zo7:gy .any stA (((aK 12 H).setIfInBounds 0 E).setIfInBounds 1 E) 2=E/\(bE .any stA (((aK 12 H).setIfInBounds 0 E).setIfInBounds 1 E)).contains 2=E:=⟨gK,gK⟩
def zve:ar (eE 3) (yielded stA ((((OD b').put (eE 0).dst (bp b')).put (eE 1).dst (bp b')).put (eE 2).dst (.pointer (C ⟨b',1,U⟩))).tmps)=E:=gK
def zpf:((eE 3).op=.load 22 (.tmp 5))/\a8 ((((OD b').put (eE 0).dst (bp b')).put (eE 1).dst (bp b')).put (eE 2).dst (.pointer (C ⟨b',1,U⟩))) (.tmp 5)=.pointer (C ⟨b',1,U⟩):=⟨gK,gK⟩
def zo8:gy .any stA ((((aK 12 H).setIfInBounds 0 E).setIfInBounds 1 E).setIfInBounds 2 E) 3=E/\(bE .any stA ((((aK 12 H).setIfInBounds 0 E).setIfInBounds 1 E).setIfInBounds 2 E)).contains 3=E:=⟨gK,gK⟩
def zvg:ar (eE 5) (yielded stA (((((OD b').put (eE 0).dst (bp b')).put (eE 1).dst (bp b')).put (eE 2).dst (.pointer (C ⟨b',1,U⟩))).put (eE 3).dst (.slice (C ⟨gR,0,U⟩) n (cap+1))).tmps)=E:=gK
def zvp:oI prog (aG (a8 (((((OD b').put (eE 0).dst (bp b')).put (eE 1).dst (bp b')).put (eE 2).dst (.pointer (C ⟨b',1,U⟩))).put (eE 3).dst (.slice (C ⟨gR,0,U⟩) n (cap+1)))) (eE 5))=C (.value (bp b')):=gK
def zpa:gy .any stA (((((aK 12 H).setIfInBounds 0 E).setIfInBounds 1 E).setIfInBounds 2 E).setIfInBounds 3 E) 5=E/\(bE .any stA (((((aK 12 H).setIfInBounds 0 E).setIfInBounds 1 E).setIfInBounds 2 E).setIfInBounds 3 E)).contains 5=E:=⟨gK,gK⟩
def zvh:ar (eE 6) (yielded stA ((((((OD b').put (eE 0).dst (bp b')).put (eE 1).dst (bp b')).put (eE 2).dst (.pointer (C ⟨b',1,U⟩))).put (eE 3).dst (.slice (C ⟨gR,0,U⟩) n (cap+1))).put (eE 5).dst (bp b')).tmps)=E:=gK
def zvq:oI prog (aG (a8 ((((((OD b').put (eE 0).dst (bp b')).put (eE 1).dst (bp b')).put (eE 2).dst (.pointer (C ⟨b',1,U⟩))).put (eE 3).dst (.slice (C ⟨gR,0,U⟩) n (cap+1))).put (eE 5).dst (bp b'))) (eE 6))=C (.value (bp b')):=gK
def zpb:gy .any stA ((((((aK 12 H).setIfInBounds 0 E).setIfInBounds 1 E).setIfInBounds 2 E).setIfInBounds 3 E).setIfInBounds 5 E) 6=E/\(bE .any stA ((((((aK 12 H).setIfInBounds 0 E).setIfInBounds 1 E).setIfInBounds 2 E).setIfInBounds 3 E).setIfInBounds 5 E)).contains 6=E:=⟨gK,gK⟩
def zvi:ar (eE 7) (yielded stA (((((((OD b').put (eE 0).dst (bp b')).put (eE 1).dst (bp b')).put (eE 2).dst (.pointer (C ⟨b',1,U⟩))).put (eE 3).dst (.slice (C ⟨gR,0,U⟩) n (cap+1))).put (eE 5).dst (bp b')).put (eE 6).dst (bp b')).tmps)=E:=gK
def zvr:oI prog (aG (a8 (((((((OD b').put (eE 0).dst (bp b')).put (eE 1).dst (bp b')).put (eE 2).dst (.pointer (C ⟨b',1,U⟩))).put (eE 3).dst (.slice (C ⟨gR,0,U⟩) n (cap+1))).put (eE 5).dst (bp b')).put (eE 6).dst (bp b'))) (eE 7))=C (.value (.pointer (C ⟨b',1,U⟩))):=gK
def zpc:gy .any stA (((((((aK 12 H).setIfInBounds 0 E).setIfInBounds 1 E).setIfInBounds 2 E).setIfInBounds 3 E).setIfInBounds 5 E).setIfInBounds 6 E) 7=E/\(bE .any stA (((((((aK 12 H).setIfInBounds 0 E).setIfInBounds 1 E).setIfInBounds 2 E).setIfInBounds 3 E).setIfInBounds 5 E).setIfInBounds 6 E)).contains 7=E:=⟨gK,gK⟩
def zvj:ar (eE 8) (yielded stA ((((((((OD b').put (eE 0).dst (bp b')).put (eE 1).dst (bp b')).put (eE 2).dst (.pointer (C ⟨b',1,U⟩))).put (eE 3).dst (.slice (C ⟨gR,0,U⟩) n (cap+1))).put (eE 5).dst (bp b')).put (eE 6).dst (bp b')).put (eE 7).dst (.pointer (C ⟨b',1,U⟩))).tmps)=E:=gK
def zpg:((eE 8).op=.load 22 (.tmp 10))/\a8 ((((((((OD b').put (eE 0).dst (bp b')).put (eE 1).dst (bp b')).put (eE 2).dst (.pointer (C ⟨b',1,U⟩))).put (eE 3).dst (.slice (C ⟨gR,0,U⟩) n (cap+1))).put (eE 5).dst (bp b')).put (eE 6).dst (bp b')).put (eE 7).dst (.pointer (C ⟨b',1,U⟩))) (.tmp 10)=.pointer (C ⟨b',1,U⟩):=⟨gK,gK⟩
def zpd:gy .any stA ((((((((aK 12 H).setIfInBounds 0 E).setIfInBounds 1 E).setIfInBounds 2 E).setIfInBounds 3 E).setIfInBounds 5 E).setIfInBounds 6 E).setIfInBounds 7 E) 8=E/\(bE .any stA ((((((((aK 12 H).setIfInBounds 0 E).setIfInBounds 1 E).setIfInBounds 2 E).setIfInBounds 3 E).setIfInBounds 5 E).setIfInBounds 6 E).setIfInBounds 7 E)).contains 8=E:=⟨gK,gK⟩
def zvk:ar (eE 9) (yielded stA (((((((((OD b').put (eE 0).dst (bp b')).put (eE 1).dst (bp b')).put (eE 2).dst (.pointer (C ⟨b',1,U⟩))).put (eE 3).dst (.slice (C ⟨gR,0,U⟩) n (cap+1))).put (eE 5).dst (bp b')).put (eE 6).dst (bp b')).put (eE 7).dst (.pointer (C ⟨b',1,U⟩))).put (eE 8).dst (.slice (C ⟨gR,0,U⟩) n (cap+1))).tmps)=E:=gK
def zvs:oI prog (aG (a8 (((((((((OD b').put (eE 0).dst (bp b')).put (eE 1).dst (bp b')).put (eE 2).dst (.pointer (C ⟨b',1,U⟩))).put (eE 3).dst (.slice (C ⟨gR,0,U⟩) n (cap+1))).put (eE 5).dst (bp b')).put (eE 6).dst (bp b')).put (eE 7).dst (.pointer (C ⟨b',1,U⟩))).put (eE 8).dst (.slice (C ⟨gR,0,U⟩) n (cap+1)))) (eE 9))=C (.value (.int .i64 n)):=gK
def zpe:gy .any stA (((((((((aK 12 H).setIfInBounds 0 E).setIfInBounds 1 E).setIfInBounds 2 E).setIfInBounds 3 E).setIfInBounds 5 E).setIfInBounds 6 E).setIfInBounds 7 E).setIfInBounds 8 E) 9=E/\(bE .any stA (((((((((aK 12 H).setIfInBounds 0 E).setIfInBounds 1 E).setIfInBounds 2 E).setIfInBounds 3 E).setIfInBounds 5 E).setIfInBounds 6 E).setIfInBounds 7 E).setIfInBounds 8 E)).contains 9=E:=⟨gK,gK⟩
def zvf:ar (eE 4) (yielded stA ((((((((((OD b').put (eE 0).dst (bp b')).put (eE 1).dst (bp b')).put (eE 2).dst (.pointer (C ⟨b',1,U⟩))).put (eE 3).dst (.slice (C ⟨gR,0,U⟩) n (cap+1))).put (eE 5).dst (bp b')).put (eE 6).dst (bp b')).put (eE 7).dst (.pointer (C ⟨b',1,U⟩))).put (eE 8).dst (.slice (C ⟨gR,0,U⟩) n (cap+1))).put (eE 9).dst (.int .i64 n)).tmps)=E:=gK
def zvo:oI prog (aG (a8 ((((((((((OD b').put (eE 0).dst (bp b')).put (eE 1).dst (bp b')).put (eE 2).dst (.pointer (C ⟨b',1,U⟩))).put (eE 3).dst (.slice (C ⟨gR,0,U⟩) n (cap+1))).put (eE 5).dst (bp b')).put (eE 6).dst (bp b')).put (eE 7).dst (.pointer (C ⟨b',1,U⟩))).put (eE 8).dst (.slice (C ⟨gR,0,U⟩) n (cap+1))).put (eE 9).dst (.int .i64 n))) (eE 4))=C (.value ((.pointer (C ⟨gR,0,U⟩)))):=gK
def zo9:gy .any stA ((((((((((aK 12 H).setIfInBounds 0 E).setIfInBounds 1 E).setIfInBounds 2 E).setIfInBounds 3 E).setIfInBounds 5 E).setIfInBounds 6 E).setIfInBounds 7 E).setIfInBounds 8 E).setIfInBounds 9 E) 4=E/\(bE .any stA ((((((((((aK 12 H).setIfInBounds 0 E).setIfInBounds 1 E).setIfInBounds 2 E).setIfInBounds 3 E).setIfInBounds 5 E).setIfInBounds 6 E).setIfInBounds 7 E).setIfInBounds 8 E).setIfInBounds 9 E)).contains 4=E:=⟨gK,gK⟩
def zu9:bE .any stA (((((((((((aK 12 H).setIfInBounds 0 E).setIfInBounds 1 E).setIfInBounds 2 E).setIfInBounds 3 E).setIfInBounds 5 E).setIfInBounds 6 E).setIfInBounds 7 E).setIfInBounds 8 E).setIfInBounds 9 E).setIfInBounds 4 E)=[10]/\ar (eE 10) (yielded stA (S8 b' (.slice (C ⟨gR,0,U⟩) n (cap+1)) (.pointer (C ⟨gR,0,U⟩)) n).tmps)=E/\(eE 10).op=.call {callee:=.builtin .unsafeString,args:=#[.tmp 7,.tmp 12],argTypes:=#[81,3]}/\(eE 10).type=9/\a8 (S8 b' (.slice (C ⟨gR,0,U⟩) n (cap+1)) (.pointer (C ⟨gR,0,U⟩)) n) (.tmp 7)=(.pointer (C ⟨gR,0,U⟩))/\a8 (S8 b' (.slice (C ⟨gR,0,U⟩) n (cap+1)) (.pointer (C ⟨gR,0,U⟩)) n) (.tmp 12)=.int .i64 n:=⟨gK,gK,gK,gK,gK,gK⟩
def ziw:gy .any stA ((((((((((((aK 12 H).setIfInBounds 0 E).setIfInBounds 1 E).setIfInBounds 2 E).setIfInBounds 3 E).setIfInBounds 5 E).setIfInBounds 6 E).setIfInBounds 7 E).setIfInBounds 8 E).setIfInBounds 9 E).setIfInBounds 4 E).setIfInBounds 10 E) 11=E/\(bE .any stA ((((((((((((aK 12 H).setIfInBounds 0 E).setIfInBounds 1 E).setIfInBounds 2 E).setIfInBounds 3 E).setIfInBounds 5 E).setIfInBounds 6 E).setIfInBounds 7 E).setIfInBounds 8 E).setIfInBounds 9 E).setIfInBounds 4 E).setIfInBounds 10 E)).contains 11=E/\bE .any stA (((((((((((((aK 12 H).setIfInBounds 0 E).setIfInBounds 1 E).setIfInBounds 2 E).setIfInBounds 3 E).setIfInBounds 5 E).setIfInBounds 6 E).setIfInBounds 7 E).setIfInBounds 8 E).setIfInBounds 9 E).setIfInBounds 4 E).setIfInBounds 10 E).setIfInBounds 11 E)=[]:=⟨gK,gK,gK⟩
def zjm:ar (eE 11) (yielded stA ((S8 b' (.slice (C ⟨gR,0,U⟩) n (cap+1)) (.pointer (C ⟨gR,0,U⟩)) n).put (eE 10).dst (.string s)).tmps)=E/\oI prog (aG (a8 ((S8 b' (.slice (C ⟨gR,0,U⟩) n (cap+1)) (.pointer (C ⟨gR,0,U⟩)) n).put (eE 10).dst (.string s))) (eE 11))=C (.value (.string s)):=⟨gK,gK⟩
def u6:stA.size=12/\Region.noSelect stA=E/\prog.follows .mixedOrders=E:=⟨gK,gK,gK⟩
end
section
variable{N:al}{wg:V}{r:Nat}
def zcY(g:PG N prog){b:ag}{a:Act}{ops:Array bU}{i:Nat}{rest:List Nat}{k:List Item}{o:bU}{x0:aU}{SJ:Array ah}{L:List ag}{p0:Y}{gl cap:Nat}{cr:Array Y}{l:List UInt8}(ho:ops[i]?=C o)(hw:ar o (yielded ops a.tmps)=E)(oz:o.op=.call {callee:=.value (.func stF),args:=#[x0],argTypes:=SJ})(hx0:oC x0=E)(hp:a.eval x0=bp r)(Q0:wg.heap[r]?=C (.cells #[p0,.slice (C ⟨gl,0,U⟩) l.length (cap+1)] 55 (0,0)))(F:wg.heap[gl]?=C (.cells cr 5 (0,0)))(hl:∀(j:Nat)x,l[j]?=C x→cr[j]?=C (.int .u8 x.toNat))(h0:l≠[])(h63:l.length≤9223372036854775807):Seg N (b.at a (.inRegion ops (i::rest)::k)) L wg (fun fr1 L1 w1=>fr1=(b.at a (.inRegion ops (i::rest)::k)).finish (.string ⟨l.toArray⟩)∧L1=L∧w1=wg.freeze ⟨gl,0,U⟩ l.length):=by
  intro W0 dead cm L' w R rt;have⟨ev,O,T,hca⟩:=P7 ho hw oz func27 gK gK rt;have hv:=O x0 hx0;rw[hp]at hv;have Z:#[x0].map ev=#[ev x0]:=Y1;rw[Z]at T;generalize ev x0=q' at hv T;obtain⟨b',c',rfl,hb',hs',zfw⟩:=rt.wv.bld Q0 hv;have hlen:l.length≠0:=by simpa using h0
  have⟨x1,hx1⟩:∃x,l[0]?=C x:=by cases l with |nil=>cases h0 rfl|cons x l=>exact⟨x,rfl⟩
  have hcr:=(ab.1 (hl 0 x1 hx1)).1;have ha1:AR R ⟨r,1,U⟩ ⟨b',1,U⟩:=by cases hv with|pointer ha=>have h:=AR.add ha 1;rwa[eC,eC]at h
  have⟨sv,hsv,hvs⟩:=rt.h.cell ha1 (v:=.slice (C ⟨gl,0,U⟩) l.length (cap+1)) (by simp[World.cell?,Q0]);cases hvs with|@slice _ a2 _ _ ha2=>cases a2 with |none=>cases ha2|some a2=>have⟨gR,o2,s2⟩:=a2;have⟨⟨lr,hr,hlr⟩,e1,e2⟩:=ha2;simp only at hr e1 e2 hlr;subst e1 e2;have⟨Q1,o',I,A,hoo⟩:=rt.h.obj _ _ _ hr;rw[F]at I;cases I;cases hoo with|@cells _ c2 _ e' _ f' Q2 hs2 hcc hf=>
  have hf':=hf.resolve_right fun hn=>by have :=hn 0 hcr;omega
  have⟨he',hl0⟩:e'=5∧lr=0:=Q2.resolve_right fun e=>by cases e.1
  subst hf' he' hl0;have J:∀(j:Nat)x,l[j]?=C x→c2[j]?=C (.int .u8 x.toNat):=fun j x hj=>by have k1:=hl j x hj;have K:=Nat.lt_of_lt_of_le (ab.1 k1).1 hs2;have :=hcc j _ _ Y0 k1 (cB K);rw[cB K];generalize c2[j]=u at this;cases this;rfl
  have hgb:gR≠b':=fun e=>by subst e;rw[hb']at A;cases A
  have nd:¬dead gR∧W0.heap.size≤gR:=by refine⟨(rt.rn _ _ _ hr).1,Nat.le_of_not_lt fun K=>?_⟩;have⟨c3,e3,f3,k1,k2⟩:=(rt.rn _ _ _ hr).2 K;rw[F]at k1;cases k1;have :=k2 0 hcr;omega
  have⟨lb,hrb,_⟩:∃lb,R r b' lb∧True:=let⟨⟨lb,k1,_⟩,_⟩:=ha1;⟨lb,k1,aA⟩;have Q3:=(ab.1 hb').1;have hgl:=(ab.1 A).1;generalize hn:l.length=n at*;generalize B:w.freeze ⟨gR,0,U⟩ n=w3;have w3h:w3.heap.size=w.heap.size:=by rw[←B];simp[World.freeze,hlen]
  have w3o:∀b,b≠gR→w3.heap[b]?=w.heap[b]?:=fun b Q0=>by rw[←B];simp[World.freeze,hlen,bh,cA Q0]
  have w3d:∀d,(w.at d).freeze ⟨gR,0,U⟩ n=w3.at d:=fun d=>by rw[←B];unfold World.freeze;split<;>rfl
  have w3s:w3.os=w.os∧w3.output=w.output:=by rw[←B];unfold World.freeze;split<;>exact⟨rfl,rfl⟩
  let S:V→Prop:=fun u=>(∃d,u=w.at d)∨∃d,u=w3.at d;have q:∀x y,S x→Wb x y→S y:=fun x y h⟨d,e⟩=>by
    subst e;rcases h with⟨d',rfl⟩|⟨d',rfl⟩;.exact .inl ⟨d,rfl⟩
    .exact .inr ⟨d,rfl⟩
  have W:∀u,S u→u.cell? ⟨b',1,U⟩=C (.slice (C ⟨gR,0,U⟩) n (cap+1))∧b'<u.heap.size:=fun u h=>by
    rcases h with⟨d,rfl⟩|⟨d,rfl⟩;.exact⟨hsv,Q3⟩
    . refine⟨?_,by rw[←w3h]at Q3;exact Q3⟩;have :w3.cell? ⟨b',1,U⟩=w.cell? ⟨b',1,U⟩:=by simp only[World.cell?,w3o b' (cA hgb)]
      exact this.trans hsv
  let Q:Exit→Act→V→Prop:=fun e a1 u=>e=.normal∧a1=zq1 b' (.slice (C ⟨gR,0,U⟩) n (cap+1)) (.pointer (C ⟨gR,0,U⟩)) n ⟨l.toArray⟩∧∃d,u=w3.at d;have z:∀a1 x y,Q .normal a1 x→Wb x y→Q .normal a1 y:=fun a1 x y⟨I,A,d,h3⟩⟨d',e⟩=>⟨I,A,d',by rw[e,h3];rfl⟩;have p:∀{Q1:bU}{v:Y}{a1:Act},ar Q1 (yielded stA a1.tmps)=E→oI prog (aG a1.eval Q1)=C (.value v)→YieldsIfC prog (UJ W0 dead) stF stA S Q1 v a1:=fun I A=>.inl ⟨I,fun u _=>⟨(qa A u).1,by unfold listed;rw[(qa A u).2,seen_none];exact .refl u⟩⟩;have G:∀{Q1:bU}{px:aU}{a1:Act},ar Q1 (yielded stA a1.tmps)=E→Q1.op=.load 22 px→a1.eval px=.pointer (C ⟨b',1,U⟩)→YieldsIfC prog (UJ W0 dead) stF stA S Q1 (.slice (C ⟨gR,0,U⟩) n (cap+1)) a1:=fun{Q1 px a1}I A h3=>.inl ⟨I,fun u hu=>by
      have⟨dd,hu2,hd⟩:=ak.1 zy4;have Q4:=vm (P:=prog) (a:=⟨b',1,U⟩) (w:=u) hu2 hd (W u hu).1;have e:(aG a1.eval Q1).runT prog u #[]=(.ok (.value (.slice (C ⟨gR,0,U⟩) n (cap+1))) u,#[⟨.cell ⟨b',1,U⟩,H,H⟩]):=by unfold aG;simp only[A,h3];rw[cn,show dz 22 (.pointer (C ⟨b',1,U⟩))=dx 22 ⟨b',1,U⟩from rfl];simp only[Q4];rfl
      rw[Sem.runT_eq,aX]at e;refine⟨e.1,?_⟩;unfold listed;rw[e.2];exact ZJ ((rt.rn _ _ _ hrb).1) (W u hu).2 (fun e Q2=>⟨1,by simpa using Q2⟩) (.refl u) (W u hu).2⟩;refine⟨(2+(stA.size+1+1))+5,fun bd⟨d,e⟩=>?_⟩;subst e;rw[T];refine⟨.refl _,lU 5 (x:=(aF prog stF #[bp b'] .normal,cm::L')) ?_⟩;rw[zy1];have M:=wpC_region_held (main:=E) (R:=Wb) (D:=UJ W0 dead) (fn:=stF) (ops:=stA) (Q:=Q) (S:=S) jb zjP (id:=stX.1) (a:=OD b') (w:=w.at d) u6.2.2 fun bd⟨d1,e1⟩=>by
    subst e1;rw[u6.1];apply jw jb q z (i:=0) (rR gK) u6.2.1 (zo5).1 (zo5).2 (p zvb zvl) (.inl ⟨_,rfl⟩);apply jw jb q z (rR gK) u6.2.1 (zo6).1 (zo6).2 (p zvc zvm) (.inl ⟨_,rfl⟩);apply jw jb q z (rR gK) u6.2.1 (zo7).1 (zo7).2 (p zvd zvn) (.inl ⟨_,rfl⟩);apply jw jb q z (rR gK) u6.2.1 (zo8).1 (zo8).2 (G zve (@zpf b').1 (@zpf b').2) (.inl ⟨_,rfl⟩);apply jw jb q z (rR gK) u6.2.1 (zpa).1 (zpa).2 (p zvg zvp) (.inl ⟨_,rfl⟩);apply jw jb q z (rR gK) u6.2.1 (zpb).1 (zpb).2 (p zvh zvq) (.inl ⟨_,rfl⟩);apply jw jb q z (rR gK) u6.2.1 (zpc).1 (zpc).2 (p zvi zvr) (.inl ⟨_,rfl⟩);apply jw jb q z (rR gK) u6.2.1 (zpd).1 (zpd).2 (G zvj (@zpg b' gR n cap).1 (@zpg b' gR n cap).2) (.inl ⟨_,rfl⟩);apply jw jb q z (rR gK) u6.2.1 (zpe).1 (zpe).2 (p zvk zvs) (.inl ⟨_,rfl⟩);apply jw jb q z (rR gK) u6.2.1 (zo9).1 (zo9).2 (p zvf zvo) (.inl ⟨_,rfl⟩);have Q5:=@zu9 b' gR n cap;refine anyCH_all Q5.1 Y1 fun j hj=>?_;obtain rfl:=dC.1 hj;unfold OpC;rw[rR gK];simp only;rintro Ta⟨d2,rfl⟩;have Q4:∃sa,(aG (a8 (S8 b' (.slice (C ⟨gR,0,U⟩) n (cap+1)) (.pointer (C ⟨gR,0,U⟩)) n)) (eE 10)).runT prog (w.at d2) #[]=(.ok (.value (.string ⟨l.toArray⟩)) (w3.at d2),sa)∧∀e∈sa,∃j,e=⟨.cell ⟨gR,j,U⟩,H,H⟩:=by
      have⟨sa,bb,k1,k2⟩:=Z5 (P:=prog) (w:=w.at d2) A l 0 .empty #[] fun j x hj=>by rw[ew];exact J j x hj
      have fj:=Lib.run_unsafeString_row (P:=prog) (w:=w.at d2) 81 3 9 5 zur ce5 gR c2.size (by simp[World.shape?,World.at,A]) l h0 (by have :=(ab.1 (J (l.length-1) _ (aN Y0))).1;omega) Y0 fun j x hj=>by rw[eC,ew,GC (w:=w.at d2) A];exact J j x hj
      rw[hn,w3d]at fj;refine⟨sa,?_,fun e Q2=>k2 e Q2⟩;have X:=Lib.liesAt_bytes (P:=prog) ce5 (c2.size/prog.cellsOf 5) n (by rw[ce5,Nat.div_one,←hn];have :=(ab.1 (J (l.length-1) _ (aN Y0))).1;omega);rw[hn,Sem.runT_eq,aX]at k1;have hsh:(w.at d2).shape? gR=C (5,c2.size):=by simp[World.shape?,World.at,A]
      have O:(pI #[81,3] 9 #[.pointer (C ⟨gR,0,U⟩),.int .i64 n]).events prog (w.at d2) #[]=sa:=by
        have zyq:pI #[81,3] 9 #[.pointer (C ⟨gR,0,U⟩),.int .i64 n]=(do
            let m←asInt (.int .i64 n)if m<0 then runtimePanic (.error _)
            if m>aD.max then unsupported (.unsafePointer _)
            if m=0 then pure (.string .empty)else if←variablesAt ⟨gR,0,U⟩ (←elemOf 81) m.toNat then do
              let s←loadBytes ⟨gR,0,U⟩ .empty m.toNat
              freeze ⟨gR,0,U⟩ m.toNat
              pure (.string s)else unsupported (.unsafePointer _)):=rfl;rw[zyq];have zyw:aD.max=9223372036854775807:=rfl;have zyx:¬(n:Int)<0:=Y0;have zyl:¬(9223372036854775807:Int)<(n:Int):=Y0;simp[asInt,asIntOf,zyw,zyl,zyx,hlen,variablesAt,hsh,elemOf,aT zur,X,k1.1,k1.2,vV]
      unfold aG;simp only[Q5.2.2.1];have hbu:∀a t c x,builtin .unsafeString a t c x=(do pure (dU (←pI a t x))):=fun _ _ _ _=>rfl;simp[resolve,invoke,Q5.2.2.2.1,Q5.2.2.2.2.1,Q5.2.2.2.2.2,hbu,fj,O]
    have⟨sa,Q4,hes⟩:=Q4;rw[Sem.runT_eq,aX]at Q4;change uponK (eE 10) (S8 b' (.slice (C ⟨gR,0,U⟩) n (cap+1)) (.pointer (C ⟨gR,0,U⟩)) n) _ (Sem.run prog (aG (a8 (S8 b' (.slice (C ⟨gR,0,U⟩) n (cap+1)) (.pointer (C ⟨gR,0,U⟩)) n)) (eE 10)) (w.at d2));rw[Q4.1];refine⟨?_,.inr ⟨d2,rfl⟩,?_⟩
    . change UJ W0 dead (w.at d2) (w3.at d2) (seen prog stF (Sem.events prog (aG (a8 (S8 b' (.slice (C ⟨gR,0,U⟩) n (cap+1)) (.pointer (C ⟨gR,0,U⟩)) n)) (eE 10)) (w.at d2) #[]));rw[Q4.2];apply ZJ (W0:=W0) (dead:=dead) (w:=w.at d2) (w':=w3.at d2) nd.1 hgl hes ⟨Nat.le_of_eq w3h.symm,fun b Q0=>w3o b Y0,w3s.1,w3s.2,fun e Q2=>by simp at Q2⟩;show gR<w3.heap.size;omega
    . apply jw jb q z (i:=11) (rR gK) u6.2.1 ziw.1 ziw.2.1 (p zjm.1 zjm.2) (.inr ⟨_,rfl⟩);exact anyCH_done ziw.2.2 ⟨rfl,rfl,d2,rfl⟩ 0
  rw[u6.1]at M⊢;refine M ⟨stF,#[],[],[],.run,.normal,U⟩ [.code .ret] (cm::L') _ 2 rfl Y1 fun e a1 u⟨I,A,d2,h3⟩=>?_;subst I A h3;apply lU (n:=2) (x:=((⟨stF,#[],[],[],.run,.normal,U⟩:ag).at (zq1 b' (.slice (C ⟨gR,0,U⟩) n (cap+1)) (.pointer (C ⟨gR,0,U⟩)) n ⟨l.toArray⟩) [.code .ret],cm::L'));rw[zy2];have hw3:=zgY rt.wv hr F A n;rw[B]at hw3;exact Gt fun d3=>⟨_,_,_,_,_,R,rfl,⟨rfl,rfl,rfl⟩,((hw3.at d2).at d3).rt (rt.f.finish (.string _)) rt.l⟩
end
noncomputable abbrev PR:al:=prog
end Rn
end Go.Proofs.YtelohkknmgaacaaGreatDoor
