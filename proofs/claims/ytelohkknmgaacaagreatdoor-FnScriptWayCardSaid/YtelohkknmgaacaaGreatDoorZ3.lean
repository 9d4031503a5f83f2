/-
  The company of the starter and its workers (part 3). No condition.
-/
import Derived.Calls
import Derived.Conc.CrowdTrace
import Derived.Test.YtelohkknmgaacaaGreatDoorZ1
import Derived.Conc.CrowdStepC
import Derived.Conc.MuStep3
import Derived.Test.YtelohkknmgaacaaGreatDoorProg
import Derived.Conc.WgGenLoneE
import Derived.KernelRfl
import Derived.Conc.MuWords
import Derived.Conc.WgGenN2
set_option linter.unusedSimpArgs false
set_option linter.unusedVariables false
set_option linter.unusedSectionVars false
set_option linter.defProp false
set_option maxRecDepth 100000
set_option maxHeartbeats 16000000
open Array renaming getElem?_eq_some_iff→ab
open Go renaming Trace→nb,Addr→bX,Event→bB,Program→al,Goroutine→av,World→V,MemAct→ic,stepG→bg,Frame→ag,TypeId→ah,Value→Y,mayWake→Gk,Question→c6,execOp→aG,Code→eF,Conc.Goes.stop→ba
open Go.Act renaming eval→a8
open Go.Conc renaming touchAt→qA,getElem?_append_cases→dW,noRace_append→qK,touch_of→tv,ofEvents_eq→vn,QuitsD→lR,aside_setCell→vX,Goes→sx,stepG_add_atomic→gd
open Go.Conc.QuitsD renaming leaveD→vU
open Go.ConcM renaming EvStop→lj,evStop_book→bf
open Go.ConcM.Th renaming deaf→cp
open Go.ConcR.Gen renaming x_addU64_n→tK,x_addU64_b→tI,x_addU64_x→tL,x_addU64_f→tJ
open Go.Extern renaming findNext→et,find→fJ
open Go.IntKind renaming u64→nY
open Go.MemAct renaming ofEvent→aI,touch?→cd
open Go.MemOp renaming ofEvents→cM
open Go.Trace renaming g?→Ay
open List renaming mem_cons→bq,not_mem_nil→cV,takeWhile_prefix→zP
open Nat renaming lt_or_ge→mz,le_refl→ao,le_trans→bw,zero_le→a7,lt_of_lt_of_le→aO,le_of_eq→cI
open Option renaming map_eq_some_iff→ak,getD_some→db
open Option.some renaming injEq→ay
open Bool renaming true→E,false→H
open Option renaming some→C,none→U
namespace Go.Proofs.YtelohkknmgaacaaGreatDoor
def Y4{p:Prop}(h:p:=by k_ne):p:=h
open Tryz
namespace Rn
inductive Rk:Type 1|nd(ι:Type)(f:ι->Rk):Rk
def Rk.lt(a:Rk):Rk->Prop|.nd _ f=>∃i,a=f i
def Rk.acc(a:Rk):Acc Rk.lt a:=by induction a with|nd ι f b=>refine⟨_,λy h=>?_⟩;obtain⟨i,rfl⟩:=h;exact b i
def Rk.zoT{ι:Type}(f:ι->Rk)(i:ι):Rk.lt (f i) (.nd ι f):=⟨i,rfl⟩
structure Ms:Type 1 where
 m:Rk
 c:Rk
 a:Rk
 b:Rk
 n:Nat
inductive Ms.lt:Ms->Ms->Prop|m{x y:Ms}(h:Rk.lt x.m y.m):Ms.lt x y|c{x y:Ms}(e:x.m=y.m)(h:Rk.lt x.c y.c):Ms.lt x y|a{x y:Ms}(e:x.m=y.m)(ec:x.c=y.c)(h:Rk.lt x.a y.a):Ms.lt x y|b{x y:Ms}(e:x.m=y.m)(ec:x.c=y.c)(ea:x.a=y.a)(h:Rk.lt x.b y.b):Ms.lt x y|n{x y:Ms}(e:x.m=y.m)(ec:x.c=y.c)(ea:x.a=y.a)(eb:x.b=y.b)(h:x.n<y.n):Ms.lt x y
def Ms.acc:∀x:Ms,Acc Ms.lt x:=by
 have t:∀m c a b:Rk,∀n:Nat,Acc Ms.lt ⟨m,c,a,b,n⟩:=by intro m;induction m.acc with|intro m _ i=>intro c;induction c.acc with|intro c _ g=>intro a;induction a.acc with|intro a _ j=>intro b;induction b.acc with|intro b _ k=>intro n;induction n using Nat.strongRecOn with|_ n l=>refine⟨_,λy h=>?_⟩;obtain⟨q,p,u,s,d⟩:=y;cases h with|m h=>exact i q h p u s d|c e h=>cases e;exact g p h u s d|a e f h=>cases e;cases f;exact j u h s d|b e f o h=>cases e;cases f;cases o;exact k s h d|n e f o r h=>cases e;cases f;cases o;cases r;exact l d h
 exactλx=>t x.m x.c x.a x.b x.n
open Go Go.Conc Go.ConcN
def Zb(t:nb):Prop:=∀i a,t.act? i≠C (.mark (.release a))
def Oy(Dd:Loc->Prop)(t:nb)(i:Nat):Prop:=∃x,qA t i=C x/\(x.kind≠.atomic\/t.heard i\/¬Dd x.loc)
structure TI(Sh Dd:Loc->Prop)(Wk:Nat->Prop)(W Rr:Nat->Loc->Prop)(t:nb):Prop where
 quiet:Quiet Sh t
 wr:∀g l,W g l->Perm t g l
 rd:∀g l,Rr g l->PermW t g l
 nr:∀said,¬Race said t
 kn:∀i,Oy Dd t i->Knows t 0 i\/∃k,Wk k/\t.g? i=C k
 norel:Zb t
structure zmm(Sh:Loc->Prop)(W Rr:Nat->Loc->Prop):Prop where
 ww:∀g g' l,W g l->W g' l->g=g'
 wr:∀g g' l,W g l->Rr g' l->g=g'
 shW:∀g l,W g l->¬Sh l
 shR:∀g l,Rr g l->¬Sh l
def OkT(Sh:Loc->Prop)(W Rr:Nat->Loc->Prop)(g:Nat)(op:MemOp):Prop:=op.g=g/\(∀a,op.act≠.mark (.release a))/\∀x,op.act.touch?=C x->(Sh x.loc/\x.kind≠.plain/\(x.kind=.said->g=0))\/W g x.loc\/(Rr g x.loc/\x.write=H)
section
variable{Sh Dd:Loc->Prop}{Wk:Nat->Prop}{W Rr:Nat->Loc->Prop}{t u:nb}{g:Nat}
def Oy.old{i:Nat}(h:Oy Dd (t++u) i)(c:i<t.size):Oy Dd t i:=by have⟨x,b,a⟩:=h;exact⟨x,by rw[<-touchAt_old c];exact b,by rw[heard_old c]at a;exact a⟩
def Zb.app(h:Zb t)(f:∀op∈u,∀a,op.act≠.mark (.release a)):Zb (t++u):=by
 intro i a d;have⟨op,e,o⟩:=ak.1 d;rcases dW e with⟨_,b⟩|⟨_,c⟩;.exact h i a (by rw[act?_of b,o])
 .simp_all
def TI.app(r:zmm Sh W Rr)(h:TI Sh Dd Wk W Rr t)(m:g=0\/Wk g)(y:∀op∈u,OkT Sh W Rr g op):TI Sh Dd Wk W Rr (t++u):=by
 have only:∀op∈u,∀b,op.act.touch?=C b->∀g',W g' b.loc->op.g=g':=by
  intro op v b d g' z;rw[(y op v).1];rcases(y op v).2.2 b d with⟨B,_⟩|w|⟨A,_⟩;.cases r.shW _ _ z B
  .exact r.ww _ _ _ w z
  .exact(r.wr _ _ _ z A).symm
 refine⟨h.quiet.app λop v x G B=>?_,λg' l z=>(h.wr g' l z).app λop v b d e=>only op v b d g' (e▸z),λg' l A=>(h.rd g' l A).app λop v b d e c=>?_,λD=>?_,λi J=>?_,h.norel.app λop v=>(y op v).2.1⟩
 .rcases(y op v).2.2 x G with⟨_,n,o⟩|z|⟨A,_⟩;.exact⟨n,λe=>by rw[(y op v).1];exact o e⟩
  .cases r.shW _ _ z B
  .cases r.shR _ _ A B
 .rw[(y op v).1];rcases(y op v).2.2 b d with⟨B,_⟩|w|⟨_,p⟩;.cases r.shR _ _ A (e▸B)
  .exact r.wr _ _ _ w (e▸A)
  .simp_all
 .refine qK (h.nr D) (λop v=>(y op v).1) (λi a I op v b d F=>?_);rcases(y op v).2.2 b d with⟨B,j,s⟩|z|⟨A,c⟩;.exact h.quiet.known B j s i a I F
  .exact h.wr g b.loc z i a I F.1
  .exact h.rd g b.loc A i a I F.1 (F.2.2.1.resolve_right (by simp[c]))
 .by_cases f:i<t.size
  .rcases h.kn i (J.old f)with j|⟨k,j,q⟩;.exact .inl (j.app u)
   .exact .inr ⟨k,j,by rw[g?_old f];exact q⟩
  .have⟨x,G,_⟩:=J;have⟨op,K,_⟩:=tv G;have v:op∈u:=by grind
   have e:=(y op v).1;rcases m with rfl|m;.exact .inl (by rw[<-e];exact knows_own K)
   .exact .inr ⟨g,m,by simp[Ay,K,e]⟩
def TI.zqt(h:TI Sh Dd Wk W Rr t)(j:∀op∈u,op.g=g)(w:∀op∈u,op.act.touch?=U/\∀a,op.act≠.mark (.release a)):TI Sh Dd Wk W Rr (t++u):=by
 have no:∀op∈u,∀b,op.act.touch?=C b->False:=Y7;refine⟨h.quiet.app λop p x q=>(no op p x q).elim,λr l y=>(h.wr r l y).app λop p b c=>(no op p b c).elim,λr l z=>(h.rd r l z).app λop p b c=>(no op p b c).elim,λs=>qK (h.nr s) j λi a _ op p b c=>(no op p b c).elim,λi v=>?_,h.norel.app λop p=>(w op p).2⟩;by_cases d:i<t.size
 .rcases h.kn i (v.old d)with e|⟨k,e,m⟩;.exact .inl (e.app u)
  .exact .inr ⟨k,e,by rw[g?_old d];exact m⟩
 .have⟨x,q,_⟩:=v;have⟨op,A,f⟩:=tv q;rcases dW A with⟨n,_⟩|⟨_,o⟩;.cases d n
  .simp_all
variable{R:Nat->Loc->Prop}
def TI.W5{j:Nat->Loc->Prop}{S D:Loc->Prop}{d:Nat->Prop}(h:TI Sh Dd Wk W Rr t)(w:∀g l,j g l->W g l\/∀i x,qA t i=C x->x.loc≠l)(u:∀g l,R g l->W g l\/Rr g l\/∀i x,qA t i=C x->x.loc≠l)(v:∀l,S l->Sh l\/∀i x,qA t i=C x->x.loc≠l)(y:∀l,Dd l->D l)(m:∀k,Wk k->d k):TI S D d j R t:=by
 refine⟨λi op x r s c=>?_,λg l c=>?_,λg l c=>?_,h.nr,λi z=>?_,h.norel⟩
 .rcases v _ c with b|b;.exact h.quiet i op x r s b
  .cases b i x (by rw[touchAt_of r];exact s) rfl
 .rcases w g l c with b|b;.exact h.wr g l b
  .exactλi a q e=>absurd e (b i a q)
 .rcases u g l c with b|b|b;.exact .of (h.wr g l b)
  .exact h.rd g l b
  .exactλi a q e=>absurd e (b i a q)
 .have⟨x,b,n⟩:=z;rcases h.kn i ⟨x,b,n.imp id (Or.imp id λA c=>A (y _ c))⟩with o|⟨k,f,p⟩;.exact .inl o
  .simp_all
variable{k:Nat}
def TI.iY{r:Nat->Loc->Prop}{m:Nat->Prop}(h:TI Sh Dd Wk W Rr t){x y:MemOp}(O:x.g=0/\x.act=.go k)(j:y.g=k/\y.act=.start)(q:Deaf t 0=0)(s:Deaf t k=0)(Q:∀g l,r g l->W g l\/(g=k/\W 0 l))(S:∀g l,R g l->W g l\/Rr g l\/(g=k/\(W 0 l\/Rr 0 l)))(u:∀k,Wk k->m k):TI Sh Dd m r R (t++#[x,y]):=by
 have n:∀op∈#[x,y],∀b,op.act.touch?=C b->False:=by
  intro op K b c;simp[List.mem_toArray,bq,cV,or_false]at K;rcases K with rfl|rfl;.rw[O.2]at c;cases c
  .rw[j.2]at c;cases c
 have L:∀{i:Nat}{a:Touch},qA (t++#[x,y]) i=C a->qA t i=C a:=by
  intro i a M;have⟨z,v,o⟩:=tv M;rcases dW v with⟨_,A⟩|⟨_,B⟩;.rw[touchAt_of A];exact o
  .grind
 have w:=λg l f=>(h.wr g l f).app λop K b c=>(n op K b c).elim;refine⟨h.quiet.app λop K b c _=>(n op K b c).elim,λg l f=>?_,λg l f=>?_,λN=>?_,λi P=>?_,h.norel.app λop K a e=>?_⟩
 .rcases Q g l f with d|⟨rfl,d⟩;.simp_all
  .exactλi a M e=>fork_knows O j q s (h.wr 0 l d i a (L M) e)
 .rcases S g l f with d|d|⟨rfl,d|d⟩;.exact .of (w g l d)
  .exact(λg l f=>(h.rd g l f).app λop K b c=>(n op K b c).elim) g l d
  .exactλi a M e _=>fork_knows O j q s (h.wr 0 l d i a (L M) e)
  .exactλi a M e F=>fork_knows O j q s (h.rd 0 l d i a (L M) e F)
 .have e:t++#[x,y]=(t++#[x])++#[y]:=Y8;rw[e];refine qK (g:=k) (qK (g:=0) (h.nr N) (λop K=>Y7) (λi a _ op K b c _=>(n op Y7 b c).elim)) (λop K=>Y7) (λi a _ op K b c _=>(n op Y7 b c).elim)
 .have p:i<t.size:=by have⟨z,v,_⟩:=P;have⟨X,G,_⟩:=tv (L v);grind
  rcases h.kn i (P.old p)with J|⟨T,D,I⟩;.exact .inl (J.app _)
  .exact .inr ⟨T,u _ D,by rw[g?_old p];exact I⟩
 .grind
structure xT(Dd:Loc->Prop)(a:bX)(t:nb)(k r:Nat):Prop where
 act:t.act? r=C (.mark (.releaseMerge a))g:t.g? r=C k
 heard:t.heard r
 after:∀i,r<i->t.g? i=C k->¬Oy Dd t i
variable{a:bX}{r:Nat}
def xT.app(h:xT Dd a t k r)(j:∀i,t.size<=i->(t++u).g? i=C k->¬Oy Dd (t++u) i):xT Dd a (t++u) k r:=by
 have d:=lt_of_act? h.act;refine⟨by rw[act?_old d];exact h.act,by rw[g?_old d];exact h.g,(heard_old d).2 h.heard,λi e c f=>?_⟩;rcases mz i t.size with l|b;.exact h.after i e (by rw[<-g?_old l];exact c) (f.old l)
 .simp_all
def xT.Gy(h:xT Dd a t k r)(f:∀op∈u,op.g=g)(d:g≠k):xT Dd a (t++u) k r:=by
 refine h.app λi j b=>?_;have⟨op,e,o⟩:=ak.1 b;rcases dW e with⟨l,_⟩|⟨_,c⟩;.omega
 .simp_all
def xT.zq6(h:xT Dd a t k r)(w:FuncId)(u:String)(v:Array bB)(f:∀j e,v[j]?=C e->(aI e).touch?=U\/((∃ad wr,e=⟨.cell ad,wr,E⟩/\Dd (.cell ad))/\0<deafBehind (Deaf t k) (v.extract 0 j))):xT Dd a (t++cM k w u v) k r:=by
 refine h.app (λi B _ z=>?_);have⟨x,A,c⟩:=z;have⟨op,D,b⟩:=tv A;have y:(cM k w u v)[i-t.size]?=C op:=by grind
 rw[vn,Array.getElem?_map]at y;obtain⟨e,l,rfl⟩:=ak.1 y;have m:i-t.size<=v.size:=by grind
 rcases f _ e l with s|⟨⟨ad,wr,rfl,n⟩,F⟩;.simp_all
 .have d:x.kind=.atomic/\x.loc=.cell ad:=by cases wr<;>simp[aI,cd]at b<;>subst b<;>simp_all
  rcases c with c|⟨g,q,o⟩|c;.exact c d.1
  .have p:g=k:=Y7;subst p;have:=deaf_inside t g w u v (i-t.size) m;rw[show t.size+(i-t.size)=i by omega,o]at this;omega
  .simp_all
def xT.new(d:Deaf t k=0)(fn:FuncId)(pos:String):xT Dd a (t++cM k fn pos #[⟨.mark (.releaseMerge a),H,E⟩]) k t.size:=by
 have e:cM k fn pos #[⟨.mark (.releaseMerge a),H,E⟩]=#[{g:=k,fn,pos,act:=.mark (.releaseMerge a)}]:=by rw[vn];simp[aI]
 have y:(t++#[({g:=k,fn,pos,act:=.mark (.releaseMerge a)}:MemOp)])[t.size]?=C {g:=k,fn,pos,act:=.mark (.releaseMerge a)}:=Y1;rw[e];refine⟨by rw[act?_of y],by simp[Ay],⟨k,by simp[Ay],by rw[deaf_old (ao _)];exact d⟩,λi b h=>?_⟩;have⟨op,o,_⟩:=ak.1 h;have:=lt_size_of_getElem? o;simp at this;omega
def TI.zqQ{y:MemOp}{S D:Loc->Prop}{s:Nat->Prop}{A:Nat->Loc->Prop}(h:TI Sh Dd Wk W Rr t)(f:y.g=0/\y.act=.mark (.acquire a))(u:Deaf t 0=0)(L:∀k,Wk k->∃r,xT Dd a t k r)(hw:∀g l,A g l->g=0/\¬Dd l)(v:∀g l,R g l->g=0/\¬Dd l)(hs:∀l,S l->Sh l)(hd:∀l,Dd l->D l):TI S D s A R (t++#[y]):=by
 have M:(t++#[y])[t.size]?=C y:=Y1;have F:(t++#[y]).heard t.size:=⟨0,by simp[Ay,f.1],by rw[deaf_old (ao _)];exact u⟩;have n:∀b,y.act.touch?=C b->False:=λb q=>by rw[f.2]at q;cases q
 have o:Zb (t++#[y]):=h.norel.app λop N a' e=>by simp_all
 have P:∀i,Oy Dd (t++#[y]) i->Knows (t++#[y]) 0 i:=by
  intro i Q;have m:i<t.size:=by
   have⟨x,O,_⟩:=Q;have⟨op,Z,w⟩:=tv O;rcases dW Z with⟨c,_⟩|⟨_,B⟩;.exact c
   .simp_all
  rcases h.kn i (Q.old m)with z|⟨k,z,I⟩;.exact z.app _
  .have⟨r,L⟩:=L k z;have d:=lt_of_act? L.act;have K:HappensBefore (t++#[y]) r t.size:=.single (.inr ⟨.marked d (.inr (by rw[act?_old d];exact L.act)) (by rw[act?_of M,f.2]) (λj _ _=>o j a),(heard_old d).2 L.heard,F⟩);have hle:=Nat.le_of_not_lt λc=>L.after i c I (Q.old m);rcases mz i r with c|G;.refine⟨t.size,y,M,f.1,.inr (.trans (.single (.inl ⟨c,k,by rw[g?_old m];exact I,by rw[g?_old d];exact L.g⟩)) K)⟩
   .obtain rfl:i=r:=Y0;exact⟨t.size,y,M,f.1,.inr K⟩
 have T:∀l,¬Dd l->Perm (t++#[y]) 0 l:=λl c i x O e=>P i ⟨x,O,.inr (.inr (e▸c))⟩;refine⟨λi op x Z O c=>?_,λg l c=>?_,λg l c=>?_,λX=>?_,λi Q=>.inl (P i ?_),o⟩
 .exact(h.quiet.app λop N x O _=>by simp_all) i op x Z O (hs _ c)
 .grind
 .obtain⟨rfl,p⟩:=v g l c;exact .of (T l p)
 .exact qK (g:=0) (h.nr X) (λop N=>Y7) (λi a _ op N b q _=>by simp_all)
 .have⟨x,p,J⟩:=Q;exact⟨x,p,J.imp id (Or.imp id λhn c=>hn (hd _ c))⟩
def TI.zrA(h:TI Sh Dd (λ_=>False) W Rr t):t.HandedOver:=by
 intro i g b n⟨x,e,l,f⟩;rcases h.kn i ⟨x,e,f.imp id .inl⟩with⟨q,z,c,d,a⟩|⟨k,j,_⟩
 .rcases a with rfl|a
  .simp[Ay,c,d]at b;cases n b.symm
  .exact⟨q,by simp[Ay,c,d],a⟩
 .cases j
end
end Rn
namespace Rn
open Go Go.Conc
def Mv(P:al)(m:Bool)(g:av)(w:V)(g':av)(w':V)(es:Array bB)(acts:List ic):Prop:=(acts=[]/\bg P m g w=.go g' w' es)\/(∃a L f c s b,g=G a L/\g'=G f L/\bg P m g w=.comm g #[c] E s b es/\jK a L c s b es=.next f L w' es acts)
def jQ(i:Nat)(g:av)(es:Array bB)(acts:List ic):nb:=cM i g.frame.fn g.frame.place es++(acts.map λa=>({g:=i,fn:=g.frame.fn,pos:=g.frame.place,act:=a}:MemOp)).toArray
section
variable{P:al}{gs:Array av}{w w':V}{sl:Option (Nat×Nat)}{i:Nat}{g g':av}{es:Array bB}{acts:List ic}
def Uq(h:∀o∈gs,o.status≠.blocked\/o.offers=U)(r:Nat)(b:Bool):partners gs r b=[]:=by
 unfold partners;rw[List.flatMap_eq_nil_iff];rintro⟨o,j⟩m;have c:o∈gs:=by grind
 rcases h o c with a|a;.simp_all
 .simp_all
def Wk(w':V)(f:av->av):Prop:=∀o,f o=o\/f o=o.again w'
def zch{o:av}(h:o.offers=U)(a:o.status=.running\/o.status=.finished\/o.status=.blocked)(w:V):o.again w=if o.status=.blocked then{o with status:=.running}else o:=by unfold Goroutine.again;rcases a with a|a|a<;>simp[h,a]
def Ot(d:gs[i]?=C g)(j:∀o∈gs,o.status≠.blocked\/o.offers=U)(h:Mv P (i==0) g w g' w' es acts):∃f,Wk w' f/\(f=woken P g g' w'\/f=id)/\runT P (crowd gs w sl) i=(.next (crowd ((gs.map f).setIfInBounds i g') w' sl),jQ i g es acts):=by
 rcases h with⟨rfl,h⟩|⟨p,L,m,c,q,t,rfl,rfl,h,n⟩
 .refine⟨woken P g g' w',λo=>?_,.inl rfl,?_⟩
  .unfold woken;split;.simp_all
   .simp_all
  .rw[runT_crowd_go d h];simp[jQ]
 .refine⟨id,λo=>.inl rfl,.inr rfl,?_⟩;have⟨l,k⟩:=ab.1 d;have s:=swapAt_of_lt l {(default:av)with status:=.finished};have a:∀o∈gs.set i {(default:av)with status:=.finished},o.status≠.blocked\/o.offers=U:=by grind
  have⟨_,_,e⟩:=xH (P:=P) (rest:={timers:=#[],alone:=U,slice:=sl}) (i:=i) (cs:=L) (λr b=>Uq a r b) n;show runT P {world:=w,gs:=gs,rest:={timers:=#[],alone:=U,slice:=sl}} i=_;unfold runT;rw[k]at s;simp[s,h,GStep.es,e,set_setIfInBounds l];simp[crowd,jQ,G]
def Qu{m:Bool}{j g:ag}{L i cs:List ag}(h:zfm P m j L w (.next g i w' es acts)):Mv P m (G j (L++cs)) w (G g (i++cs)) w' es acts:=by
 rcases h cs with h|⟨c,s,k,d,b⟩;.exact .inl h
 .have e:i=L:=by
   rcases Hs b with h|⟨_,_,_,h⟩;.cases h
   .cases h;rfl
  subst e;refine .inr ⟨j,i++cs,g,c,s,k,rfl,rfl,d,?_⟩;have l:∀(r:LR),jK j i c s k es=r->r=.next g i w' es acts->jK j (i++cs) c s k es=.next g (i++cs) w' es acts:=by
   intro r f a;subst f;unfold jK at a⊢;revert a;repeat' split
   all_goals intro a
   all_goals first|(cases a;done)|(simp only[LR.next.injEq]at a⊢;have⟨n,o,p,q,t⟩:=a;omega)
  simp_all
def fy{op:MemOp}(h:op∈jQ i g es acts):op.g=i/\((∃e∈es,op.act=.ofEvent e)\/∃a∈acts,op.act=a):=by
 rcases Array.mem_append.1 h with h|h
 .rw[vn]at h;obtain⟨e,b,rfl⟩:=Array.mem_map.1 h;grind
 .grind
def Cz:jQ i g es []=cM i g.frame.fn g.frame.place es:=by simp[jQ]
end
end Rn
namespace Rn
open Go Go.Conc Go.ConcM
open Go.ConcR(KK WgAt stA smA rd wr mk)
structure Ph where
 Mu:Nat
 Wg:Nat
 Bo:Nat
 tM:ah
 tW:ah
 tB:ah
 d:Nat
structure Ph.Ok(ph:Ph):Prop where
 mw:ph.Mu≠ph.Wg
 mb:ph.Mu≠ph.Bo
 wb:ph.Wg≠ph.Bo
section
variable(ph:Ph)
def Wf(w:V):Prop:=∃st s,MuAt ph.tM ph.Mu w st s
def Wj(w:V):Prop:=∃st s,WgAt ph.tW ph.Wg w st s
def zx(w:V)(c:Array Y):Prop:=w.heap[ph.Bo]?=C (.cells c ph.tB)/\c.size=2*ph.d
def zF(s:Nat)(c:Array Y):Array Y:=c.extract (s*ph.d) (s*ph.d+ph.d)
def Ph.sh(b:Nat):Prop:=b=ph.Mu\/b=ph.Wg\/b=ph.Bo
structure fF(s:Nat)(St:Nat->Prop)(w bd:V):Prop where
 size:w.heap.size<=bd.heap.size
 blk:∀b,St b->bd.heap[b]?=w.heap[b]?
 mu:Wf ph w->Wf ph bd
 wg:Wj ph w->Wj ph bd
 bo:∀cs,zx ph w cs->∃pB,zx ph bd pB/\zF ph s pB=zF ph s cs
end
section
variable{ph:Ph}{s:Nat}
def fF.refl(St:Nat->Prop)(w:V):fF ph s St w w:=⟨ao _,λ_ _=>rfl,id,id,λc h=>⟨c,h,rfl⟩⟩
def fF.trans{St:Nat->Prop}{w g Ta:V}(h:fF ph s St w g)(k:fF ph s St g Ta):fF ph s St w Ta:=⟨bw h.size k.size,λb a=>(k.blk b a).trans (h.blk b a),λx=>k.mu (h.mu x),λx=>k.wg (h.wg x),λi x=>by have⟨j,c,d⟩:=h.bo i x;have⟨l,e,f⟩:=k.bo j c;grind⟩
end
structure Lv(ph:Ph)(w:V):Prop where
 mu:Wf ph w
 wg:Wj ph w
 bo:∃cs,zx ph w cs
section
variable{ph:Ph}
variable{w:V}
def Lv.lt(h:Lv ph w){b:Nat}(a:ph.sh b):b<w.heap.size:=by
 have⟨st,g,c⟩:=h.mu;have⟨s,d,e⟩:=h.wg;have⟨i,f,_⟩:=h.bo;rcases a with rfl|rfl|rfl;.exact(ab.1 c).1
 .exact(ab.1 e).1
 .grind
def Lv.rely{s:Nat}{St:Nat->Prop}{bd:V}(h:Lv ph w)(r:fF ph s St w bd):Lv ph bd:=⟨r.mu h.mu,r.wg h.wg,let⟨c,b⟩:=h.bo;let⟨d,a,_⟩:=r.bo c b;⟨d,a⟩⟩
def Lv.same{w':V}(h:Lv ph w)(e:∀b,ph.sh b->w'.heap[b]?=w.heap[b]?):Lv ph w':=by have⟨st,i,c⟩:=h.mu;have⟨s,a,d⟩:=h.wg;have⟨j,f,g⟩:=h.bo;exact⟨⟨st,i,(e _ (.inl rfl)).trans c⟩,⟨s,a,(e _ (.inr (.inl rfl))).trans d⟩,⟨j,(e _ (.inr (.inr rfl))).trans f,g⟩⟩
end
section
variable(ph:Ph)
def s5:Loc->Option Nat|.cell a=>C a.block|.obj r=>C r|_=>U
def TOk(s:Nat)(m:Bool)(W R:Nat->Prop)(x:Touch):Prop:=(∃b,s5 x.loc=C b/\(W b\/(R b/\x.write=H)))\/(∃a,x.loc=.cell a/\a.block=ph.Bo/\s*ph.d<=a.off/\a.off<s*ph.d+ph.d)\/(∃a,x.loc=.cell a/\(a.block=ph.Mu\/a.block=ph.Wg)/\x.kind≠.plain/\(x.kind=.said->m=E))
def s0(s:Nat)(m:Bool)(W R:Nat->Prop)(e:bB):Prop:=(∀x,(aI e).touch?=C x->TOk ph s m W R x)/\∀a,aI e≠.mark (.release a)
end
def La(a:ic):Prop:=a.touch?=U/\∀m,a≠.mark m
def WH(a:Array bB):Prop:=∀e∈a,e.loc≠.mark .disable/\e.loc≠.mark .enable
section
variable(P:al)(ph:Ph)
structure Sil(s:Nat)(main:Bool)(WS RS:Nat->Prop)(g:av)(bd:V)(vE:Nat->Prop)(g':av)(w':V)(es:Array bB)(acts:List ic):Prop where
 mv:Mv P main g bd g' w' es acts
 size:bd.heap.size<=w'.heap.size
 blk:∀b,b<bd.heap.size->¬WS b->b≠ph.Bo->w'.heap[b]?=bd.heap[b]?
 bo:∀cs,zx ph bd cs->∃cs',zx ph w' cs'/\∀s',s'<2->s'≠s->zF ph s' cs'=zF ph s' cs
 os:OsLater bd.os w'.os
 tape:w'.tape=bd.tape
 output:w'.output=bd.output
 ev:∀e∈es,s0 ph s main vE RS e
 acts:∀a∈acts,La a
 ws:∀b,vE b↔WS b\/(bd.heap.size<=b/\b<w'.heap.size/\¬ph.sh b)
structure Mz(ex:Nat->Prop)(g:av)(bd:V)(g':av)(w':V)(es:Array bB):Prop where
 st:bg P H g bd=.go g' w' es
 size:w'.heap.size=bd.heap.size
 blk:∀b,¬ex b->w'.heap[b]?=bd.heap[b]?
 os:OsLater bd.os w'.os
 tape:w'.tape=bd.tape
 output:w'.output=bd.output
structure Nw where
 T:Th
 k:Nat
 WS:Nat->Prop
 RS:Nat->Prop
 g:av
 w:V
def OC(T:Th):Th:=if T.pc=.kd then at_ .wr else T
def vI:Pc->Bool|.ld|.l0|.r0|.sq|.c1|.r1|.c2|.t1|.s1|.t2|.r2|.a1|.r3|.le|.la|.ur|.ud|.u0|.uc|.ux|.us|.ue=>E|_=>H
inductive Law(s:Nat)(gj:Bool)(F:(Nat->Prop)->(Nat->Prop)->V->Prop)(x:Nw)(bd:V)(B:Nw->Prop):Prop|deep(h:x.k=0)|Ac(vE:Nat->Prop)(g':av)(w':V)(es:Array bB)(acts:List ic)(h:Sil P ph s H x.WS x.RS x.g bd vE g' w' es acts)(hn:WH es)(hm:x.T.mute=E->es=#[]/\acts=[]/\w'=bd/\vE=x.WS)(hB:B ⟨x.T,x.k,vE,x.RS,g',w'⟩)|mu(hp:vI x.T.pc=E)(ho:x.g.offers=U)(h:∀q:Sh,MuAt ph.tM ph.Mu bd q.mu q.ms->q.fits=E->(mv gj x.T q=[]->bg P H x.g bd=.go {x.g with status:=.blocked} bd #[])/\(mv gj x.T q≠[]->∃r∈mv gj x.T q,r.1.pc≠.bad->∃g' w' es,Mz P (λb=>b=ph.Mu) x.g bd g' w' es/\MuAt ph.tM ph.Mu w' r.2.mu r.2.ms/\lj ph.Mu ph.Wg x.T (OC r.1) es/\(x.T.pc=.us->Gk P x.g=E)/\B ⟨OC r.1,x.k-1,x.WS,x.RS,g',w'⟩))|wr(hp:x.T=at_ .wr)(hF:F x.WS x.RS bd)(g':av)(w':V)(es:Array bB)(h:Mz P (λ_=>False) x.g bd g' w' es)(he:lj ph.Mu ph.Wg (at_ .wr) (at_ .wk) es)(hB:B ⟨at_ .wk,x.k,x.WS,x.RS,g',w'⟩)|wk(hp:x.T=at_ .wk)(g':av)(w':V)(es:Array bB)(h:Mz P (λ_=>False) x.g bd g' w' es)(he:lj ph.Mu ph.Wg (at_ .wk) (at_ .d1) es)(hB:B ⟨at_ .d1,x.k,x.WS,x.RS,g',w'⟩)|d1(hp:x.T=at_ .d1)(h:∀v wt:Nat,v<=1->wt<=1->WgAt ph.tW ph.Wg bd (((v+1:Nat):Int)*KK+wt) 0->∃g' w' es,Mz P (λb=>b=ph.Wg) x.g bd g' w' es/\WgAt ph.tW ph.Wg w' ((v:Int)*KK+wt) 0/\((v=0/\wt=1/\lj ph.Mu ph.Wg (at_ .d1) (at_ .d2) es/\B ⟨at_ .d2,x.k,x.WS,x.RS,g',w'⟩)\/(¬(v=0/\wt=1)/\lj ph.Mu ph.Wg (at_ .d1) (at_ .quit) es/\∃q,lR P q 1 g')))|d2(hp:x.T=at_ .d2)(h:WgAt ph.tW ph.Wg bd 1 0->∃g' w' es,Mz P (λ_=>False) x.g bd g' w' es/\lj ph.Mu ph.Wg (at_ .d2) (at_ .d3) es/\B ⟨at_ .d3,x.k,x.WS,x.RS,g',w'⟩)|d3(hp:x.T=at_ .d3)(h:WgAt ph.tW ph.Wg bd 1 0->∃g' w' es,Mz P (λb=>b=ph.Wg) x.g bd g' w' es/\WgAt ph.tW ph.Wg w' 0 0/\lj ph.Mu ph.Wg (at_ .d3) (at_ .d4) es/\B ⟨at_ .d4,x.k,x.WS,x.RS,g',w'⟩)|d4(hp:x.T=at_ .d4)(h:WgAt ph.tW ph.Wg bd 0 0->Gk P x.g=E/\∃g' w' es,Mz P (λb=>b=ph.Wg) x.g bd g' w' es/\WgAt ph.tW ph.Wg w' 0 1/\lj ph.Mu ph.Wg (at_ .d4) (at_ .quit) es/\∃q,lR P q 1 g')
variable(s:Nat)(gj:Bool)(F:(Nat->Prop)->(Nat->Prop)->V->Prop)
def Nw.St(x:Nw)(b:Nat):Prop:=x.WS b\/x.RS b
def Bh:Rk->Nw->Prop|.nd _ f,x=>(x.k≠0->x.g.status=.running)/\∀a,fF ph s x.St x.w a->Law P ph s gj F x a λy=>∃i,Bh (f i) y
def BH(x:Nw):Prop:=∃r,Bh P ph s gj F r x
end
section
variable{P:al}{ph:Ph}{s:Nat}{gj:Bool}{F:(Nat->Prop)->(Nat->Prop)->V->Prop}
variable{x:Nw}
def Law.mono{u:V}{B B':Nw->Prop}(b:∀y,B y->B' y)(h:Law P ph s gj F x u B):Law P ph s gj F x u B':=by cases h with|deep h=>exact .deep h|Ac W j w k l h z m c=>exact .Ac W j w k l h z m (b _ c)|mu p A h=>refine .mu p A λq a d=>⟨(h q a d).1,λe=>?_⟩;have⟨r,D,g⟩:=(h q a d).2 e;refine⟨r,D,λi=>?_⟩;have⟨j,w,k,n,o,t,G,J⟩:=g i;grind|wr p hF j w k h f c=>exact .wr p hF j w k h f (b _ c)|wk p j w k h f c=>exact .wk p j w k h f (b _ c)|d1 p h=>refine .d1 p λv I a d e=>?_;have⟨j,w,k,n,o,t⟩:=h v I a d e;grind|d2 p h=>refine .d2 p λa=>?_;have⟨j,w,k,n,o,t⟩:=h a;grind|d3 p h=>refine .d3 p λa=>?_;have⟨j,w,k,n,o,t,G⟩:=h a;grind|d4 p h=>exact .d4 p h
def nc(b:x.k≠0->x.g.status=.running)(h:∀c,fF ph s x.St x.w c->Law P ph s gj F x c (BH P ph s gj F)):BH P ph s gj F x:=by refine⟨.nd {y:Nw//BH P ph s gj F y} λy=>Classical.choose y.2,?_⟩;exact⟨b,λc d=>(h c d).mono λy a=>⟨⟨y,a⟩,Classical.choose_spec a⟩⟩
def Cg{r:Rk}(h:Bh P ph s gj F r x):(x.k≠0->x.g.status=.running)/\∀b,fF ph s x.St x.w b->Law P ph s gj F x b λy=>∃a,Rk.lt a r/\Bh P ph s gj F a y:=by cases r with|nd ι f=>refine⟨h.1,λb c=>(h.2 b c).mono ?_⟩;rintro y⟨i,d⟩;exact⟨f i,Rk.zoT f i,d⟩
def Xc{r:Rk}{bd:V}(h:Bh P ph s gj F r x)(k:fF ph s x.St x.w bd):Bh P ph s gj F r {x with w:=bd}:=by cases r with|nd ι f=>refine⟨h.1,λa i=>?_⟩;have:=h.2 a (k.trans i);cases this with|deep h=>exact .deep h|Ac W g c es d h n m b=>exact .Ac W g c es d h n m b|mu p o h=>exact .mu p o h|wr p hF g c es h e b=>exact .wr p hF g c es h e b|wk p g c es h e b=>exact .wk p g c es h e b|d1 p h=>exact .d1 p h|d2 p h=>exact .d2 p h|d3 p h=>exact .d3 p h|d4 p h=>exact .d4 p h
end
end Rn
namespace Rn
open Go Go.Conc Go.ConcM
def Ei(c:Array Y):Array Y:=(c.toList.takeWhile u5).toArray
def PF(c:Array Y):(Ei c).size<=c.size:=by unfold Ei;simpa using(zP u5 (l:=c.toList)).length_le
def Ck{c:Array Y}{i:Nat}{v:Y}(h:(Ei c)[i]?=C v):c[i]?=C v/\u5 v=E:=by
 unfold Ei at h;simp[List.getElem?_toArray]at h;constructor
 .have⟨u,b⟩:=zP u5 (l:=c.toList);have d:(List.takeWhile u5 c.toList++u)[i]?=C v:=Y8;rw[b]at d;simpa using d
 .have a:=List.all_takeWhile (p:=u5) (l:=c.toList);rw[List.all_eq_true]at a;grind
def zqA:Obj->Obj|.cells c e _=>.cells (Ei c) e (0,(Ei c).size)|_=>.cells #[] 0
def UK(w:V):V:={w with heap:=w.heap.map zqA}
def rO(w:V)(a:Nat):Prop:=∃c e f,w.heap[a]?=C (.cells c e f)
inductive Pth(P:al)(f0:ag)(L0:List ag)(w0:V):ag->List ag->V->Prop|nil:Pth P f0 L0 w0 f0 L0 w0|zfA{fr fr1:ag}{L L1:List ag}{w w1:V}{T:Nat->c6->Nat}{d:Nat}{es:Array bB}{acts:List ic}(h:Pth P f0 L0 w0 fr L w)(hs:dc P fr L (World.on w T d)=.next fr1 L1 w1 es acts):Pth P f0 L0 w0 fr1 L1 w1
def Wh(P:al)(f0:ag)(w0:V)(v:Y)(w1:V):Prop:=∃fr w T d e,Pth P f0 [] w0 fr [] w/\dc P fr [] (World.on w T d)=.ret v w1 e
section
variable{N P:al}
def PG.self(g:PG N P):PG N N:=⟨⟨λ_=>rfl,g.pe.none,g.pe.no,rfl,λ_=>rfl⟩,λf a h=>(g.fn f a h).imp id λz=>⟨z.1,z.2.1,h⟩,rfl,rfl⟩
variable{R:BR}
def zkp{S:BR}{v v':Y}(h:u5 v=E)(k:VR R v v'):VR S v v':=by cases k with
 |bool b=>exact .bool b|int k n=>exact .int k n|string s=>exact .string s|@pointer a d e=>cases a<;>cases d<;>first|(cases h;done)|exact e.elim|exact .pointer trivial
 |@slice a d l c e=>cases a<;>cases d<;>first|(cases h;done)|exact e.elim|exact .slice _ _ trivial
 |@map a d e=>cases a<;>cases d<;>first|(cases h;done)|exact e.elim|exact .map trivial
 |@chan a d e=>cases a<;>cases d<;>first|(cases h;done)|exact e.elim|exact .chan trivial
 |nilFunc=>exact .nilFunc|nilIface=>exact .nilIface|_=>cases h
def ziX(w:V)(a:Nat):(UK w).heap[a]?=(w.heap[a]?).map zqA:=by simp[UK]
variable{w:V}
def tp{a:Nat}{c:Array Y}{e:ah}{f:Nat×Nat}(h:w.heap[a]?=C (.cells c e f)):(UK w).heap[a]?=C (.cells (Ei c) e (0,(Ei c).size)):=by rw[ziX,h];rfl
def zj2(w:V):(UK w).heap.size=w.heap.size:=by simp[UK]
def I2{a:Nat}(h:rO w a):Fz (UK w) a:=by have⟨c,e,f,b⟩:=h;exact⟨Ei c,e,(0,(Ei c).size),tp b,λi d=>⟨a7 _,d⟩⟩
def Jl(w:V):s7 (UK w):=by intro b o h;rw[ziX]at h;obtain⟨o1,_,rfl⟩:=ak.1 h;unfold zqA;split<;>trivial
def zrv{W:V}(h:HR R w W):HR (λa b l=>R a b l/\rO w a) (UK w) W:=by refine⟨λa t b u l m d g=>⟨(h.inj a t b u l m d.1 g.1).1,λ_=>.inr ⟨I2 d.2,I2 g.2⟩⟩,λa b l s=>?_,Jl w⟩;have⟨s,c,e,f,d⟩:=s;have⟨o,k,j,n,x⟩:=h.obj a b l s;rw[d]at j;cases j;refine⟨_,k,tp d,n,?_⟩;cases x with|cells p y z r=>exact .cells p (bw (PF c) y) (λi v A q a b=>zkp (Ck a).2 (z i v A q (Ck a).1 b)) (.inr λi B=>⟨a7 _,B⟩)
def HR.right{W MA:V}(h:HR R w W)(c:∀a b l,R a b l->MA.heap[b]?=W.heap[b]?):HR R w MA:=⟨h.inj,λa b l r=>by have⟨o,d,e,f,g⟩:=h.obj a b l r;grind,h.kinds⟩
def HR.on{R:BR}{w W:V}(h:HR R w W)(T:Nat->c6->Nat)(d:Nat):HR R (World.on w T d) W:=⟨h.inj,h.obj,h.kinds⟩
def U6(w W:V)(n:Nat):TA n (World.on w W.tape W.drawn) W:=λ_ _ _=>rfl
def zfn(w w2:V):Prop:=(∀(a:Nat)(o:Obj),w.heap[a]?=C o->w2.heap[a]?=C o)/\s7 w2
def zfn.size{w w2:V}(h:zfn w w2):w.heap.size<=w2.heap.size:=by
 rcases mz w2.heap.size w.heap.size with l|g
 .have a:=h.1 w2.heap.size _ (Array.getElem?_eq_getElem l);simp at a
 .exact g
variable(N P)
structure Gx(f0:ag)(w0:V)(R0:BR)(WS:Nat->Prop)(fr:ag)(L:List ag)(w:V)(cm:ag)(L':List ag)(W:V)(w2:V)(fr2:ag)(L2:List ag)(w2':V)(S R2:BR):Prop where
 pth:Pth N f0 [] w2 fr2 L2 w2'
 sf:u2 N S fr fr2
 sl:IJ N S L L2
 sh:HR S w w2'
 sp:∀a b l,S a b l->(a=b/\a<w0.heap.size/\Fz w a)\/(w0.heap.size<=a/\w2.heap.size<=b)rf:u2 N R2 fr2 cm
 rl:IJ N R2 L2 L'
 rh:HR R2 w2' W
 rp:∀a b l,R2 a b l->R0 a b l\/(w2.heap.size<=a/\WS b)r0:R0.le R2
 old:∀a,a<w2.heap.size->w2'.heap[a]?=w2.heap[a]?
 size:w2.heap.size<=w2'.heap.size
structure Gh(f0:ag)(w0:V)(R0:BR)(WS:Nat->Prop)(fr:ag)(L:List ag)(w:V)(cm:ag)(L':List ag)(W:V)(R:BR):Prop where
 f:u2 N R fr cm
 l:IJ N R L L'
 h:HR R w W
 p:∀a b l,R a b l->(R0 a b l/\a<w0.heap.size/\Fz w a)\/(w0.heap.size<=a/\WS b)size:w0.heap.size<=w.heap.size
 ext:∀w2,zfn w0 w2->∃fr2 L2 w2' S R2,Gx N f0 w0 R0 WS fr L w cm L' W w2 fr2 L2 w2' S R2
structure Gr(f0:ag)(w0:V)(R0:BR)(WS:Nat->Prop)(v':Y)(W:V):Prop where ext:∀w2,zfn w0 w2->∃v2 w2' R2,Wh N f0 w2 v2 w2'/\VR R2 v2 v'/\HR R2 w2' W/\(∀a b l,R2 a b l->R0 a b l\/(w2.heap.size<=a/\WS b))/\R0.le R2/\(∀a,a<w2.heap.size->w2'.heap[a]?=w2.heap[a]?)/\w2.heap.size<=w2'.heap.size
variable{N P}
section
variable{f0:ag}{w0:V}{R0:BR}{WS:Nat->Prop}{fr:ag}{L:List ag}{w:V}{cm:ag}{L':List ag}{W MA:V}{R:BR}
def Gx.rely{w2:V}{f:ag}{d:List ag}{c:V}{S R2:BR}(h:Gx N f0 w0 R0 WS fr L w cm L' W w2 f d c S R2)(e:∀b,(WS b\/∃a l,R0 a b l)->MA.heap[b]?=W.heap[b]?):Gx N f0 w0 R0 WS fr L w cm L' MA w2 f d c S R2:={h with rh:=h.rh.right λa b l r=>e b ((h.rp a b l r).elim (λz=>.inr ⟨a,l,z⟩) λz=>.inl z.2)}
def Gh.rely(h:Gh N f0 w0 R0 WS fr L w cm L' W R)(e:∀b,(WS b\/∃a l,R0 a b l)->MA.heap[b]?=W.heap[b]?):Gh N f0 w0 R0 WS fr L w cm L' MA R:=⟨h.f,h.l,h.h.right λa b l r=>e b ((h.p a b l r).elim (λz=>.inr ⟨a,l,z.1⟩) λz=>.inl z.2),h.p,h.size,λw2 g=>by have⟨c,i,d,S,j,k⟩:=h.ext w2 g;exact⟨c,i,d,S,j,k.rely e⟩⟩
def Gr.rely{v:Y}(h:Gr N f0 w0 R0 WS v W)(c:∀b,(WS b\/∃a l,R0 a b l)->MA.heap[b]?=W.heap[b]?):Gr N f0 w0 R0 WS v MA:=⟨λw2 e=>by have⟨j,w,R,m,d,k3,k,f,g,i⟩:=h.ext w2 e;exact⟨j,w,R,m,d,k3.right λa b l r=>c b ((k a b l r).elim (λz=>.inr ⟨a,l,z⟩) λz=>.inl z.2),k,f,g,i⟩⟩
def Gr.zpm{v:Y}{a:Nat->Prop}(h:Gr N f0 w0 R0 WS v W)(i:∀b,WS b->a b):Gr N f0 w0 R0 a v W:=⟨λw2 e=>by have⟨j,w,R,l,k,k3,c,d,f,g⟩:=h.ext w2 e;grind⟩
def oN(w:V)(T:Nat->c6->Nat)(d:Nat):(World.on w T d).heap=w.heap:=rfl
def zad{S d:BR}{w e w1 c:V}(k:KP S w e d w1 c){n:Nat}(p:∀a b l,S a b l->(a=b/\Fz w a)\/n<=b){a:Nat}(i:a<n)(j:n<=e.heap.size):c.heap[a]?=e.heap[a]?:=by
 by_cases h:∃x l,S x a l
 .have⟨x,l,r⟩:=h;rcases p x a l r with⟨rfl,f⟩|g;.exact(k.fz _ _ _ r f).2
  .omega
 .exact k.rest a Y0 λx l r=>h ⟨x,l,r⟩
def Gh.step(g:PG N P)(gp:GP N)(h:Gh N f0 w0 R0 WS fr L w cm L' W R){fr1:ag}{L1:List ag}{w1:V}{es:Array bB}{acts:List ic}(hs:dc N fr L (World.on w W.tape W.drawn)=.next fr1 L1 w1 es acts):∃d i m sa c R',dc P cm L' W=.next d i m sa c/\KP R (World.on w W.tape W.drawn) W R' w1 m/\(∀e∈sa,SI R (World.on w W.tape W.drawn) R' e)/\(∀a∈c,zhv R' a)/\Gh N f0 w0 R0 (λb=>WS b\/(W.heap.size<=b/\b<m.heap.size)) fr1 L1 w1 d i m R':=by
 have s1:=sim g gp h.f h.l (h.h.on W.tape W.drawn) (U6 w W);rw[hs]at s1;have⟨d,i,m,sa,c,R',I,k1,O,k3,t,Q,T⟩:=s1;refine⟨d,i,m,sa,c,R',I,t,Q,T,⟨k1,O,k3,λa b l r=>?_,bw h.size t.size,λw2 A=>?_⟩⟩
 .rcases t.new a b l r with r|⟨k,s,B,J⟩
  .rcases h.p a b l r with⟨u,z2,z3⟩|⟨u,z2⟩;.exact .inl ⟨u,z2,qw t r z3⟩
   .simp_all
  .have Q0:=t.Ak;have X:=Q0.symm;rw[oN]at X s;have:=h.size;omega
 .have⟨Q1,L2,o,S,R2,q⟩:=h.ext w2 A;have Z:HR S (World.on w W.tape W.drawn) (World.on o W.tape W.drawn):=⟨q.sh.inj,q.sh.obj,q.sh.kinds⟩;have s2:=sim g.self gp q.sf q.sl Z (λn j q hj=>rfl);rw[hs]at s2;have⟨v,D,x,es2,Q2,S1,K,m1,m2,m3,m4,m5,m6⟩:=s2;have M:=sim g gp q.rf q.rl (q.rh.on W.tape W.drawn) (U6 o W);rw[K]at M;have⟨fx,Lx,Wx,ex,ax,F,G,n1,n2,n3,y,n5,n6⟩:=M;rw[I]at G;simp[LR.next.injEq]at G;obtain⟨rfl,rfl,rfl,_,_⟩:=G;refine⟨v,D,x,S1,F,⟨.zfA q.pth K,m1,m2,m3,λa b l r=>?_,n1,n2,n3,λa b l r=>?_,BR.le_trans q.r0 y.le,λa ha=>?_,bw q.size y.size⟩⟩
  .rcases m4.new a b l r with r|⟨k,s,B,J⟩
   .rcases q.sp a b l r with⟨u,z2,z3⟩|z;.exact .inl ⟨u,z2,qw m4 r z3⟩
    .exact .inr z
   .rw[oN]at s B;have:=h.size;have:=q.size;omega
  .rcases y.new a b l r with r|⟨k,s,B,J⟩;.exact(q.rp a b l r).imp id λz=>⟨z.1,.inl z.2⟩
   .rw[oN]at s;have Q0:=y.Ak;rw[oN]at Q0;have:=q.size;omega
  .have:=zad m4 (λa b l r=>(q.sp a b l r).imp (λz=>⟨z.1,z.2.2⟩) λz=>z.2) ha (by rw[oN];exact q.size);rw[oN]at this;rw[this,q.old a ha]
def Gh.ret(g:PG N P)(gp:GP N)(h:Gh N f0 w0 R0 WS fr L w cm L' W R){v:Y}{w1:V}{es:Array bB}(hs:dc N fr L (World.on w W.tape W.drawn)=.ret v w1 es):∃v' W' sa R',dc P cm L' W=.ret v' W' sa/\VR R' v v'/\KP R (World.on w W.tape W.drawn) W R' w1 W'/\(∀e∈sa,SI R (World.on w W.tape W.drawn) R' e)/\(∀a b l,R' a b l->(R0 a b l/\a<w0.heap.size/\Fz w1 a)\/(w0.heap.size<=a/\(WS b\/(W.heap.size<=b/\b<W'.heap.size))))/\Gr N f0 w0 R0 (λb=>WS b\/(W.heap.size<=b/\b<W'.heap.size)) v' W':=by
 have s1:=sim g gp h.f h.l (h.h.on W.tape W.drawn) (U6 w W);rw[hs]at s1;have⟨v',W',sa,R',I,k1,k3,i,Q0⟩:=s1;refine⟨v',W',sa,R',I,k1,i,Q0,λa b l r=>?_,⟨λw2 J=>?_⟩⟩
 .rcases i.new a b l r with r|⟨k,t,K,M⟩
  .rcases h.p a b l r with⟨u,z2,z3⟩|⟨u,z2⟩;.exact .inl ⟨u,z2,qw i r z3⟩
   .simp_all
  .have x:=i.Ak;rw[oN]at x t;have:=h.size;omega
 .have⟨m,F,c,S,Q1,q⟩:=h.ext w2 J;have O:HR S (World.on w W.tape W.drawn) (World.on c W.tape W.drawn):=⟨q.sh.inj,q.sh.obj,q.sh.kinds⟩;have s2:=sim g.self gp q.sf q.sl O (λn j q hj=>rfl);rw[hs]at s2;have⟨v2,o,Q,Q2,y,m1,m3,m4,m5⟩:=s2;have G:=sim g gp q.rf q.rl (q.rh.on W.tape W.drawn) (U6 c W);rw[y]at G;have⟨X,Q3,ex,A,B,n1,T,s,Z⟩:=G;rw[I]at B;simp[LR.ret.injEq]at B;obtain⟨rfl,rfl,_⟩:=B;have D:F=[]:=by have d:=zft (P:=N) (main:=E) (L:=F) (w:=World.on c W.tape W.drawn) q.rf.norm q.rf.round;rw[y]at d;exact d.1
  subst D;refine⟨v2,o,A,⟨m,c,_,_,_,q.pth,y⟩,n1,T,λa b l r=>?_,BR.le_trans q.r0 s.le,λa ha=>?_,bw q.size s.size⟩
  .rcases s.new a b l r with r|⟨k,t,K,M⟩;.exact(q.rp a b l r).imp id λz=>⟨z.1,.inl z.2⟩
   .rw[oN]at t;have x:=s.Ak;rw[oN]at x;have:=q.size;omega
  .have:=zad m4 (λa b l r=>(q.sp a b l r).imp (λz=>⟨z.1,z.2.2⟩) λz=>z.2) ha (by rw[oN];exact q.size);rw[oN]at this;rw[this,q.old a ha]
end
end
open Go.ConcR(KK WgAt stA smA rd wr mk)
section
variable{N P:al}{ph:Ph}{s:Nat}{gj:Bool}{F:(Nat->Prop)->(Nat->Prop)->V->Prop}
variable{R:BR}
def w7{a:ic}(h:zhv R a):La a:=by have⟨b,r,l,_,k,h⟩:=h;rcases h with rfl|rfl|⟨c,rfl⟩|rfl|rfl<;>exact⟨rfl,λm e=>by cases e⟩
variable{w:V}
def zm1{g:BR}{e:bB}{W i:Nat->Prop}(h:SI R w g e)(p:∀a b l,g a b l->(R a b l/\Fz w a/\i b)\/W b):s0 ph s H W i e:=by
 have⟨j,wr,d⟩:=e;have k:∀b,(∃a l,g a b l/\(wr=E->¬∃o m,R a o m/\Fz w a))->W b\/(i b/\wr=H):=by grind
 cases j with
 |cell a=>refine⟨λx f=>?_,λad c=>by cases c⟩;simp[aI,cd,ay]at f;subst f;exact .inl ⟨a.block,rfl,k _ h⟩|obj r=>
  by_cases n:wr=E/\d=E
  .obtain⟨rfl,rfl⟩:=n;exact⟨λx f=>(by cases f),λad c=>(by cases c)⟩
  .have e:aI ⟨.obj r,wr,d⟩=.access ⟨.obj r,wr,d⟩:=by cases wr<;>cases d<;>first|rfl|cases n ⟨rfl,rfl⟩
   refine⟨λx f=>?_,λad c=>Y7⟩;rw[e]at f;simp[cd,ay]at f;subst f;exact .inl ⟨r,rfl,k _ h⟩|mark m=>cases m<;>first|(cases h;done)|exact⟨λx f=>by simp[aI,cd]at f,λad c=>by simp[aI]at c⟩
 |output=>cases h|goroutines=>cases h
def VF{b:BR}{es:Array bB}(h:∀e∈es,SI R w b e):WH es:=by intro e a;have:=h e a;have⟨l,wr,s⟩:=e;cases l with
 |mark m=>cases m<;>first|(cases this;done)|simp_all
 |_=>simp_all
variable{f0:ag}{w0:V}{R0:BR}
def VQ{y B:Nat->Prop}{W w1 c:V}{D:BR}{g F:av}{A:Array bB}{x:List ic}(G:∀a b l,R a b l->(R0 a b l/\a<w0.heap.size/\Fz w a)\/(w0.heap.size<=a/\y b))(p:∀b,(∃a l,R0 a b l)->B b)(k:KP R (World.on w W.tape W.drawn) W D w1 c)(q:∀e∈A,SI R (World.on w W.tape W.drawn) D e)(K:∀a∈x,La a)(o:Lv ph W)(i:∀b,ph.sh b->¬y b)(L:Mv P H g W F c A x):Sil P ph s H y B g W (λb=>y b\/(W.heap.size<=b/\b<c.heap.size)) F c A x/\(∀b,b<W.heap.size->¬y b->c.heap[b]?=W.heap[b]?):=by
 have blk:∀b,b<W.heap.size->¬y b->c.heap[b]?=W.heap[b]?:=by
  intro b m M;by_cases I:∃a l,R a b l
  .have⟨a,l,r⟩:=I;rcases G a b l r with⟨_,_,z⟩|⟨_,z⟩;.exact(k.fz _ _ _ r z).2
   .cases M z
  .exact k.rest b m λa l r=>I ⟨a,l,r⟩
 have n:W.heap.size<=c.heap.size:=by have:=k.Ak;omega
 refine⟨⟨L,n,λb d f _=>blk b d f,λN J=>⟨N,⟨(blk _ (o.lt (.inr (.inr rfl))) (i _ (.inr (.inr rfl)))).trans J.1,J.2⟩,λ_ _ _=>rfl⟩,by rw[k.os];exact .refl _,k.tape,k.output,λe h=>?_,K,λb=>?_⟩,blk⟩
 .refine zm1 (q e h) λa b l r=>?_;rcases k.new a b l r with r|⟨j,d,f,u⟩
  .rcases G a b l r with⟨t,_,O⟩|⟨_,z⟩;.exact .inl ⟨r,O,p b ⟨a,l,t⟩⟩
   .simp_all
  .have v:=k.Ak;omega
 .constructor
  .rintro(h|⟨d,f⟩);.exact .inl h
   .exact .inr ⟨d,f,λm=>by have:=o.lt m;omega⟩
  .grind
def zjy(g:PG N P)(gp:GP N){Fin:Y->V->Prop}{fr:ag}{L:List ag}(h:fG N (λ_ _ _ _=>False) Fin fr L w):∀{cm:ag}{L':List ag}{W:V}{R:BR}{WS RS:Nat->Prop}{k:Nat}{c:ag}{cs:List ag}(_:Gh N f0 w0 R0 WS fr L w cm L' W R)(_:∀b,(∃a l,R0 a b l)->RS b)(_:Lv ph W)(_:∀b,ph.sh b->¬WS b)(_:∀v w1 v' vE j R',Fin v w1->VR R' v v'->(∀b,WS b->vE b)->(∀b,ph.sh b->¬vE b)->Lv ph j->(∀b,RS b->b<W.heap.size->¬WS b->j.heap[b]?=W.heap[b]?)->Gr N f0 w0 R0 vE v' j->BH P ph s gj F ⟨at_ .ld,k,vE,RS,G (c.finish v') cs,j⟩),BH P ph s gj F ⟨at_ .ld,k,WS,RS,G cm (L'++c::cs),W⟩:=by induction h with|@ask fr L w S h _ _=>cases h|@mk fr L w ok nx M=>
 intro cm L' W R WS RS k c cs hG r O i hK;refine nc (λ_=>rfl) λbd hw=>?_;have d:=hG.rely λb e=>hw.blk b (e.elim .inl λz=>.inr (r b z));have OB:=O.rely hw;rcases ok bd.tape bd.drawn with⟨v,w1,es,hs,Q⟩|⟨fr1,L1,w1,es,acts,hs⟩
 .have⟨v',j,n,R',x,k1,y,k3,I,A⟩:=d.ret g gp hs;have hd:=zft (P:=P) (main:=H) (L:=L') (w:=bd) d.f.pE d.f.lT;rw[x]at hd;obtain⟨rfl,_,_,_,B⟩:=hd;have mv:Mv P H (G cm (c::cs)) bd (G (c.finish v') cs) j n []:=.inl ⟨rfl,B c cs⟩;have⟨t,q⟩:=VQ (s:=s) d.p r y k3 Y1 OB i mv;refine .Ac _ _ _ _ _ t (VF k3) Y9 (hK v w1 v' _ j R' Q k1 (λb e=>.inl e) (λb e hn=>?_) (OB.same λb e=>q b (OB.lt e) (i b e)) (λb m D u=>(q b (aO D hw.size) u).trans (hw.blk b (.inr m))) A);rcases hn with hn|⟨m,_⟩;.exact i b e hn
  .have:=OB.lt e;omega
 .have⟨J,T,j,n,Q1,R',x,y,k3,I,A⟩:=d.step g gp hs;have hd:=zft (P:=P) (main:=H) (L:=L') (w:=bd) d.f.pE d.f.lT;rw[x]at hd;have⟨t,q⟩:=VQ (s:=s) d.p r y k3 (λa ha=>w7 (I a ha)) OB i (Qu (cs:=c::cs) hd);have o:∀b,ph.sh b->¬(WS b\/(bd.heap.size<=b/\b<j.heap.size)):=by
   rintro b e(hn|⟨m,_⟩);.exact i b e hn
   .have:=OB.lt e;omega
  exact .Ac _ _ _ _ _ t (VF k3) Y9 (M _ _ _ _ _ _ _ hs A r (OB.same λb e=>q b (OB.lt e) (i b e)) o λv w1 v' Q2 Q3 Q4 X z2 z3 z4 z5 Q5 Z=>hK v w1 v' Q2 Q3 Q4 X z2 (λb e=>z3 b (.inl e)) z4 z5 (λb m D u=>by have K:=aO D hw.size;rw[Q5 b m (aO K t.size) (λh5=>h5.elim u λh6=>Y0),q b K u];exact hw.blk b (.inr m)) Z)
end
end Rn
namespace Rn
open Go Go.Conc
instance:Go.ConcR.Payload:=⟨3⟩
abbrev az:Go.Conc.Lib.WgLink:={add:=125,done:=127,wait:=131,relMerge:=148,disable:=149,enable:=150,inBubble:=151,associate:=152,fatal:=153,uOr:=154,uAdd:=155,raceRead:=156,uLoad:=157,uStore:=158,disassociate:=159,semrelease:=160,acquire:=168,isAssociated:=169,uCas:=170,raceWrite:=171,semacquire:=172,orU64:=192,addU64:=193,loadU64:=194,storeU64:=195,casU64:=207,tWgP:=192,tUP:=90,tAssoc:=194,tWg:=164,tAU:=162,tU64:=117,tUint:=127,tU32:=135,tPU32:=198,tPAU:=238,tPU64:=240,tNoCopy:=158,tANoCopy:=159,tAlign64:=160}
def ck:Go.Conc.Lib.WgLib prog az:=⟨func125,func127,func131,func148,func149,func150,func151,func152,func153,func154,func155,func156,func157,func158,func159,func160,func168,func169,func170,func171,func172,func192,func193,func194,func195,func207,underlying192,runUnderlying192,sizeOf192,isAgg192,zeroValue192,underlying90,runUnderlying90,sizeOf90,isAgg90,zeroValue90,underlying194,runUnderlying194,sizeOf194,isAgg194,zeroValue194,underlying164,runUnderlying164,sizeOf164,isAgg164,zeroValue164,underlying162,runUnderlying162,sizeOf162,isAgg162,zeroValue162,underlying117,runUnderlying117,sizeOf117,isAgg117,zeroValue117,underlying127,runUnderlying127,sizeOf127,isAgg127,zeroValue127,underlying135,runUnderlying135,sizeOf135,isAgg135,zeroValue135,underlying198,runUnderlying198,sizeOf198,isAgg198,zeroValue198,underlying238,runUnderlying238,sizeOf238,isAgg238,zeroValue238,underlying240,runUnderlying240,sizeOf240,isAgg240,zeroValue240,underlying0,runUnderlying0,sizeOf0,isAgg0,zeroValue0,underlying3,runUnderlying3,sizeOf3,isAgg3,zeroValue3,underlying4,runUnderlying4,sizeOf4,isAgg4,zeroValue4,underlying9,runUnderlying9,sizeOf9,isAgg9,zeroValue9,underlying20,runUnderlying20,sizeOf20,isAgg20,zeroValue20,underlying21,runUnderlying21,sizeOf21,isAgg21,zeroValue21,gK,gK⟩
def znq:(f129.name== "runtime.NumGoroutine")=H:=gK
def zgl:(f130.name== "runtime.NumGoroutine")=H:=gK
def zkx:(f166.name== "runtime.NumGoroutine")=H:=gK
def zcL:(f167.name== "runtime.NumGoroutine")=H:=gK
def zaV:(f204.name== "runtime.NumGoroutine")=H:=gK
def Up:(f206.name== "runtime.NumGoroutine")=H:=gK
def zuZ:(f128.name== "runtime.NumGoroutine")=H:=gK
def kT:(f203.name== "runtime.NumGoroutine")=H:=gK
def kR:f203.body.isNone=E:=gK
def kU:et f203=U:=gK
def kS:fJ f203=C (Extern.Atomic.casT (.int .i32)):=gK
def V8:(f205.name== "runtime.NumGoroutine")=H:=gK
def V6:f205.body.isNone=E:=gK
def V9:et f205=U:=gK
def V7:fJ f205=C (Extern.Atomic.update (Op.intArith .add) .i32 E):=gK
def Bj:(f228.name== "runtime.NumGoroutine")=H:=gK
def Bg:f228.body.isNone=E:=gK
def Bl:et f228=U:=gK
def Bi:fJ f228=C (Extern.Sync.canSpin):=gK
def xi:(f231.name== "runtime.NumGoroutine")=H:=gK
def xg:f231.body.isNone=E:=gK
def xk:et f231=U:=gK
def xh:fJ f231=C (Extern.OsHooks.nano):=gK
def CN:(f232.name== "runtime.NumGoroutine")=H:=gK
def CL:f232.body.isNone=E:=gK
def CO:et f232=U:=gK
def CM:fJ f232=C (Extern.Sync.semacquire):=gK
def zg0:(f234.name== "runtime.NumGoroutine")=H:=gK
def Wa:f234.body.isNone=E:=gK
def zg1:et f234=U:=gK
def zgZ:fJ f234=C (Extern.Sync.semrelease):=gK
def zdu:(f229.name== "runtime.NumGoroutine")=H:=gK
def zds:f229.body.isNone=E:=gK
def zdv:et f229=U:=gK
def zdt:fJ f229=C (λ_=>pure (.tuple #[])):=gK
def xj:f231.norace=E:=gK
def Zs:prog.underlying 244=C (.pointer 166):=gK
def zhW:(prog.info? 166).map (λi=>decide (i.size=0))=C H:=gK
def zgr:(prog.funcs[(Go.Conc.base 167).fn]?).any (·.norace)=E:=gK
def l4:(prog.funcs[(Go.Conc.base 204).fn]?).any (·.norace)=E:=gK
end Rn
namespace Rn
open Go Go.Conc Go.ConcN Go.ConcM Go.RowKit Go.Conc.Lib Go.ConcR.Gen
open Go.ConcR(KK WgAt stA smA rd wr mk DC0)
structure KX(ph:Ph)(s:Nat)(St:Nat->Prop)(w0 w:V):Prop where
 ok:ph.Ok
 st:∀b,St b->¬ph.sh b
 r:fF ph s St w0 w
 l:Lv ph w
structure ShX(ph:Ph)(w:V)(q:Sh):Prop where at_:MuAt ph.tM ph.Mu w q.mu q.ms
structure dG(ph:Ph)(w w':V):Prop where
 tape:w'.tape=w.tape
 output:w'.output=w.output
 size:w'.heap.size=w.heap.size
 os:OsLater w.os w'.os
 block:∀b,b≠ph.Mu->w'.heap[b]?=w.heap[b]?
section
variable{ph:Ph}{s:Nat}{St:Nat->Prop}{w0 w bd w':V}{q:Sh}
def KX.rely(h:KX ph s St w0 w)(r:fF ph s St w bd):KX ph s St w0 bd:=⟨h.ok,h.st,h.r.trans r,h.l.rely r⟩
def KX.mu(h:KX ph s St w0 w):∃v:Y,w.cell? ⟨ph.Mu,0,U⟩=C v:=let⟨_,_,x⟩:=h.l.mu;⟨_,x.cellSt⟩
def KX.muI(h:KX ph s St w0 w):∃v:Int,w.cell? ⟨ph.Mu,0,U⟩=C (.int .i32 v):=let⟨_,_,x⟩:=h.l.mu;⟨_,x.cellSt⟩
def KX.wg(h:KX ph s St w0 w):∃v:Y,w.cell? ⟨ph.Wg,0,U⟩=C v:=let⟨_,_,x⟩:=h.l.wg;⟨_,x.cellSt⟩
def KX.ws(h:KX ph s St w0 w):∃v:Y,w.cell? ⟨ph.Wg,1,U⟩=C v:=let⟨_,_,x⟩:=h.l.wg;⟨_,x.cellSm⟩
def dG.refl(w:V):dG ph w w:=⟨rfl,rfl,rfl,.refl _,λ_ _=>rfl⟩
def dG.set(a:bX)(v:Y)(h:a.block=ph.Mu\/False):dG ph w (w.setCell a v):=have A:=vX w a v
 ⟨A.tape,A.output,A.size,by rw[A.os];exact .refl _,λk b=>A.block k Y7⟩
def dG.later(w:V):dG ph w w.later:=⟨rfl,rfl,rfl,⟨w.tick,rfl⟩,λ_ _=>rfl⟩
def dG.asked(w:V):dG ph w w.asked:=⟨rfl,rfl,rfl,.refl _,λ_ _=>rfl⟩
def ShX.later(h:ShX ph w q):ShX ph w.later q:=⟨h.1⟩
def ShX.asked(h:ShX ph w q):ShX ph w.asked q:=⟨h.1⟩
def ShX.pG(h:ShX ph w q)(v:Int):ShX ph (w.setCell (muA ph.Mu) (.int .i32 v)) {q with mu:=v}:=⟨h.1.setSt v⟩
def ShX.U5(h:ShX ph w q)(v:Int):ShX ph (w.setCell (msA ph.Mu) (.int .u32 v)) {q with ms:=v}:=⟨h.1.setSm v⟩
def zkT(o:ph.Ok)(st:∀b,St b->¬ph.sh b)(e:dG ph w w')(h:ShX ph w' q):fF ph s St w w':=⟨cI e.size.symm,λb d=>e.block b λc=>st b d (.inl c),λ_=>⟨_,_,h.1⟩,λ⟨a,b,x⟩=>⟨a,b,(e.block _ λc=>o.mw c.symm).trans x⟩,λcs x=>⟨cs,⟨(e.block _ λc=>o.mb c.symm).trans x.1,x.2⟩,rfl⟩⟩
def KX.Mx(h:KX ph s St w0 w)(e:dG ph w w')(a:ShX ph w' q):KX ph s St w0 w':=h.rely (zkT h.ok h.st e a)
end
def vF(l:Bool)(p:Pc):Bool:=if l then p==.ur else p==.kd||p==.wr
def AtX(P:al)(ph:Ph)(s:Nat)(St:Nat->Prop)(a l:Bool)(F:Nat->av->V->Prop):Nat->Th->av->V->Prop|0,_,_,_=>True|k+1,T,g,w=>(vF l T.pc=E->F (k+1) g w)/\(vF l T.pc=H->g.status=.running/\g.offers=U/\∀q:Sh,ShX ph w q->q.fits=E->(mv a T q=[]->bg P H g w=.go {g with status:=.blocked} w #[])/\(mv a T q≠[]->∃r∈mv a T q,r.1.pc≠.bad->∃b w' e,bg P H g w=.go b w' e/\ShX ph w' r.2/\dG ph w w'/\lj ph.Mu ph.Wg T r.1 e/\(T.pc=.us->Gk P g=E)/\∃m,sx P H (fF ph s St) DC0 (AtX P ph s St a l F k r.1) m b w'))
abbrev GX(ph:Ph)(s:Nat)(St:Nat->Prop)(gj lk:Bool)(Fi:Nat->av->V->Prop)(T:Th)(k m:Nat)(g:av)(w:V):Prop:=sx prog H (fF ph s St) DC0 (AtX prog ph s St gj lk Fi k T) m g w
section
variable{main:Bool}{b:ag}{a:Act}{kk:List Item}{cs:List ag}{w:V}{ops:Array Oper}{i:Nat}{rest:List Nat}{o:Oper}
def jk{x:Operand}(f:ops[i]?=C o)(g:Region.wanted o (yielded ops a.tmps)=E)(k:b.kind≠.early)(h:o.op=.load 21 x){ad:bX}{v:Int}(c:a.eval x=.pointer (C ad))(d:w.cell? ad=C (.int .i32 v))(q:(prog.funcs[b.fn]?).any (·.norace)=E):bg prog main (G (b.at a (.inRegion ops (i::rest)::kk)) cs) w=.go (G (b.at (a.put o.dst (.int .i32 v)) (.inRegion ops rest::kk)) cs) w #[]:=by
 have r:(aG a.eval o).run prog w=.ok (.value (.int .i32 v)) w:=by unfold aG;simp[h,c];simp[go_sem,d]
 have e:(aG a.eval o).events prog w #[]=#[⟨.cell ad,H,H⟩]:=by unfold aG;simp[h,c];simp[go_sem,d]
 rw[stepG_value f g k r];unfold listed;rw[e,seen_def,q];simp[seenStep]
end
def zjZ{s:Sh}(h:s.fits=E):(s.mu=0\/s.mu=1\/s.mu=2\/s.mu=8\/s.mu=9)/\(s.ms=0\/s.ms=1):=by simp[Sh.fits,Bool.and_eq_true,Bool.or_eq_true,beq_iff_eq]at h;have⟨⟨⟨a,b⟩,_⟩,_⟩:=h;omega
def ZZ(T:Th)(h:(hd T).pc≠.bad):(T.old=0/\T.aw=H/\T.sv=H/\hd T={T with pc:=.c2,nw:=1})\/(T.old=1/\T.aw=H/\T.sv=H/\T.ws=H/\hd T={T with pc:=.sq,nw:=0})\/(T.old=2/\T.aw=E/\hd T={T with pc:=.c2,nw:=1}):=by
 unfold hd at h⊢;split;.simp_all
 .split;.simp_all
  .split;.simp_all
   .simp_all
def se(T:Th)(h:(hd T).pc≠.bad):(hd T).pc≠.quit/\(hd T).deaf=1:=by rcases ZZ T h with⟨_,_,_,e⟩|⟨_,_,_,_,e⟩|⟨_,_,e⟩<;>rw[e]<;>simp[cp]
def qU:eF->Option eF
 |.loop c=>C c|.seq x y=>match qU x with|some c=>C c|none=>qU y
 |.block _ c=>qU c|_=>U
def n8:eF->Option eF|.seq (.block _ _) r=>C r|.seq _ y=>n8 y|_=>U
noncomputable def Ao:eF:=f204.body.getD .skip
noncomputable def LLS:eF:=(qU Ao).getD .skip
noncomputable def O6:eF:=(n8 Ao).getD .skip
noncomputable def ziI:eF:=f129.body.getD .skip
noncomputable def ziJ:eF:=f130.body.getD .skip
end Rn
namespace Rn
open Go Go.Conc Go.ConcM
open Go.ConcR(KK WgAt stA smA rd wr mk DC0)
def zfy:Pc->Bool|.ld|.l0|.r0|.sq|.c1|.r1|.c2|.t1|.s1|.t2|.r2|.a1|.r3|.le|.la=>E|_=>H
def zhL:Pc->Bool|.ur|.ud|.u0|.uc|.ux|.us|.ue=>E|_=>H
def zuH(T:Th):(hd T).pc=.c2\/(hd T).pc=.sq\/(hd T).pc=.bad:=by
 unfold hd;split;.simp_all
 .grind
def Xp{gj:Bool}{T:Th}{q:Sh}{r:Th×Sh}(h:r∈mv gj T q)(b:r.1.pc≠.bad):(zfy T.pc=E->zfy r.1.pc=E\/r.1=at_ .ur)/\(zhL T.pc=E->zhL r.1.pc=E\/r.1=at_ (if gj then .kd else .wr)):=by
 have d:∀c,r.1=hd c->zfy r.1.pc=E:=by
  intro c e;rcases zuH c with a|a|a;.rw[e,a];rfl
  .rw[e,a];rfl
  .simp_all
 have⟨p,o,n,f,s,it,ws⟩:=T;cases p<;>(refine⟨λa=>?_,λa=>?_⟩<;>first|(cases a;done)|skip);all_goals
  simp only[mv]at h;repeat' split at h
  all_goals simp[bq,cV,or_false]at h
  all_goals first|(subst h;first|exact .inl rfl|exact .inr rfl|cases b rfl|exact .inl (d _ rfl))|(rcases h with h|h<;>(subst h;exact .inl rfl))|(right;simp[*])
section
variable{P:al}{ph:Ph}{s:Nat}{gj:Bool}{F:(Nat->Prop)->(Nat->Prop)->V->Prop}{k:Nat}{WS RS:Nat->Prop}
def zhQ(g:av)(w:V)(a:av)(RS:Nat->Prop)(e:bg P H g w=.go a w #[]):Sil P ph s H WS RS g w WS a w #[] []:=⟨.inl ⟨rfl,e⟩,ao _,λ_ _ _ _=>rfl,λc h=>⟨c,h,λ_ _ _=>rfl⟩,.refl _,rfl,rfl,Y1,Y1,λb=>⟨.inl,λh=>h.elim id λz=>Y0⟩⟩
def lB{T:Th}{Stop:av->V->Prop}:∀{m:Nat}{g:av}{w:V},sx P H (fF ph s λb=>WS b\/RS b) DC0 Stop m g w->(∀g w,(∀i,fF ph s (λb=>WS b\/RS b) w i->Stop g i)->BH P ph s gj F ⟨T,k,WS,RS,g,w⟩)->BH P ph s gj F ⟨T,k,WS,RS,g,w⟩
 |0,g,w,h,S=>S _ _ h|m+1,g,w,h,S=>by
  rcases h with p|⟨r,a⟩;.simp_all
  .refine nc (λ_=>r) λi n=>?_;have⟨j,l,q,e,⟨d,c⟩,o⟩:=goes_elim (a i n);subst d c;exact .Ac WS j l #[] [] (zhQ g l j RS e) (λe f=>by simp at f) (λ_=>⟨rfl,rfl,rfl,rfl⟩) (lB o S)
def Ep{T:Th}(h:T.pc≠.kd):OC T=T:=by simp[OC,h]
def Qg{M W:Nat}{T b:Th}{es:Array bB}(h:lj M W T b es):lj M W T (OC b) es:=by
 by_cases k:b.pc=.kd
 .have e:OC b=at_ .wr:=by simp[OC,k]
  rw[e];unfold lj at h⊢;split at h<;>first|assumption|(
   rw[k]at h;have a:b.deaf=0:=by simp[cp,k]
   rw[a]at h;exact h)
 .rw[Ep k];exact h
def zdY{p:Pc}(h:zfy p=E):vI p=E/\p≠.kd/\vF E p=H:=by cases p<;>first|(cases h;done)|exact⟨rfl,Y1,rfl⟩
def ziA{p:Pc}(h:zhL p=E):vI p=E/\p≠.kd/\vF H p=H:=by cases p<;>first|(cases h;done)|exact⟨rfl,Y1,rfl⟩
def QN{g c:av}{w a:V}{es:Array bB}(h:bg P H g w=.go c a es)(e:dG ph w a):Mz P (λb=>b=ph.Mu) g w c a es:=⟨h,e.size,e.block,e.os,e.tape,e.output⟩
def zmG{Fi:Nat->av->V->Prop}(hF:∀k g w,(∀v,fF ph s (λb=>WS b\/RS b) w v->Fi k g v)->BH P ph s gj F ⟨at_ .ur,k,WS,RS,g,w⟩):∀(k:Nat)(T:Th)(m:Nat)(g:av)(w:V),(zfy T.pc=E\/T=at_ .ur)->sx P H (fF ph s λb=>WS b\/RS b) DC0 (AtX P ph s (λb=>WS b\/RS b) gj E Fi k T) m g w->BH P ph s gj F ⟨T,k,WS,RS,g,w⟩:=by intro k;induction k with|zero=>intro T m g w y h;exact nc (λh=>absurd rfl h) λv _=>.deep rfl|succ k o=>
 intro T m g w y h;refine lB h λg w h=>?_;rcases y with y|rfl
 .have⟨p,_,d⟩:=zdY y;refine nc (λ_=>((h w (fF.refl _ _)).2 d).1) λv z=>?_;have⟨N,D,e⟩:=(h v z).2 d;refine .mu p D λq f i=>⟨(e q ⟨f⟩ i).1,λn=>?_⟩;have⟨r,a,c⟩:=(e q ⟨f⟩ i).2 n;refine⟨r,a,λj=>?_⟩;have⟨A,B,G,I,J,K,L,M,t,u⟩:=c j;have x:=(Xp a j).1 y;have l:=Ep (by
  rcases x with x|x;.exact(zdY x).2.1
  .rw[x];simp);refine⟨A,B,G,QN I K,J.1,Qg L,M,?_⟩;rw[l];exact o r.1 t A B x u
 .exact hF _ _ _ λv z=>(h v z).1 rfl
def zfE{Fi:Nat->av->V->Prop}(hF:∀k g w,(∀x,fF ph s (λb=>WS b\/RS b) w x->Fi k g x)->BH P ph s gj F ⟨at_ .wr,k,WS,RS,g,w⟩):∀(k:Nat)(T:Th)(m:Nat)(g:av)(w:V),(zhL T.pc=E\/T=at_ (if gj then .kd else .wr))->sx P H (fF ph s λb=>WS b\/RS b) DC0 (AtX P ph s (λb=>WS b\/RS b) gj H Fi k T) m g w->BH P ph s gj F ⟨OC T,k,WS,RS,g,w⟩:=by intro k;induction k with|zero=>intro T m g w y h;exact nc (λh=>absurd rfl h) λx _=>.deep rfl|succ k o=>
 intro T m g w y h;rcases y with y|rfl
 .have⟨p,t,d⟩:=ziA y;rw[Ep t];refine lB h λg w h=>?_;refine nc (λ_=>((h w (fF.refl _ _)).2 d).1) λx z=>?_;have⟨N,D,l⟩:=(h x z).2 d;refine .mu p D λq f i=>⟨(l q ⟨f⟩ i).1,λn=>?_⟩;have⟨r,a,c⟩:=(l q ⟨f⟩ i).2 n;refine⟨r,a,λj=>?_⟩;have⟨A,B,G,I,J,K,L,M,u,v⟩:=c j;exact⟨A,B,G,QN I K,J.1,Qg L,M,o r.1 u A B ((Xp a j).2 y) v⟩
 .have e:OC (at_ (if gj then .kd else .wr))=at_ .wr:=by cases gj<;>rfl
  rw[e];exact lB h λg w h=>hF _ _ _ λx z=>(h x z).1 (by cases gj<;>rfl)
end
end Rn
namespace Rn
open Go Go.Conc Go.ConcN Go.ConcM Go.RowKit Go.Conc.Lib Go.ConcR.Gen
open Go.ConcR(KK WgAt stA smA rd wr mk DC0)
def Md{P:al}:∀{n d:Nat}{g:av},lR P n d g->lR P (n+1) d g|0,_,_,h=>.inl h|_+1,_,_,.inl h=>.inl h|_+1,_,_,.inr ⟨r,a,es,m,s,q⟩=>.inr ⟨r,a,es,m,s,Md q⟩
def CF{P:al}{n a d:Nat}{g:av}(h:n<=a)(x:lR P n d g):lR P a d g:=by obtain⟨r,rfl⟩:=Nat.exists_eq_add_of_le h;induction r with|zero=>exact x|succ r i=>exact Md (i (Nat.le_add_right _ _))
section
variable(P:al)(ph:Ph)(s:Nat)(St:Nat->Prop)
def zxP(g:av)(w:V):Prop:=g.status=.running/\Gk P g=E/\(WgAt ph.tW ph.Wg w 0 0->∃a,bg P H g w=.go a (w.setCell (smA ph.Wg) (.int .u32 1)) (semEvents (smA ph.Wg))/\∃q,lR P q 1 a)
def zxO(g:av)(w:V):Prop:=g.status=.running/\(WgAt ph.tW ph.Wg w 1 0->∃a,bg P H g w=.go a (w.setCell (stA ph.Wg) (.int .u64 0)) #[wr (stA ph.Wg)]/\∃m,sx P H (fF ph s St) DC0 (zxP P ph) m a (w.setCell (stA ph.Wg) (.int .u64 0)))
def zxN(g:av)(w:V):Prop:=g.status=.running/\(WgAt ph.tW ph.Wg w 1 0->∃a,bg P H g w=.go a w #[rd (stA ph.Wg)]/\∃m,sx P H (fF ph s St) DC0 (zxO P ph s St) m a w)
def zxM(g:av)(w:V):Prop:=g.status=.running/\∀v a:Nat,v<=1->a<=1->WgAt ph.tW ph.Wg w (((v+1:Nat):Int)*KK+a) 0->∃b,bg P H g w=.go b (w.setCell (stA ph.Wg) (.int .u64 ((v:Int)*KK+a))) #[rd (stA ph.Wg),wr (stA ph.Wg)]/\((v=0/\a=1)->∃m,sx P H (fF ph s St) DC0 (zxN P ph s St) m b (w.setCell (stA ph.Wg) (.int .u64 ((v:Int)*KK+a))))/\(¬(v=0/\a=1)->∃q,lR P q 1 b)
def zxQ(g:av)(w:V):Prop:=g.status=.running/\∃a,bg P H g w=.go a w #[mk .disable]/\∃m,sx P H (fF ph s St) DC0 (zxM P ph s St) m a w
def zml(g:av)(w:V):Prop:=g.status=.running/\∃a,bg P H g w=.go a w #[mk (.releaseMerge (stA ph.Wg))]/\∃m,sx P H (fF ph s St) DC0 (zxQ P ph s St) m a w
end
section
variable{ph:Ph}{s:Nat}{St:Nat->Prop}{w0 w:V}
def zrV(o:ph.Ok)(st:∀b,St b->¬ph.sh b){a:bX}{v:Y}{x y:Int}(d:a.block=ph.Wg)(h:WgAt ph.tW ph.Wg (w.setCell a v) x y):fF ph s St w (w.setCell a v):=have A:=vX w a v
 ⟨cI A.size.symm,λb c=>A.block b λe=>st b c (.inr (.inl (e.trans d))),λ⟨p,q,z⟩=>⟨p,q,(A.block _ λe=>o.mw (e.trans d)).trans z⟩,λ_=>⟨_,_,h⟩,λf z=>⟨f,⟨(A.block _ λe=>o.wb (e.trans d).symm).trans z.1,z.2⟩,rfl⟩⟩
def KX.Ln(h:KX ph s St w0 w){a:bX}{v:Y}{x y:Int}(b:a.block=ph.Wg)(c:WgAt ph.tW ph.Wg (w.setCell a v) x y):KX ph s St w0 (w.setCell a v):=h.rely (zrV h.ok h.st b c)
noncomputable def ziH:eF:=f127.body.getD .skip
def znr:(f127.name== "runtime.NumGoroutine")=H:=gK
def zi9:(f125.name== "runtime.NumGoroutine")=H:=gK
def zns:(f131.name== "runtime.NumGoroutine")=H:=gK
def zeG:(f155.name== "runtime.NumGoroutine")=H:=gK
def GQ:(f157.name== "runtime.NumGoroutine")=H:=gK
def zgm:(f158.name== "runtime.NumGoroutine")=H:=gK
def zeH:(f170.name== "runtime.NumGoroutine")=H:=gK
def zrp(x:ph.tW=164){c:ag}{t:List ag}{q:Nat}(d:c.mode=.returning)(p:lR prog q 0 (G c t)):∀w,KX ph s St w0 w->sx prog H (fF ph s St) DC0 (zml prog ph s St) 60 (G ((baseD 127).at ⟨#[.pointer (C ⟨ph.Wg,0,U⟩),undef,undef,undef],[]⟩ [.code ziH]) (c::t)) w:=by
 intro w hF;simp only[ziH,f127,db];repeat w_go KX.rely
 u_call func125 zi9 f125 KX.rely hF;repeat w_go KX.rely
 m_convG prog ck.underlying_tUP ck.underlying_tWgP ck.room_tWg hF.wg.choose_spec KX.rely hF;refine ba (λ_ r=>?_);replace hF:=KX.rely hF r;clear r;refine⟨rfl,_,stepG_markAt .releaseMerge Y1 rfl rfl Y4 rfl ck.f_relMerge (x_relMerge_n az) (x_relMerge_b az) (x_relMerge_x az) (x_relMerge_f az) (by simp[a8,stA]),30,?_⟩;walk_nrm;repeat w_go KX.rely
 refine ba (λ_ r=>?_);replace hF:=KX.rely hF r;clear r;refine⟨rfl,_,stepG_mark0 .disable Y1 rfl rfl Y4 rfl ck.f_disable (x_disable_n az) (x_disable_b az) (x_disable_x az) (x_disable_f az),90,?_⟩;walk_nrm;repeat w_go KX.rely
 u_defer KX.rely hF;repeat w_go KX.rely
 u_in KX.rely hF;rw[stepG_entry_pure (.bool H) rfl rfl Y4 rfl ck.f_inBubble (x_inBubble_n az) (x_inBubble_b az) (x_inBubble_x az) (x_inBubble_f az)];simp only[goes_go];refine⟨by u_nil,?_⟩;walk_nrm;repeat w_go KX.rely
 u_call func155 zeG f155 KX.rely hF;repeat w_go KX.rely
 m_num;refine ba (λg r=>?_);replace hF:=KX.rely hF r;clear r;refine⟨rfl,λv u y k h=>?_⟩;have i:v=0\/v=1:=Y0;have f:u=0\/u=1:=Y0;rcases i with rfl|rfl<;>rcases f with rfl|rfl;.
  replace h:WgAt ph.tW ph.Wg g 4294967296 0:=by simpa[KK]using h
  have e:nY.wrap (4294967296+18446744069414584320)=0:=Y5;have z:((0:Nat):Int)*KK+((0:Nat):Int)=0:=Y1;rw[z];refine⟨_,(gd rfl rfl Y4 rfl ck.f_addU64 (tK az) (tI az) (tL az) .u64 (tJ az) rfl rfl h.cellSt (h.thaw 0)).trans (by rw[e];rfl),λl=>absurd l.2 Y5,λ_=>⟨q+200,?_⟩⟩;walk_nrm;try simp only[e]
  repeat(q_go;try q_fix)
  q_leave1 func155;repeat(q_go;try q_fix)
  q_en ck az;q_leave0 func125;repeat(q_go;try q_fix)
  exact CF Y0 (vU rfl rfl func127 rfl d p)
 .replace h:WgAt ph.tW ph.Wg g 4294967297 0:=by simpa[KK]using h
  have e:nY.wrap (4294967297+18446744069414584320)=1:=Y5;have z:((0:Nat):Int)*KK+((1:Nat):Int)=1:=Y1;rw[z];refine⟨_,(gd rfl rfl Y4 rfl ck.f_addU64 (tK az) (tI az) (tL az) .u64 (tJ az) rfl rfl h.cellSt (h.thaw 0)).trans (by rw[e];rfl),λ_=>⟨140,?_⟩,λl=>absurd ⟨rfl,rfl⟩ l⟩;replace hF:=hF.Ln (a:=stA ph.Wg) (v:=.int .u64 1) rfl (h.setSt 1);walk_nrm;try simp only[e]
  repeat w_go KX.rely
  u_leave1 func155 KX.rely hF;repeat w_go KX.rely
  u_call func157 GQ f157 KX.rely hF;repeat w_go KX.rely
  refine ba (λm r=>?_);replace hF:=KX.rely hF r;clear r;refine⟨rfl,λh=>⟨_,stepG_load_atomic rfl rfl Y4 rfl ck.f_loadU64 (x_loadU64_n az) (x_loadU64_b az) (x_loadU64_x az) .u64 (x_loadU64_f az) rfl h.cellSt,60,?_⟩⟩;walk_nrm;repeat w_go KX.rely
  u_leave1 func157 KX.rely hF;repeat w_go KX.rely
  u_call func158 zgm f158 KX.rely hF;repeat w_go KX.rely
  refine ba (λn r=>?_);replace hF:=KX.rely hF r;clear r;refine⟨rfl,λh=>⟨_,stepG_store_atomic rfl rfl Y4 rfl ck.f_storeU64 (x_storeU64_n az) (x_storeU64_b az) (x_storeU64_x az) (x_storeU64_f az) rfl rfl h.cellSt (h.thaw 0),60,?_⟩⟩;replace hF:=hF.Ln (a:=stA ph.Wg) (v:=.int .u64 0) rfl (h.setSt 0);walk_nrm;repeat w_go KX.rely
  u_leave0 func158 KX.rely hF;repeat w_go KX.rely
  refine ba (λo r=>?_);replace hF:=KX.rely hF r;clear r;refine⟨rfl,mayWake_entry rfl rfl ck.f_semrelease (x_semrelease_b az),λh=>⟨_,(stepG_semrelease rfl rfl Y4 rfl ck.f_semrelease (x_semrelease_n az) (x_semrelease_b az) (x_semrelease_x az) (x_semrelease_f az) (by simp[a8,smA]) h.cellSm (h.thaw 1)).trans (by rw[show IntKind.u32.wrap (0+1)=1 from by decide]),⟨q+200,?_⟩⟩⟩;walk_nrm;repeat(q_go;try q_fix)
  q_en ck az;q_leave0 func125;repeat(q_go;try q_fix)
  exact CF Y0 (vU rfl rfl func127 rfl d p)
 .replace h:WgAt ph.tW ph.Wg g 8589934592 0:=by simpa[KK]using h
  have e:nY.wrap (8589934592+18446744069414584320)=4294967296:=Y5;have z:((1:Nat):Int)*KK+((0:Nat):Int)=4294967296:=by simp[KK]
  rw[z];refine⟨_,(gd rfl rfl Y4 rfl ck.f_addU64 (tK az) (tI az) (tL az) .u64 (tJ az) rfl rfl h.cellSt (h.thaw 0)).trans (by rw[e];rfl),λl=>absurd l.2 Y5,λ_=>⟨q+200,?_⟩⟩;walk_nrm;try simp only[e]
  repeat(q_go;try q_fix)
  q_leave1 func155;repeat(q_go;try q_fix)
  q_en ck az;q_leave0 func125;repeat(q_go;try q_fix)
  exact CF Y0 (vU rfl rfl func127 rfl d p)
 .replace h:WgAt ph.tW ph.Wg g 8589934593 0:=by simpa[KK]using h
  have e:nY.wrap (8589934593+18446744069414584320)=4294967297:=Y5;have z:((1:Nat):Int)*KK+((1:Nat):Int)=4294967297:=by simp[KK]
  rw[z];refine⟨_,(gd rfl rfl Y4 rfl ck.f_addU64 (tK az) (tI az) (tL az) .u64 (tJ az) rfl rfl h.cellSt (h.thaw 0)).trans (by rw[e];rfl),λl=>absurd l.1 Y5,λ_=>⟨q+200,?_⟩⟩;walk_nrm;try simp only[e]
  repeat(q_go;try q_fix)
  q_leave1 func155;repeat(q_go;try q_fix)
  q_en ck az;q_leave0 func125;repeat(q_go;try q_fix)
  exact CF Y0 (vU rfl rfl func127 rfl d p)
end
end Rn
namespace Rn
open Go Go.Conc Go.ConcM
open Go.ConcR(KK WgAt stA smA rd wr mk DC0)
section
variable{P:al}{ph:Ph}{s:Nat}{gj:Bool}{F:(Nat->Prop)->(Nat->Prop)->V->Prop}{k:Nat}{WS RS:Nat->Prop}
variable{g:av}{w:V}
def PU{a:av}{es:Array bB}(h:bg P H g w=.go a w es):Mz P (λ_=>False) g w a w es:=⟨h,rfl,λ_ _=>rfl,.refl _,rfl,rfl⟩
def zce{d:av}{a:bX}{v:Y}{es:Array bB}(f:a.block=ph.Wg)(h:bg P H g w=.go d (w.setCell a v) es):Mz P (λb=>b=ph.Wg) g w d (w.setCell a v) es:=have A:=vX w a v
 ⟨h,A.size,λb c=>A.block b λe=>c (e.trans f),by rw[A.os];exact .refl _,A.tape,A.output⟩
def zrs:lj ph.Mu ph.Wg (at_ .wk) (at_ .d1) #[mk .disable]:=bf Y1 Y1 Y1 Y1 (by simpa[cp,mk]using book_dis 0)
def zoB(T:Th)(h:(if T.pc=.quit then 1 else T.deaf)=1):lj ph.Mu ph.Wg (at_ .d1) T #[rd (stA ph.Wg),wr (stA ph.Wg)]:=bf Y1 Y1 Y1 Y1 (by rw[h];exact book_rw 0 (stA ph.Wg) (.inr rfl))
def zmF(hF:∀w y,fF ph s (λb=>WS b\/RS b) w y->F WS RS w->F WS RS y){m:Nat}(c:F WS RS w)(h:sx P H (fF ph s λb=>WS b\/RS b) DC0 (zml P ph s λb=>WS b\/RS b) m g w):BH P ph s gj F ⟨at_ .wr,k,WS,RS,g,w⟩:=by
 have D:∀{m:Nat}{g:av}{w:V},F WS RS w->sx P H (fF ph s λb=>WS b\/RS b) DC0 (zml P ph s λb=>WS b\/RS b) m g w->(∀g w,F WS RS w->(∀y,fF ph s (λb=>WS b\/RS b) w y->zml P ph s (λb=>WS b\/RS b) g y)->BH P ph s gj F ⟨at_ .wr,k,WS,RS,g,w⟩)->BH P ph s gj F ⟨at_ .wr,k,WS,RS,g,w⟩:=by intro m;induction m with|zero=>intro g w c h S;exact S g w c h|succ m o=>
  intro g w c h S;rcases h with L|⟨J,i⟩;.simp_all
  .refine nc (λ_=>J) λy z=>?_;have⟨A,G,M,e,⟨j,l⟩,K⟩:=goes_elim (i y z);subst j l;exact .Ac WS A G #[] [] (zhQ g G A RS e) (λe p=>by simp at p) (λ_=>⟨rfl,rfl,rfl,rfl⟩) (o (hF _ _ z c) K S)
 refine D c h λg w c h=>?_;refine nc (λ_=>(h w (fF.refl _ _)).1) λy z=>?_;have⟨_,A,e,m,h⟩:=h y z;refine .wr rfl (hF _ _ z c) A y _ (PU e) rfl ?_;refine lB h λg w h=>?_;refine nc (λ_=>(h w (fF.refl _ _)).1) λy z=>?_;have⟨_,A,e,m,h⟩:=h y z;refine .wk rfl A y _ (PU e) zrs ?_;refine lB h λg w h=>?_;refine nc (λ_=>(h w (fF.refl _ _)).1) λy z=>?_;have⟨_,h⟩:=h y z;refine .d1 rfl λv I a r n=>?_;have⟨A,e,u,x⟩:=h v I a r n;refine⟨A,_,_,zce rfl e,n.setSt _,?_⟩;by_cases B:v=0/\I=1
 .have⟨m,f⟩:=u B;refine .inl ⟨B.1,B.2,zoB _ (by simp[cp]),?_⟩;refine lB f λg w h=>?_;refine nc (λ_=>(h w (fF.refl _ _)).1) λy z=>?_;have⟨_,h⟩:=h y z;refine .d2 rfl λa=>?_;have⟨A,e,m,h⟩:=h a;refine⟨A,y,_,PU e,bf Y1 Y1 Y1 Y1 (by simpa[cp,rd]using book_one (Wg:=ph.Wg) 0 (stA ph.Wg) H (.inr rfl)),?_⟩;refine lB h λg w h=>?_;refine nc (λ_=>(h w (fF.refl _ _)).1) λy z=>?_;have⟨_,h⟩:=h y z;refine .d3 rfl λa=>?_;have⟨A,e,m,h⟩:=h a;refine⟨A,_,_,zce rfl e,a.setSt _,bf Y1 Y1 Y1 Y1 (by simpa[cp,wr]using book_one (Wg:=ph.Wg) 0 (stA ph.Wg) E (.inr rfl)),?_⟩;refine lB h λg w h=>?_;refine nc (λ_=>(h w (fF.refl _ _)).1) λy z=>?_;have⟨_,f,h⟩:=h y z;refine .d4 rfl λa=>⟨f,?_⟩;have⟨A,e,q,h⟩:=h a;exact⟨A,_,_,zce rfl e,a.setSm _,bf Y1 Y1 Y1 Y1 (by simpa[cp]using book_sem (Wg:=ph.Wg) 0 (smA ph.Wg) (.inr rfl)),q,h⟩
 .have⟨q,f⟩:=x B;exact .inr ⟨B,zoB _ Y1,q,f⟩
end
end Rn
namespace Rn
open Go Go.Conc Go.ConcN Go.ConcM Go.RowKit Go.Conc.Lib Go.ConcR.Gen
open Go.ConcR(KK WgAt stA smA rd wr mk DC0)
def An(ph:Ph)(s:Nat)(St:Nat->Prop)(w0:V)(gj:Bool)(Fi:Nat->av->V->Prop)(Ee:ag)(Ed:Act)(kq:Array Oper)(Eg:Nat)(kt:List Nat)(k₁:List Item)(pB:List ag)(k:Nat)(T:Th)(S:Int):Prop:=∃m,∀(j1 j7 j8 j9 j10 Q0 Q1 W X Q2 Z j17 j18 j19 j20 j21 j22 j23 j24 j25 j26 j27 j28 j29 j30 j31 j32 j33 j34 j35 j36 j37 j38 j39 j40 j41 j42 j43 j44 j45 j46 j47 j48 j49 j50 j51 j52 j53 j54 j55 j56 j57 j58 j59 j60 j61 j62 j63 j64 j65 j66 j67 j68 j69 j70 j71 j72 j73 j74 j75 j76 j77 j78 j79 j80 j81 j82 j83 j84 j85 j86 j87 j88 j89 j90 j91 j92 j93 j94 j95 j96 j97 j98 j99 j a b c d e f g h i l n o p q r t u v x y z A B Q3 D Q4 F Q5 I J K L M N O P Q R:Y)(w:V),KX ph s St w0 w->GX ph s St gj E Fi (hd T) k m (G ((Go.Conc.base 204).at ⟨#[.pointer (C ⟨ph.Mu,0,U⟩),j1,.int .i64 S,.bool T.sv,.bool T.aw,.int .i64 T.it,.int .i32 T.old,j7,j8,j9,j10,Q0,Q1,W,X,Q2,Z,j17,j18,j19,j20,j21,j22,j23,j24,j25,j26,j27,j28,j29,j30,j31,j32,j33,j34,j35,j36,j37,j38,j39,j40,j41,j42,j43,j44,j45,j46,j47,j48,j49,j50,j51,j52,j53,j54,j55,j56,j57,j58,j59,j60,j61,j62,j63,j64,j65,j66,j67,j68,j69,j70,j71,j72,j73,j74,j75,j76,j77,j78,j79,j80,j81,j82,j83,j84,j85,j86,j87,j88,j89,j90,j91,j92,j93,j94,j95,j96,j97,j98,j99,j,a,b,c,d,e,f,g,h,i,l,n,o,p,q,r,t,u,v,x,y,z,A,B,Q3,D,Q4,F,Q5,I,J,K,L,M,N,O,P,Q,R],[]⟩ [.code LLS,.inLoop LLS,.inBlock 0,.code O6]) (Ee.at Ed (.inRegion kq (Eg::kt)::k₁)::pB)) w
section
variable{ph:Ph}{s:Nat}{St:Nat->Prop}{w0:V}{gj:Bool}{Fi:Nat->av->V->Prop}
variable{Ee:ag}{Ed:Act}{kq:Array Oper}{Eg:Nat}{kt:List Nat}{k₁:List Item}{pB:List ag}
def zvt(hT:∀k',∃m,∀w,KX ph s St w0 w->GX ph s St gj E Fi (at_ .ur) k' m (G (Ee.at (Ed.put ((kq[Eg]?).bind (·.dst)) (.tuple #[])) (.inRegion kq kt::k₁)) pB) w)(k:Nat)(pc:Pc)(nw it:Int)(ws:Bool)(wst:Int):An ph s St w0 gj Fi Ee Ed kq Eg kt k₁ pB k {pc:=pc,old:=0,nw:=nw,aw:=H,sv:=H,it:=it,ws:=ws} wst:=by
 have e:hd {pc:=pc,old:=0,nw:=nw,aw:=H,sv:=H,it:=it,ws:=ws}={pc:=.c2,old:=0,nw:=1,aw:=H,sv:=H,it:=it,ws:=ws}:=by simp[hd]
 unfold An;rw[e];refine⟨140,λj1 j7 j8 j9 j10 j11 j12 j13 j14 j15 j16 j17 j18 j19 j20 j21 j22 j23 j24 j25 j26 j27 j28 j29 j30 j31 j32 j33 j34 j35 j36 j37 j38 j39 j40 j41 j42 j43 j44 j45 j46 j47 j48 j49 j50 j51 j52 j53 j54 j55 j56 j57 j58 j59 j60 j61 j62 j63 j64 j65 j66 j67 j68 j69 j70 j71 j72 j73 j74 j75 j76 j77 j78 j79 j80 j81 j82 j83 j84 j85 j86 j87 j88 j89 j90 j91 j92 j93 j94 j95 j96 j97 j98 j99 j c d f g i l n o p q r t u v x y z A B Q0 D Q1 F Q2 I J K L M N O P Q R Q3 Q4 W X w hF=>?_⟩;simp only[LLS,O6,Ao,qU,n8,f204,db];repeat w_go KX.rely
 m_num;s_at KX.rely;refine⟨by simp[vF],λ_=>⟨rfl,rfl,λs hs _=>⟨λh=>?_,λ_=>?_⟩⟩⟩;.exfalso;revert h;simp only[mv];(repeat' split)<;>simp
 obtain⟨mu,ms,wg,a⟩:=s;by_cases Z:mu=0
 .subst Z;refine⟨(at_ .le,⟨1,ms,wg,a⟩),by simp[mv],λ_=>⟨_,_,_,stepG_cas_hit rfl rfl Y4 rfl func203 kT kR kU .i32 kS rfl rfl rfl hs.1.cellSt (hs.1.thaw 0),hs.pG 1,dG.set _ _ (.inl rfl),bf Y1 Y1 Y1 Y1 (by simpa[cp,mk]using book_rw (Mu:=ph.Mu) (Wg:=ph.Wg) 0 (muA ph.Mu) (.inl rfl)),Y1,?_⟩⟩;replace hF:=hF.Mx (dG.set (muA ph.Mu) (.int .i32 1) (.inl rfl)) (hs.pG 1);refine⟨60,?_⟩;walk_nrm;repeat w_go KX.rely
  s_at KX.rely;refine⟨by simp[vF],λ_=>⟨rfl,rfl,λs hs _=>⟨by simp[mv],λ_=>⟨(at_ .la,s),by simp[mv],λ_=>⟨_,_,_,stepG_mark0 .enable Y1 rfl rfl Y4 rfl ck.f_enable (x_enable_n az) (x_enable_b az) (x_enable_x az) (x_enable_f az),hs,dG.refl _,bf Y1 Y1 Y1 Y1 (by simpa[cp,mk]using book_en (Mu:=ph.Mu) (Wg:=ph.Wg) 0),Y1,?_⟩⟩⟩⟩⟩;refine⟨30,?_⟩;walk_nrm;repeat w_go KX.rely
  m_convG prog ck.underlying_tUP Zs zhW hF.mu.choose_spec KX.rely hF;s_at KX.rely;refine⟨by simp[vF],λ_=>⟨rfl,rfl,λs hs _=>⟨by simp[mv],λ_=>⟨(at_ .ur,s),by simp[mv],λ_=>⟨_,_,_,stepG_markAt .acquire Y1 rfl rfl Y4 rfl ck.f_acquire (x_acquire_n az) (x_acquire_b az) (x_acquire_x az) (x_acquire_f az) (by simp[a8,muA]),hs,dG.refl _,rfl,Y1,?_⟩⟩⟩⟩⟩;obtain⟨mT,b⟩:=hT k;refine⟨mT+20,?_⟩;walk_nrm;repeat w_go KX.rely
  u_leave0 func204 KX.rely hF;repeat w_go KX.rely
  exact goes_pad (b _ hF) _
 .exact⟨(at_ .bad,⟨mu,ms,wg,a⟩),by simp[mv,Z],λh=>absurd rfl h⟩
end
end Rn
end Go.Proofs.YtelohkknmgaacaaGreatDoor
