/-
  The company of the starter and its workers (part 4). No condition.
-/
import Derived.Calls
import Derived.Conc.CrowdTrace
import Derived.Test.YtdpfknhenjngcaaGreatDoorZ1
import Derived.Conc.CrowdStepC
import Derived.Conc.MuStep3
import Derived.Test.YtdpfknhenjngcaaGreatDoorZ2
import Derived.Test.YtdpfknhenjngcaaGreatDoorProg
import Derived.Conc.WgGenLoneE
import Derived.KernelRfl
import Derived.Conc.MuWords
import Derived.Conc.WgGenN2
set_option linter.unusedSimpArgs false
set_option linter.unusedVariables false
set_option linter.unusedSectionVars false
set_option maxRecDepth 100000
set_option maxHeartbeats 16000000
open Array renaming getElem?_eq_some_iff→ah
open Go renaming Trace→pk,Addr→cr,Event→bT,Program→aG,Goroutine→aI,World→ai,MemAct→jX,stepG→bU,Frame→aB,TypeId→au,Value→aj,mayWake→G1,Question→dP,execOp→bd,Code→gZ,Conc.Goes.stop→bn
open Go.Act renaming eval→bX
open Go.Conc renaming touchAt→rA,getElem?_append_cases→dI,noRace_append→rG,touch_of→tZ,ofEvents_eq→vK,QuitsD→nm,aside_setCell→wO,stepG_add_atomic→iH
open Go.Conc.QuitsD renaming leaveD→wL
open Go.ConcM renaming EvStop→mM,evStop_book→bu
open Go.ConcM.Th renaming deaf→cH
open Go.ConcR.Gen renaming x_addU64_n→um,x_addU64_b→uj,x_addU64_x→uo,x_addU64_f→uk
open Go.Extern renaming findNext→jo,find→nH
open Go.IntKind renaming u64→py
open Go.MemAct renaming ofEvent→aP,touch?→cB
open Go.MemOp renaming ofEvents→cW
open Go.Proofs.Tryz renaming prog→an,func66→kH,func68→rY,func115→kL,func117→iN,f189→qJ
open Go.Trace renaming g?→xl
open List renaming mem_toArray→db,mem_cons→bF,not_mem_nil→cf,takeWhile_prefix→Av
open Nat renaming lt_or_ge→l5,le_refl→aA,le_trans→bD,zero_le→bw,lt_of_lt_of_le→aY,le_of_eq→dh
open Option renaming map_eq_some_iff→aN,getD_some→cS
open Option.some renaming injEq→aF
open Bool renaming true→ae,false→aa
open Option renaming some→ab,none→ak
namespace Go.Proofs.YtdpfknhenjngcaaGreatDoor
namespace Rn
inductive Rk:Type 1
 |nd (ι:Type) (f:ι->Rk):Rk
def Rk.lt(a:Rk):Rk->Prop
 |.nd _ f=>∃i,a=f i
theorem Rk.acc(a:Rk):Acc Rk.lt a:=by
 induction a with
 |nd ι f ih=>
  refine⟨_,λ y h=>?_⟩
  obtain⟨i,rfl⟩:=h
  exact ih i
theorem Rk.zo7{ι:Type}(f:ι->Rk)(i:ι):Rk.lt (f i) (.nd ι f):=⟨i,rfl⟩
structure Ms:Type 1 where
 m:Rk
 c:Rk
 a:Rk
 b:Rk
 n:Nat
inductive Ms.lt:Ms->Ms->Prop
 |m {x y:Ms} (h:Rk.lt x.m y.m):Ms.lt x y
 |c {x y:Ms} (e:x.m=y.m) (h:Rk.lt x.c y.c):Ms.lt x y
 |a {x y:Ms} (e:x.m=y.m) (ec:x.c=y.c) (h:Rk.lt x.a y.a):Ms.lt x y
 |b {x y:Ms} (e:x.m=y.m) (ec:x.c=y.c) (ea:x.a=y.a) (h:Rk.lt x.b y.b):Ms.lt x y
 |n {x y:Ms} (e:x.m=y.m) (ec:x.c=y.c) (ea:x.a=y.a) (eb:x.b=y.b) (h:x.n<y.n):Ms.lt x y
theorem Ms.acc:∀x:Ms,Acc Ms.lt x:=by
 have key:∀m c a b:Rk,∀n:Nat,Acc Ms.lt ⟨m,c,a,b,n⟩:=by
  intro m
  induction m.acc with
  |intro m _ ihm=>
  intro c
  induction c.acc with
  |intro c _ ihc=>
  intro a
  induction a.acc with
  |intro a _ iha=>
  intro b
  induction b.acc with
  |intro b _ ihb=>
  intro n
  induction n using Nat.strongRecOn with
  |_ n ihn=>
  refine⟨_,λ y h=>?_⟩
  obtain⟨m',c',a',b',n'⟩:=y
  cases h with
  |m h=>exact ihm m' h c' a' b' n'
  |c e h=>cases e;exact ihc c' h a' b' n'
  |a e ec h=>cases e;cases ec;exact iha a' h b' n'
  |b e ec ea h=>cases e;cases ec;cases ea;exact ihb b' h n'
  |n e ec ea eb h=>cases e;cases ec;cases ea;cases eb;exact ihn n' h
 exact λ x=>key x.m x.c x.a x.b x.n
open Go Go.Conc Go.ConcN
def Yz(t:pk):Prop:=∀i a,t.act? i≠ab (.mark (.release a))
def VL(Dd:Loc->Prop)(t:pk)(i:Nat):Prop:=∃x,rA t i=ab x/\(x.kind≠.atomic\/t.heard i\/¬Dd x.loc)
structure TI(Sh Dd:Loc->Prop)(Wk:Nat->Prop)(W Rr:Nat->Loc->Prop)(t:pk):Prop where
 quiet:Quiet Sh t
 wr:∀g l,W g l->Perm t g l
 rd:∀g l,Rr g l->PermW t g l
 nr:∀said,¬Race said t
 kn:∀i,VL Dd t i->Knows t 0 i\/∃k,Wk k/\t.g? i=ab k
 norel:Yz t
structure zms(Sh:Loc->Prop)(W Rr:Nat->Loc->Prop):Prop where
 ww:∀g g' l,W g l->W g' l->g=g'
 wr:∀g g' l,W g l->Rr g' l->g=g'
 shW:∀g l,W g l->¬Sh l
 shR:∀g l,Rr g l->¬Sh l
def OkT(Sh:Loc->Prop)(W Rr:Nat->Loc->Prop)(g:Nat)(op:MemOp):Prop:=
 op.g=g/\(∀a,op.act≠.mark (.release a))/\∀x,op.act.touch?=ab x->(Sh x.loc/\x.kind≠.plain/\(x.kind=.said->g=0))\/W g x.loc\/(Rr g x.loc/\x.write=aa)
section
variable{Sh Dd:Loc->Prop}{Wk:Nat->Prop}{W Rr:Nat->Loc->Prop}{t u:pk}{g:Nat}
theorem VL.old{i:Nat}(h:VL Dd (t++u) i)(hi:i<t.size):VL Dd t i:=by
 obtain⟨x,h1,h2⟩:=h
 exact⟨x,by rw[<-touchAt_old (u:=u) hi];exact h1,by rw[heard_old hi] at h2;exact h2⟩
theorem Yz.app(h:Yz t)(hu:∀op∈u,∀a,op.act≠.mark (.release a)):Yz (t++u):=by
 intro i a hi
 obtain⟨op,ho,hoa⟩:=aN.1 hi
 rcases dI ho with⟨_,O1⟩|⟨_,hou⟩
 ·exact h i a (by rw[act?_of O1,hoa])
 ·exact hu op hou a hoa
theorem TI.app(E:zms Sh W Rr)(h:TI Sh Dd Wk W Rr t)(hg:g=0\/Wk g)(hu:∀op∈u,OkT Sh W Rr g op):TI Sh Dd Wk W Rr (t++u):=by
 have only:∀op∈u,∀b,op.act.touch?=ab b->∀g',W g' b.loc->op.g=g':=by
  intro op cM b hb g' hw
  rw[(hu op cM).1]
  rcases (hu op cM).2.2 b hb with⟨hs,_⟩|hw'|⟨hr,_⟩
  ·exact absurd hs (E.shW _ _ hw)
  ·exact E.ww _ _ _ hw' hw
  ·exact(E.wr _ _ _ hw hr).symm
 refine⟨h.quiet.app λ op cM x hx hs=>?_,λ g' l hw=>(h.wr g' l hw).app λ op cM b hb e=>only op cM b hb g' (e▸hw),λ g' l hr=>(h.rd g' l hr).app λ op cM b hb e hbw=>?_,λ said=>?_,λ i hi=>?_,h.norel.app λ op cM=>(hu op cM).2.1⟩
 ·rcases (hu op cM).2.2 x hx with⟨_,h1,h2⟩|hw|⟨hr,_⟩
  ·exact⟨h1,λ e=>by rw[(hu op cM).1];exact h2 e⟩
  ·exact absurd hs (E.shW _ _ hw)
  ·exact absurd hs (E.shR _ _ hr)
 ·rw[(hu op cM).1]
  rcases (hu op cM).2.2 b hb with⟨hs,_⟩|hw'|⟨_,hf⟩
  ·exact absurd (e▸hs) (E.shR _ _ hr)
  ·exact E.wr _ _ _ hw' (e▸hr)
  ·rw[hf] at hbw;cases hbw
 ·refine rG (h.nr said) (λ op cM=>(hu op cM).1) (λ i a ha op cM b hb hc=>?_)
  rcases (hu op cM).2.2 b hb with⟨hs,hk,O2⟩|hw|⟨hr,hbw⟩
  ·exact h.quiet.known hs hk O2 i a ha hc
  ·exact h.wr g b.loc hw i a ha hc.1
  ·exact h.rd g b.loc hr i a ha hc.1 (hc.2.2.1.resolve_right (by simp[hbw]))
 ·by_cases cj:i<t.size
  ·rcases h.kn i (hi.old cj) with hk|⟨k,hk,he⟩
   ·exact .inl (hk.app u)
   ·exact .inr ⟨k,hk,by rw[g?_old cj];exact he⟩
  ·obtain⟨x,hx,_⟩:=hi
   obtain⟨op,ho,_⟩:=tZ hx
   have cM:op∈u:=by
    rcases dI ho with⟨hl,_⟩|⟨_,hm⟩
    ·exact absurd hl cj
    ·exact hm
   have e:=(hu op cM).1
   rcases hg with rfl|hg
   ·exact .inl (by rw[<-e];exact knows_own ho)
   ·exact .inr ⟨g,hg,by simp[xl,ho,e]⟩
theorem TI.app0(h:TI Sh Dd Wk W Rr t)(hg:∀op∈u,op.g=g)(hu:∀op∈u,op.act.touch?=ak/\∀a,op.act≠.mark (.release a)):TI Sh Dd Wk W Rr (t++u):=by
 have no:∀op∈u,∀b,op.act.touch?=ab b->False:=λ op cM b hb=>by rw[(hu op cM).1] at hb;cases hb
 refine⟨h.quiet.app λ op cM x hx=>(no op cM x hx).elim,λ g' l hw=>(h.wr g' l hw).app λ op cM b hb=>(no op cM b hb).elim,λ g' l hr=>(h.rd g' l hr).app λ op cM b hb=>(no op cM b hb).elim,
  λ said=>rG (h.nr said) hg λ i a _ op cM b hb=>(no op cM b hb).elim,λ i hi=>?_,h.norel.app λ op cM=>(hu op cM).2⟩
 by_cases cj:i<t.size
 ·rcases h.kn i (hi.old cj) with hk|⟨k,hk,he⟩
  ·exact .inl (hk.app u)
  ·exact .inr ⟨k,hk,by rw[g?_old cj];exact he⟩
 ·obtain⟨x,hx,_⟩:=hi
  obtain⟨op,ho,hxa⟩:=tZ hx
  rcases dI ho with⟨hl,_⟩|⟨_,hm⟩
  ·exact absurd hl cj
  ·exact(no op hm x hxa).elim
variable{W' Rr':Nat->Loc->Prop}{Wk':Nat->Prop}
theorem TI.WE{Sh' Dd':Loc->Prop}(h:TI Sh Dd Wk W Rr t)(hw:∀g l,W' g l->W g l\/∀i x,rA t i=ab x->x.loc≠l)(hr:∀g l,Rr' g l->W g l\/Rr g l\/∀i x,rA t i=ab x->x.loc≠l)
  (hs:∀l,Sh' l->Sh l\/∀i x,rA t i=ab x->x.loc≠l) (hd:∀l,Dd l->Dd' l) (hk:∀k,Wk k->Wk' k):TI Sh' Dd' Wk' W' Rr' t:=by
 refine⟨λ i op x ho hx hl=>?_,λ g l hl=>?_,λ g l hl=>?_,h.nr,λ i hi=>?_,h.norel⟩
 ·rcases hs _ hl with h1|h1
  ·exact h.quiet i op x ho hx h1
  ·exact absurd rfl (h1 i x (by rw[touchAt_of ho];exact hx))
 ·rcases hw g l hl with h1|h1
  ·exact h.wr g l h1
  ·exact λ i a ha e=>absurd e (h1 i a ha)
 ·rcases hr g l hl with h1|h1|h1
  ·exact .of (h.wr g l h1)
  ·exact h.rd g l h1
  ·exact λ i a ha e=>absurd e (h1 i a ha)
 ·obtain⟨x,h1,h2⟩:=hi
  rcases h.kn i ⟨x,h1,h2.imp id (Or.imp id λ hn hl=>hn (hd _ hl))⟩ with hh|⟨k,rJ,he⟩
  ·exact .inl hh
  ·exact .inr ⟨k,hk k rJ,he⟩
variable{k:Nat}
theorem TI.fork(h:TI Sh Dd Wk W Rr t){x y:MemOp}(hx:x.g=0/\x.act=.go k)(hy:y.g=k/\y.act=.start)(h0:Deaf t 0=0)(hk:Deaf t k=0)
  (hw:∀g l,W' g l->W g l\/(g=k/\W 0 l)) (hr:∀g l,Rr' g l->W g l\/Rr g l\/(g=k/\(W 0 l\/Rr 0 l))) (hwk:∀k,Wk k->Wk' k):TI Sh Dd Wk' W' Rr' (t++#[x,y]):=by
 have Yg:∀op∈#[x,y],∀b,op.act.touch?=ab b->False:=by
  intro op cM b hb
  simp only[db,bF,cf,or_false] at cM
  rcases cM with rfl|rfl
  ·rw[hx.2] at hb;cases hb
  ·rw[hy.2] at hb;cases hb
 have old:∀{i:Nat} {a:Touch},rA (t++#[x,y]) i=ab a->rA t i=ab a:=by
  intro i a ha
  obtain⟨z,hz,hza⟩:=tZ ha
  rcases dI hz with⟨_,SC⟩|⟨_,hzu⟩
  ·rw[touchAt_of SC];exact hza
  ·exact(Yg z hzu a hza).elim
 have zvq:∀g l,W g l->Perm (t++#[x,y]) g l:=λ g l hl=>(h.wr g l hl).app λ op cM b hb=>(Yg op cM b hb).elim
 have zzI:∀g l,Rr g l->PermW (t++#[x,y]) g l:=λ g l hl=>(h.rd g l hl).app λ op cM b hb=>(Yg op cM b hb).elim
 refine⟨h.quiet.app λ op cM b hb _=>(Yg op cM b hb).elim,λ g l hl=>?_,λ g l hl=>?_,λ said=>?_,λ i hi=>?_,h.norel.app λ op cM a e=>?_⟩
 ·rcases hw g l hl with h1|⟨rfl,h1⟩
  ·exact zvq g l h1
  ·exact λ i a ha e=>fork_knows hx hy h0 hk (h.wr 0 l h1 i a (old ha) e)
 ·rcases hr g l hl with h1|h1|⟨rfl,h1|h1⟩
  ·exact .of (zvq g l h1)
  ·exact zzI g l h1
  ·exact λ i a ha e _=>fork_knows hx hy h0 hk (h.wr 0 l h1 i a (old ha) e)
  ·exact λ i a ha e ew=>fork_knows hx hy h0 hk (h.rd 0 l h1 i a (old ha) e ew)
 ·have e:t++#[x,y]=(t++#[x])++#[y]:=by apply Array.ext';simp
  rw[e]
  refine rG (g:=k) (rG (g:=0) (h.nr said) (λ op cM=>by simp at cM;rw[cM];exact hx.1) (λ i a _ op cM b hb _=>(Yg op (by simp at cM ⊢;exact .inl cM) b hb).elim))
   (λ op cM=>by simp at cM;rw[cM];exact hy.1) (λ i a _ op cM b hb _=>(Yg op (by simp at cM ⊢;exact .inr cM) b hb).elim)
 ·have cj:i<t.size:=by
   obtain⟨z,hz,_⟩:=hi
   have h9:=old hz
   obtain⟨z2,OE,_⟩:=tZ h9
   exact lt_size_of_getElem? OE
  rcases h.kn i (hi.old cj) with hh|⟨k',nZ,he⟩
  ·exact .inl (hh.app _)
  ·exact .inr ⟨k',hwk _ nZ,by rw[g?_old cj];exact he⟩
 ·simp only[db,bF,cf,or_false] at cM
  rcases cM with rfl|rfl
  ·rw[hx.2] at e;cases e
  ·rw[hy.2] at e;cases e
structure xd(Dd:Loc->Prop)(a:cr)(t:pk)(k r:Nat):Prop where
 act:t.act? r=ab (.mark (.releaseMerge a))
 g:t.g? r=ab k
 heard:t.heard r
 after:∀i,r<i->t.g? i=ab k->¬VL Dd t i
variable{a:cr}{r:Nat}
theorem xd.app(h:xd Dd a t k r)(hu:∀i,t.size<=i->(t++u).g? i=ab k->¬VL Dd (t++u) i):xd Dd a (t++u) k r:=by
 have hr:r<t.size:=lt_of_act? h.act
 refine⟨by rw[act?_old hr];exact h.act,by rw[g?_old hr];exact h.g,(heard_old hr).2 h.heard,λ i hi hg hc=>?_⟩
 rcases l5 i t.size with cj|hge
 ·exact h.after i hi (by rw[<-g?_old (u:=u) cj];exact hg) (hc.old cj)
 ·exact hu i hge hg hc
theorem xd.appOther(h:xd Dd a t k r)(hu:∀op∈u,op.g=g)(hg:g≠k):xd Dd a (t++u) k r:=by
 refine h.app λ i hi VS=>?_
 obtain⟨op,ho,hog⟩:=aN.1 VS
 rcases dI ho with⟨cj,_⟩|⟨_,hou⟩
 ·omega
 ·rw[hu op hou] at hog;exact absurd hog hg
theorem xd.appOwn(h:xd Dd a t k r)(fn:FuncId)(pos:String)(es:Array bT)
  (hes:∀j e,es[j]?=ab e->(aP e).touch?=ak\/((∃ad wr,e=⟨.cell ad,wr,ae⟩/\Dd (.cell ad))/\0<deafBehind (Deaf t k) (es.extract 0 j))):xd Dd a (t++cW k fn pos es) k r:=by
 refine h.app (λ i hi _ hc=>?_)
 obtain⟨x,hx,hk⟩:=hc
 obtain⟨op,ho,hxt⟩:=tZ hx
 have hj:(cW k fn pos es)[i-t.size]?=ab op:=by
  rw[Array.getElem?_append] at ho
  simpa [Nat.not_lt.2 hi] using ho
 rw[vK,Array.getElem?_map] at hj
 obtain⟨e,he,rfl⟩:=aN.1 hj
 have hjs:i-t.size<=es.size:=by
  rcases l5 (i-t.size) es.size with h'|h'
  ·omega
  ·rw[Array.getElem?_eq_none h'] at he;cases he
 rcases hes _ e he with h0|⟨⟨ad,wr,rfl,hdd⟩,hd⟩
 ·simp only at hxt;rw[h0] at hxt;cases hxt
 ·have hxk:x.kind=.atomic/\x.loc=.cell ad:=by
   cases wr<;>simp[aP,cB] at hxt<;>subst hxt<;>exact⟨rfl,rfl⟩
  rcases hk with hk|⟨g,hg,rI⟩|hk
  ·exact hk hxk.1
  ·have hg1:g=k:=by simp[xl,ho] at hg;exact hg.symm
   subst hg1
   have:=deaf_inside t g fn pos es (i-t.size) hjs
   rw[show t.size+(i-t.size)=i by omega,rI] at this
   omega
  ·rw[hxk.2] at hk;exact hk hdd
theorem xd.new(hd:Deaf t k=0)(fn:FuncId)(pos:String):xd Dd a (t++cW k fn pos #[⟨.mark (.releaseMerge a),aa,ae⟩]) k t.size:=by
 have e1:cW k fn pos #[⟨.mark (.releaseMerge a),aa,ae⟩]=#[{ g:=k,fn,pos,act:=.mark (.releaseMerge a) }]:=by rw[vK];simp[aP]
 have hy:(t++#[({ g:=k,fn,pos,act:=.mark (.releaseMerge a) }:MemOp)])[t.size]?=ab { g:=k,fn,pos,act:=.mark (.releaseMerge a) }:=by simp
 rw[e1]
 refine⟨by rw[act?_of hy],by simp[xl],⟨k,by simp[xl],by rw[deaf_old (aA _)];exact hd⟩,λ i hi hg=>?_⟩
 obtain⟨op,ho,_⟩:=aN.1 hg
 have:=lt_size_of_getElem? ho
 simp at this
 omega
theorem TI.join{y:MemOp}{Sh' Dd':Loc->Prop}(h:TI Sh Dd Wk W Rr t)(hy:y.g=0/\y.act=.mark (.acquire a))(h0:Deaf t 0=0)(hr:∀k,Wk k->∃r,xd Dd a t k r)
  (hw:∀g l,W' g l->g=0/\¬Dd l) (hrr:∀g l,Rr' g l->g=0/\¬Dd l) (hs:∀l,Sh' l->Sh l) (hd:∀l,Dd l->Dd' l):TI Sh' Dd' Wk' W' Rr' (t++#[y]):=by
 have hyp:(t++#[y])[t.size]?=ab y:=by simp
 have hq:(t++#[y]).heard t.size:=⟨0,by simp[xl,hy.1],by rw[deaf_old (aA _)];exact h0⟩
 have Yg:∀b,y.act.touch?=ab b->False:=λ b hb=>by rw[hy.2] at hb;cases hb
 have nr2:Yz (t++#[y]):=h.norel.app λ op cM a' e=>by
  simp only[db,bF,cf,or_false] at cM
  subst cM;rw[hy.2] at e;cases e
 have all:∀i,VL Dd (t++#[y]) i->Knows (t++#[y]) 0 i:=by
  intro i hi
  have cj:i<t.size:=by
   obtain⟨x,hx,_⟩:=hi
   obtain⟨op,ho,hxa⟩:=tZ hx
   rcases dI ho with⟨hl,_⟩|⟨_,hm⟩
   ·exact hl
   ·simp only[db,bF,cf,or_false] at hm
    subst hm;exact(Yg x hxa).elim
  rcases h.kn i (hi.old cj) with hk|⟨k,hk,he⟩
  ·exact hk.app _
  ·obtain⟨r,hr⟩:=hr k hk
   have hrt:=lt_of_act? hr.act
   have edge:HappensBefore (t++#[y]) r t.size:=.single (.inr ⟨.marked hrt (.inr (by rw[act?_old hrt];exact hr.act)) (by rw[act?_of hyp,hy.2]) (λ j _ _=>nr2 j a),(heard_old hrt).2 hr.heard,hq⟩)
   have hle:i<=r:=Nat.le_of_not_lt λ hl=>hr.after i hl he (hi.old cj)
   rcases l5 i r with hl|hge
   ·refine⟨t.size,y,hyp,hy.1,.inr (.trans (.single (.inl ⟨hl,k,by rw[g?_old cj];exact he,by rw[g?_old hrt];exact hr.g⟩)) edge)⟩
   ·obtain rfl:i=r:=by omega
    exact⟨t.size,y,hyp,hy.1,.inr edge⟩
 have perm:∀l,¬Dd l->Perm (t++#[y]) 0 l:=λ l hl i x hx e=>all i ⟨x,hx,.inr (.inr (e▸hl))⟩
 refine⟨λ i op x ho hx hl=>?_,λ g l hl=>?_,λ g l hl=>?_,λ said=>?_,λ i hi=>.inl (all i ?_),nr2⟩
 ·exact(h.quiet.app (u:=#[y]) λ op cM x hx _=>by
   simp only[db,bF,cf,or_false] at cM
   subst cM;exact(Yg x hx).elim) i op x ho hx (hs _ hl)
 ·obtain⟨rfl,h1⟩:=hw g l hl
  exact perm l h1
 ·obtain⟨rfl,h1⟩:=hrr g l hl
  exact .of (perm l h1)
 ·exact rG (g:=0) (h.nr said) (λ op cM=>by simp at cM;rw[cM];exact hy.1) (λ i a _ op cM b hb _=>by
   simp only[db,bF,cf,or_false] at cM
   subst cM;exact(Yg b hb).elim)
 ·obtain⟨x,h1,h2⟩:=hi
  exact⟨x,h1,h2.imp id (Or.imp id λ hn hl=>hn (hd _ hl))⟩
theorem TI.handed(h:TI Sh Dd (λ _=>False) W Rr t):t.HandedOver:=by
 intro i g hg fh ⟨x,h1,h2,h3⟩
 rcases h.kn i ⟨x,h1,h3.imp id .inl⟩ with⟨q,z,h4,h5,h6⟩|⟨k,hk,_⟩
 ·rcases h6 with rfl|h6
  ·simp[xl,h4,h5] at hg
   exact absurd hg.symm fh
  ·exact⟨q,by simp[xl,h4,h5],h6⟩
 ·exact hk.elim
end
end Rn
namespace Rn
open Go Go.Conc
def Mv(P:aG)(main:Bool)(g:aI)(w:ai)(g':aI)(w':ai)(es:Array bT)(acts:List jX):Prop:=
 (acts=[]/\bU P main g w=.go g' w' es)\/
 (∃fr L fr1 c sh w0,g=G fr L/\g'=G fr1 L/\bU P main g w=.comm g #[c] ae sh w0 es/\mV fr L c sh w0 es=.next fr1 L w' es acts)
def opsOf(i:Nat)(g:aI)(es:Array bT)(acts:List jX):pk:=
 cW i g.frame.fn g.frame.place es++(acts.map λ a=>({ g:=i,fn:=g.frame.fn,pos:=g.frame.place,act:=a }:MemOp)).toArray
section
variable{P:aG}{gs:Array aI}{w w':ai}{sl:Option (Nat×Nat)}{i:Nat}{g g':aI}{es:Array bT}{acts:List jX}
theorem Ub(h:∀o∈gs,o.status≠.blocked\/o.offers=ak)(r:Nat)(b:Bool):partners gs r b=[]:=by
 unfold partners
 rw[List.flatMap_eq_nil_iff]
 rintro⟨o,j⟩ hm
 have ho:o∈gs:=by
  have h1:(o,j)∈gs.zipIdx:=Array.mem_toList_iff.1 hm
  have h2:=Array.mem_zipIdx h1
  rw[h2.2.2]
  exact Array.getElem_mem _
 rcases h o ho with h1|h1
 ·simp only
  split
  ·rename_i h2 _;exact absurd h2 h1
  ·rfl
 ·simp only[h1]
  split
  ·rename_i h2;cases h2
  ·rfl
def Wk(w':ai)(f:aI->aI):Prop:=∀o,f o=o\/f o=o.again w'
theorem zbq{o:aI}(h:o.offers=ak)(h2:o.status=.running\/o.status=.finished\/o.status=.blocked)(w:ai):
  o.again w=if o.status=.blocked then { o with status:=.running } else o:=by
 unfold Goroutine.again
 rcases h2 with h2|h2|h2<;>simp[h,h2]
theorem OU(hi:gs[i]?=ab g)(hf:∀o∈gs,o.status≠.blocked\/o.offers=ak)(h:Mv P (i == 0) g w g' w' es acts):
  ∃f,Wk w' f/\(f=woken P g g' w'\/f=id)/\runT P (crowd gs w sl) i=(.next (crowd ((gs.map f).setIfInBounds i g') w' sl),opsOf i g es acts):=by
 rcases h with⟨rfl,h⟩|⟨fr,L,fr1,c,sh,w0,rfl,rfl,h,hc⟩
 ·refine⟨woken P g g' w',λ o=>?_,.inl rfl,?_⟩
  ·unfold woken
   split
   ·exact .inr rfl
   ·exact .inl rfl
  ·rw[runT_crowd_go hi h]
   simp[opsOf]
 ·refine⟨id,λ o=>.inl rfl,.inr rfl,?_⟩
  obtain⟨cj,hg⟩:=ah.1 hi
  have hsw:=swapAt_of_lt cj { (default:aI) with status:=.finished }
  have UJ:∀o∈gs.set i { (default:aI) with status:=.finished },o.status≠.blocked\/o.offers=ak:=by
   intro o ho
   rcases Array.mem_or_eq_of_mem_set ho with h1|h1
   ·exact hf o h1
   ·rw[h1];exact .inr rfl
  obtain⟨_,_,hcm⟩:=x8 (P:=P) (rest:={ timers:=#[],alone:=ak,slice:=sl }) (gs:=gs.set i { (default:aI) with status:=.finished }) (i:=i) (cs:=L) (λ r b=>Ub UJ r b) hc
  show runT P { world:=w,gs:=gs,rest:={ timers:=#[],alone:=ak,slice:=sl } } i=_
  unfold runT
  rw[hg] at hsw
  simp only[hsw,h,GStep.es,hcm,set_setIfInBounds cj]
  simp[crowd,opsOf,G]
theorem Qr {main : Bool} {fr fr1 : aB} {L L1 cs : List aB} (h : Does P main fr L w (.next fr1 L1 w' es acts)) : Mv P main (G fr (L ++ cs)) w (G fr1 (L1 ++ cs)) w' es acts := by
  rcases h cs with h | ⟨c, sh, w0, h1, h2⟩
  · exact .inl h
  · have hL : L1 = L := by
      rcases H8 h2 with h | ⟨_, _, _, h⟩
      · cases h
      · cases h; rfl
    subst hL
    refine .inr ⟨fr, L1 ++ cs, fr1, c, sh, w0, rfl, rfl, h1, ?_⟩
    have key : ∀ (r : LR), mV fr L1 c sh w0 es = r → r = .next fr1 L1 w' es acts → mV fr (L1 ++ cs) c sh w0 es = .next fr1 (L1 ++ cs) w' es acts := by
      intro r h3 h4
      subst h3
      unfold mV at h4 ⊢
      revert h4
      repeat' split
      all_goals intro h4
      all_goals first
        | (cases h4; done)
        | (simp only [LR.next.injEq] at h4 ⊢
           obtain ⟨a1, a2, a3, a4, a5⟩ := h4
           exact ⟨a1, trivial, a3, a4, a5⟩)
    exact key _ rfl h2
theorem im{op:MemOp}(h:op∈opsOf i g es acts):op.g=i/\((∃e∈es,op.act=.ofEvent e)\/∃a∈acts,op.act=a):=by
 unfold opsOf at h
 rcases Array.mem_append.1 h with h|h
 ·rw[vK] at h
  obtain⟨e,he,rfl⟩:=Array.mem_map.1 h
  exact⟨rfl,.inl ⟨e,he,rfl⟩⟩
 ·simp only[db,List.mem_map] at h
  obtain⟨a,ha,rfl⟩:=h
  exact⟨rfl,.inr ⟨a,ha,rfl⟩⟩
theorem CU:opsOf i g es []=cW i g.frame.fn g.frame.place es:=by simp[opsOf]
end
end Rn
namespace Rn
open Go Go.Conc Go.ConcM
open Go.ConcR (KK WgAt stA smA rd wr mk)
structure Ph where
 Mu:Nat
 Wg:Nat
 Bo:Nat
 tM:au
 tW:au
 tB:au
 d:Nat
structure Ph.Ok(ph:Ph):Prop where
 mw:ph.Mu≠ph.Wg
 mb:ph.Mu≠ph.Bo
 wb:ph.Wg≠ph.Bo
section
variable(ph:Ph)
def VX(w:ai):Prop:=∃st sm,MuAt ph.tM ph.Mu w st sm
def V0(w:ai):Prop:=∃st sm,WgAt ph.tW ph.Wg w st sm
def Am(w:ai)(cs:Array aj):Prop:=w.heap[ph.Bo]?=ab (.cells cs ph.tB)/\cs.size=2*ph.d
def half(s:Nat)(cs:Array aj):Array aj:=cs.extract (s*ph.d) (s*ph.d+ph.d)
def Ph.sh(b:Nat):Prop:=b=ph.Mu\/b=ph.Wg\/b=ph.Bo
structure gY(s:Nat)(St:Nat->Prop)(w aJ:ai):Prop where
 size:w.heap.size<=aJ.heap.size
 blk:∀b,St b->aJ.heap[b]?=w.heap[b]?
 mu:VX ph w->VX ph aJ
 wg:V0 ph w->V0 ph aJ
 bo:∀cs,Am ph w cs->∃qy,Am ph aJ qy/\half ph s qy=half ph s cs
end
section
variable{ph:Ph}{s:Nat}
theorem gY.refl(St:Nat->Prop)(w:ai):gY ph s St w w:=⟨aA _,λ _ _=>rfl,id,id,λ cs h=>⟨cs,h,rfl⟩⟩
theorem gY.trans{St:Nat->Prop}{w aJ ed:ai}(h:gY ph s St w aJ)(k:gY ph s St aJ ed):gY ph s St w ed:=
 ⟨bD h.size k.size,λ b hb=>(k.blk b hb).trans (h.blk b hb),λ x=>k.mu (h.mu x),λ x=>k.wg (h.wg x),λ cs x=>by
  obtain⟨c1,h1,h2⟩:=h.bo cs x
  obtain⟨c2,h3,h4⟩:=k.bo c1 h1
  exact⟨c2,h3,h4.trans h2⟩⟩
end
structure Lv(ph:Ph)(w:ai):Prop where
 mu:VX ph w
 wg:V0 ph w
 bo:∃cs,Am ph w cs
section
variable{ph:Ph}
variable{w:ai}
theorem Lv.lt(h:Lv ph w){b:Nat}(hb:ph.sh b):b<w.heap.size:=by
 obtain⟨st,sm,h1⟩:=h.mu
 obtain⟨st2,sm2,h2⟩:=h.wg
 obtain⟨cs,h3,_⟩:=h.bo
 rcases hb with rfl|rfl|rfl
 ·exact(ah.1 h1).1
 ·exact(ah.1 h2).1
 ·exact(ah.1 h3).1
theorem Lv.rely{s:Nat}{St:Nat->Prop}{aJ:ai}(h:Lv ph w)(r:gY ph s St w aJ):Lv ph aJ:=
 ⟨r.mu h.mu,r.wg h.wg,let ⟨cs,hc⟩:=h.bo;let ⟨c1,h1,_⟩:=r.bo cs hc;⟨c1,h1⟩⟩
theorem Lv.same{w':ai}(h:Lv ph w)(e:∀b,ph.sh b->w'.heap[b]?=w.heap[b]?):Lv ph w':=by
 obtain⟨st,sm,h1⟩:=h.mu
 obtain⟨st2,sm2,h2⟩:=h.wg
 obtain⟨cs,h3,h4⟩:=h.bo
 exact⟨⟨st,sm,(e _ (.inl rfl)).trans h1⟩,⟨st2,sm2,(e _ (.inr (.inl rfl))).trans h2⟩,⟨cs,(e _ (.inr (.inr rfl))).trans h3,h4⟩⟩
end
section
variable(ph:Ph)
def vj:Loc->Option Nat
 |.cell a=>ab a.block
 |.obj r=>ab r
 |_=>ak
def TOk(s:Nat)(main:Bool)(WS RS:Nat->Prop)(x:Touch):Prop:=
 (∃b,vj x.loc=ab b/\(WS b\/(RS b/\x.write=aa)))\/
 (∃a,x.loc=.cell a/\a.block=ph.Bo/\s*ph.d<=a.off/\a.off<s*ph.d+ph.d)\/
 (∃a,x.loc=.cell a/\(a.block=ph.Mu\/a.block=ph.Wg)/\x.kind≠.plain/\(x.kind=.said->main=ae))
def tE(s:Nat)(main:Bool)(WS RS:Nat->Prop)(e:bT):Prop:=
 (∀x,(aP e).touch?=ab x->TOk ph s main WS RS x)/\∀a,aP e≠.mark (.release a)
end
def LG(a:jX):Prop:=a.touch?=ak/\∀m,a≠.mark m
def Wm(es:Array bT):Prop:=∀e∈es,e.loc≠.mark .disable/\e.loc≠.mark .enable
section
variable(P:aG)(ph:Ph)
structure Sil(s:Nat)(main:Bool)(WS RS:Nat->Prop)(g:aI)(aJ:ai)(ot:Nat->Prop)(g':aI)(w':ai)(es:Array bT)(acts:List jX):Prop where
 mv:Mv P main g aJ g' w' es acts
 size:aJ.heap.size<=w'.heap.size
 blk:∀b,b<aJ.heap.size->¬WS b->b≠ph.Bo->w'.heap[b]?=aJ.heap[b]?
 bo:∀cs,Am ph aJ cs->∃kT,Am ph w' kT/\∀s',s'<2->s'≠s->half ph s' kT=half ph s' cs
 os:OsLater aJ.os w'.os
 tape:w'.tape=aJ.tape
 output:w'.output=aJ.output
 ev:∀e∈es,tE ph s main ot RS e
 acts:∀a∈acts,LG a
 ws:∀b,ot b↔WS b\/(aJ.heap.size<=b/\b<w'.heap.size/\¬ph.sh b)
structure MV(ex:Nat->Prop)(g:aI)(aJ:ai)(g':aI)(w':ai)(es:Array bT):Prop where
 st:bU P aa g aJ=.go g' w' es
 size:w'.heap.size=aJ.heap.size
 blk:∀b,¬ex b->w'.heap[b]?=aJ.heap[b]?
 os:OsLater aJ.os w'.os
 tape:w'.tape=aJ.tape
 output:w'.output=aJ.output
structure Nw where
 T:Th
 k:Nat
 WS:Nat->Prop
 RS:Nat->Prop
 g:aI
 w:ai
def LB(T:Th):Th:=if T.pc=.kd then at_ .wr else T
def wy:Pc->Bool
 |.ld|.l0|.r0|.sq|.c1|.r1|.c2|.t1|.s1|.t2|.r2|.a1|.r3|.le|.la|.ur|.ud|.u0|.uc|.ux|.us|.ue=>ae
 |_=>aa
inductive Law(s:Nat)(fX:Bool)(F:(Nat->Prop)->(Nat->Prop)->ai->Prop)(x:Nw)(aJ:ai)(B:Nw->Prop):Prop
 |deep (h:x.k=0)
 |AM (ot:Nat->Prop) (g':aI) (w':ai) (es:Array bT) (acts:List jX) (h:Sil P ph s aa x.WS x.RS x.g aJ ot g' w' es acts) (hn:Wm es) (hm:x.T.mute=ae->es=#[]/\acts=[]/\w'=aJ/\ot=x.WS) (hB:B ⟨x.T,x.k,ot,x.RS,g',w'⟩)
 |mu (hp:wy x.T.pc=ae) (ho:x.g.offers=ak) (h:∀q:Sh,MuAt ph.tM ph.Mu aJ q.mu q.ms->q.fits=ae->
   (mv fX x.T q=[]->bU P aa x.g aJ=.go { x.g with status:=.blocked } aJ #[])/\
   (mv fX x.T q≠[]->∃r∈mv fX x.T q,r.1.pc≠.bad->∃g' w' es,MV P (λ b=>b=ph.Mu) x.g aJ g' w' es/\MuAt ph.tM ph.Mu w' r.2.mu r.2.ms/\mM ph.Mu ph.Wg x.T (LB r.1) es/\(x.T.pc=.us->G1 P x.g=ae)/\B ⟨LB r.1,x.k-1,x.WS,x.RS,g',w'⟩))
 |wr (hp:x.T=at_ .wr) (hF:F x.WS x.RS aJ) (g':aI) (w':ai) (es:Array bT) (h:MV P (λ _=>False) x.g aJ g' w' es) (he:mM ph.Mu ph.Wg (at_ .wr) (at_ .wk) es) (hB:B ⟨at_ .wk,x.k,x.WS,x.RS,g',w'⟩)
 |wk (hp:x.T=at_ .wk) (g':aI) (w':ai) (es:Array bT) (h:MV P (λ _=>False) x.g aJ g' w' es) (he:mM ph.Mu ph.Wg (at_ .wk) (at_ .d1) es) (hB:B ⟨at_ .d1,x.k,x.WS,x.RS,g',w'⟩)
 |d1 (hp:x.T=at_ .d1) (h:∀v wt:Nat,v<=1->wt<=1->WgAt ph.tW ph.Wg aJ (((v+1:Nat):Int)*KK+wt) 0->∃g' w' es,MV P (λ b=>b=ph.Wg) x.g aJ g' w' es/\WgAt ph.tW ph.Wg w' ((v:Int)*KK+wt) 0/\
   ((v=0/\wt=1/\mM ph.Mu ph.Wg (at_ .d1) (at_ .d2) es/\B ⟨at_ .d2,x.k,x.WS,x.RS,g',w'⟩)\/(¬(v=0/\wt=1)/\mM ph.Mu ph.Wg (at_ .d1) (at_ .quit) es/\∃q,nm P q 1 g')))
 |d2 (hp:x.T=at_ .d2) (h:WgAt ph.tW ph.Wg aJ 1 0->∃g' w' es,MV P (λ _=>False) x.g aJ g' w' es/\mM ph.Mu ph.Wg (at_ .d2) (at_ .d3) es/\B ⟨at_ .d3,x.k,x.WS,x.RS,g',w'⟩)
 |d3 (hp:x.T=at_ .d3) (h:WgAt ph.tW ph.Wg aJ 1 0->∃g' w' es,MV P (λ b=>b=ph.Wg) x.g aJ g' w' es/\WgAt ph.tW ph.Wg w' 0 0/\mM ph.Mu ph.Wg (at_ .d3) (at_ .d4) es/\B ⟨at_ .d4,x.k,x.WS,x.RS,g',w'⟩)
 |d4 (hp:x.T=at_ .d4) (h:WgAt ph.tW ph.Wg aJ 0 0->G1 P x.g=ae/\∃g' w' es,MV P (λ b=>b=ph.Wg) x.g aJ g' w' es/\WgAt ph.tW ph.Wg w' 0 1/\mM ph.Mu ph.Wg (at_ .d4) (at_ .quit) es/\∃q,nm P q 1 g')
variable(s:Nat)(fX:Bool)(F:(Nat->Prop)->(Nat->Prop)->ai->Prop)
def Nw.St(x:Nw)(b:Nat):Prop:=x.WS b\/x.RS b
def Bh:Rk->Nw->Prop
 |.nd _ f,x=>(x.k≠0->x.g.status=.running)/\∀aJ,gY ph s x.St x.w aJ->Law P ph s fX F x aJ λ y=>∃i,Bh (f i) y
def BH(x:Nw):Prop:=∃r,Bh P ph s fX F r x
end
section
variable{P:aG}{ph:Ph}{s:Nat}{fX:Bool}{F:(Nat->Prop)->(Nat->Prop)->ai->Prop}
variable{x:Nw}
theorem Law.mono{aJ:ai}{B B':Nw->Prop}(hB:∀y,B y->B' y)(h:Law P ph s fX F x aJ B):Law P ph s fX F x aJ B':=by
 cases h with
 |deep h=>exact .deep h
 |AM ot g' w' es acts h hn hm hb=>exact .AM ot g' w' es acts h hn hm (hB _ hb)
 |mu hp ho h=>
  refine .mu hp ho λ q h1 h2=>⟨(h q h1 h2).1,λ h3=>?_⟩
  obtain⟨r,hr,h4⟩:=(h q h1 h2).2 h3
  refine⟨r,hr,λ h5=>?_⟩
  obtain⟨g',w',es,a1,a2,a3,a4,a5⟩:=h4 h5
  exact⟨g',w',es,a1,a2,a3,a4,hB _ a5⟩
 |wr hp hF g' w' es h he hb=>exact .wr hp hF g' w' es h he (hB _ hb)
 |wk hp g' w' es h he hb=>exact .wk hp g' w' es h he (hB _ hb)
 |d1 hp h=>
  refine .d1 hp λ v wt h1 h2 h3=>?_
  obtain⟨g',w',es,a1,a2,a3⟩:=h v wt h1 h2 h3
  exact⟨g',w',es,a1,a2,a3.imp (λ z=>⟨z.1,z.2.1,z.2.2.1,hB _ z.2.2.2⟩) id⟩
 |d2 hp h=>
  refine .d2 hp λ h1=>?_
  obtain⟨g',w',es,a1,a2,a3⟩:=h h1
  exact⟨g',w',es,a1,a2,hB _ a3⟩
 |d3 hp h=>
  refine .d3 hp λ h1=>?_
  obtain⟨g',w',es,a1,a2,a3,a4⟩:=h h1
  exact⟨g',w',es,a1,a2,a3,hB _ a4⟩
 |d4 hp h=>exact .d4 hp h
theorem ox(h0:x.k≠0->x.g.status=.running)(h:∀aJ,gY ph s x.St x.w aJ->Law P ph s fX F x aJ (BH P ph s fX F)):BH P ph s fX F x:=by
 refine⟨.nd { y:Nw // BH P ph s fX F y } λ y=>Classical.choose y.2,?_⟩
 exact⟨h0,λ aJ hw=>(h aJ hw).mono λ y hy=>⟨⟨y,hy⟩,Classical.choose_spec hy⟩⟩
theorem yU{r:Rk}(h:Bh P ph s fX F r x):(x.k≠0->x.g.status=.running)/\∀aJ,gY ph s x.St x.w aJ->Law P ph s fX F x aJ λ y=>∃r',Rk.lt r' r/\Bh P ph s fX F r' y:=by
 cases r with
 |nd ι f=>
  refine⟨h.1,λ aJ hw=>(h.2 aJ hw).mono ?_⟩
  rintro y ⟨i,hi⟩
  exact⟨f i,Rk.zo7 f i,hi⟩
theorem WL{r:Rk}{aJ:ai}(h:Bh P ph s fX F r x)(k:gY ph s x.St x.w aJ):Bh P ph s fX F r { x with w:=aJ }:=by
 cases r with
 |nd ι f=>
  refine⟨h.1,λ ed hw=>?_⟩
  have:=h.2 ed (k.trans hw)
  cases this with
  |deep h=>exact .deep h
  |AM ot g' w' es acts h hn hm hb=>exact .AM ot g' w' es acts h hn hm hb
  |mu hp ho h=>exact .mu hp ho h
  |wr hp hF g' w' es h he hb=>exact .wr hp hF g' w' es h he hb
  |wk hp g' w' es h he hb=>exact .wk hp g' w' es h he hb
  |d1 hp h=>exact .d1 hp h
  |d2 hp h=>exact .d2 hp h
  |d3 hp h=>exact .d3 hp h
  |d4 hp h=>exact .d4 hp h
end
end Rn
namespace Rn
open Go Go.Conc Go.ConcM
def GC(c:Array aj):Array aj:=(c.toList.takeWhile vp).toArray
theorem PU(c:Array aj):(GC c).size<=c.size:=by
 unfold GC
 simpa using (Av vp (l:=c.toList)).length_le
theorem CF{c:Array aj}{i:Nat}{v:aj}(h:(GC c)[i]?=ab v):c[i]?=ab v/\vp v=ae:=by
 unfold GC at h
 simp only[List.getElem?_toArray] at h
 constructor
 ·obtain⟨u,hu⟩:=Av vp (l:=c.toList)
  have cj:=(List.getElem?_eq_some_iff.1 h).1
  have h2:(List.takeWhile vp c.toList++u)[i]?=ab v:=by rw[List.getElem?_append_left cj];exact h
  rw[hu] at h2
  simpa using h2
 ·have hm:=List.mem_of_getElem? h
  have hall:=List.all_takeWhile (p:=vp) (l:=c.toList)
  rw[List.all_eq_true] at hall
  exact hall v hm
def zqV:Obj->Obj
 |.cells c e _=>.cells (GC c) e (0,(GC c).size)
 |_=>.cells #[] 0
def VJ(w:ai):ai:={ w with heap:=w.heap.map zqV }
def wz(w:ai)(a:Nat):Prop:=∃c e f,w.heap[a]?=ab (.cells c e f)
inductive Pth(P:aG)(f0:aB)(L0:List aB)(w0:ai):aB->List aB->ai->Prop
 |nil:Pth P f0 L0 w0 f0 L0 w0
 |snoc {fr fr1:aB} {L L1:List aB} {w w1:ai} {T:Nat->dP->Nat} {d:Nat} {es:Array bT} {acts:List jX} (h:Pth P f0 L0 w0 fr L w) (hs:eG P fr L (World.on w T d)=.next fr1 L1 w1 es acts):Pth P f0 L0 w0 fr1 L1 w1
def VY(P:aG)(f0:aB)(w0:ai)(v:aj)(w1:ai):Prop:=∃fr w T d es,Pth P f0 [] w0 fr [] w/\eG P fr [] (World.on w T d)=.ret v w1 es
section
variable{N P:aG}
theorem PG.self(g:PG N P):PG N N:=⟨⟨λ _=>rfl,g.pe.none,g.pe.no,rfl,λ _=>rfl⟩,λ f fn h=>(g.fn f fn h).imp id λ z=>⟨z.1,z.2.1,h⟩,rfl,rfl⟩
variable{R:BR}
theorem ziS{S:BR}{v v':aj}(h:vp v=ae)(k:VR R v v'):VR S v v':=by
 cases k with
 |bool b=>exact .bool b
 |int k n=>exact .int k n
 |string s=>exact .string s
 |@pointer a a' ha=>cases a<;>cases a'<;>first|(cases h;done)|exact ha.elim|exact .pointer trivial
 |@slice a a' l c ha=>cases a<;>cases a'<;>first|(cases h;done)|exact ha.elim|exact .slice _ _ trivial
 |@map a a' ha=>cases a<;>cases a'<;>first|(cases h;done)|exact ha.elim|exact .map trivial
 |@chan a a' ha=>cases a<;>cases a'<;>first|(cases h;done)|exact ha.elim|exact .chan trivial
 |nilFunc=>exact .nilFunc
 |nilIface=>exact .nilIface
 |_=>cases h
theorem zhS(w:ai)(a:Nat):(VJ w).heap[a]?=(w.heap[a]?).map zqV:=by simp[VJ]
variable{w:ai}
theorem xp{a:Nat}{c:Array aj}{e:au}{f:Nat×Nat}(h:w.heap[a]?=ab (.cells c e f)):(VJ w).heap[a]?=ab (.cells (GC c) e (0,(GC c).size)):=by
 rw[zhS,h]
 rfl
theorem ziu(w:ai):(VJ w).heap.size=w.heap.size:=by simp[VJ]
theorem Wu{a:Nat}(h:wz w a):Fz (VJ w) a:=by
 obtain⟨c,e,f,h1⟩:=h
 exact⟨GC c,e,(0,(GC c).size),xp h1,λ i hi=>⟨bw _,hi⟩⟩
theorem JZ(w:ai):tG (VJ w):=by
 intro b o h
 rw[zhS] at h
 obtain⟨o1,_,rfl⟩:=aN.1 h
 unfold zqV
 split<;>trivial
theorem zrI{W:ai}(h:HR R w W):HR (λ a b l=>R a b l/\wz w a) (VJ w) W:=by
 refine⟨λ a a' b b' l m h1 h2=>⟨(h.inj a a' b b' l m h1.1 h2.1).1,λ _=>.inr ⟨Wu h1.2,Wu h2.2⟩⟩,λ a b l hr=>?_,JZ w⟩
 obtain⟨hr,c,e,f,h1⟩:=hr
 obtain⟨o,o',h3,h4,ho⟩:=h.obj a b l hr
 rw[h1] at h3
 cases h3
 refine⟨_,o',xp h1,h4,?_⟩
 cases ho with
 |cells he hs hv hf=>
  exact .cells he (bD (PU c) hs) (λ i v v' hl a b=>ziS (CF a).2 (hv i v v' hl (CF a).1 b)) (.inr λ i hi=>⟨bw _,hi⟩)
theorem HR.right{W W₁:ai}(h:HR R w W)(hb:∀a b l,R a b l->W₁.heap[b]?=W.heap[b]?):HR R w W₁:=
 ⟨h.inj,λ a b l r=>by obtain⟨o,o',h1,h2,h3⟩:=h.obj a b l r;exact⟨o,o',h1,(hb a b l r).trans h2,h3⟩,h.kinds⟩
theorem HR.on{R:BR}{w W:ai}(h:HR R w W)(T:Nat->dP->Nat)(d:Nat):HR R (World.on w T d) W:=⟨h.inj,h.obj,h.kinds⟩
theorem US(w W:ai)(n:Nat):TA n (World.on w W.tape W.drawn) W:=λ _ _ _=>rfl
def zd5(w w2:ai):Prop:=(∀(a:Nat) (o:Obj),w.heap[a]?=ab o->w2.heap[a]?=ab o)/\tG w2
theorem zd5.size{w w2:ai}(h:zd5 w w2):w.heap.size<=w2.heap.size:=by
 rcases l5 w2.heap.size w.heap.size with hl|hg
 ·have h1:=h.1 w2.heap.size _ (Array.getElem?_eq_getElem hl)
  simp at h1
 ·exact hg
variable(N P)
structure Gx(f0:aB)(w0:ai)(R0:BR)(WS:Nat->Prop)(fr:aB)(L:List aB)(w:ai)(bx:aB)(L':List aB)(W:ai)(w2:ai)(EP:aB)(L2:List aB)(AJ:ai)(S R2:BR):Prop where
 pth:Pth N f0 [] w2 EP L2 AJ
 sf:yC N S fr EP
 sl:LA N S L L2
 sh:HR S w AJ
 sp:∀a b l,S a b l->(a=b/\a<w0.heap.size/\Fz w a)\/(w0.heap.size<=a/\w2.heap.size<=b)
 rf:yC N R2 EP bx
 rl:LA N R2 L2 L'
 rh:HR R2 AJ W
 rp:∀a b l,R2 a b l->R0 a b l\/(w2.heap.size<=a/\WS b)
 r0:R0.le R2
 old:∀a,a<w2.heap.size->AJ.heap[a]?=w2.heap[a]?
 size:w2.heap.size<=AJ.heap.size
structure Gh(f0:aB)(w0:ai)(R0:BR)(WS:Nat->Prop)(fr:aB)(L:List aB)(w:ai)(bx:aB)(L':List aB)(W:ai)(R:BR):Prop where
 f:yC N R fr bx
 l:LA N R L L'
 h:HR R w W
 p:∀a b l,R a b l->(R0 a b l/\a<w0.heap.size/\Fz w a)\/(w0.heap.size<=a/\WS b)
 size:w0.heap.size<=w.heap.size
 ext:∀w2,zd5 w0 w2->∃EP L2 AJ S R2,Gx N f0 w0 R0 WS fr L w bx L' W w2 EP L2 AJ S R2
structure Gr(f0:aB)(w0:ai)(R0:BR)(WS:Nat->Prop)(v':aj)(W:ai):Prop where
 ext:∀w2,zd5 w0 w2->∃v2 AJ R2,VY N f0 w2 v2 AJ/\VR R2 v2 v'/\HR R2 AJ W/\(∀a b l,R2 a b l->R0 a b l\/(w2.heap.size<=a/\WS b))/\R0.le R2/\(∀a,a<w2.heap.size->AJ.heap[a]?=w2.heap[a]?)/\w2.heap.size<=AJ.heap.size
variable{N P}
section
variable{f0:aB}{w0:ai}{R0:BR}{WS:Nat->Prop}{fr:aB}{L:List aB}{w:ai}{bx:aB}{L':List aB}{W W₁:ai}{R:BR}
theorem Gx.rely{w2:ai}{EP:aB}{L2:List aB}{AJ:ai}{S R2:BR}(h:Gx N f0 w0 R0 WS fr L w bx L' W w2 EP L2 AJ S R2)(hb:∀b,(WS b\/∃a l,R0 a b l)->W₁.heap[b]?=W.heap[b]?):Gx N f0 w0 R0 WS fr L w bx L' W₁ w2 EP L2 AJ S R2:=
 { h with rh:=h.rh.right λ a b l r=>hb b ((h.rp a b l r).elim (λ z=>.inr ⟨a,l,z⟩) λ z=>.inl z.2) }
theorem Gh.rely(h:Gh N f0 w0 R0 WS fr L w bx L' W R)(hb:∀b,(WS b\/∃a l,R0 a b l)->W₁.heap[b]?=W.heap[b]?):Gh N f0 w0 R0 WS fr L w bx L' W₁ R:=
 ⟨h.f,h.l,h.h.right λ a b l r=>hb b ((h.p a b l r).elim (λ z=>.inr ⟨a,l,z.1⟩) λ z=>.inl z.2),h.p,h.size,λ w2 he=>by
  obtain⟨EP,L2,AJ,S,R2,k⟩:=h.ext w2 he
  exact⟨EP,L2,AJ,S,R2,k.rely hb⟩⟩
theorem Gr.rely{v':aj}(h:Gr N f0 w0 R0 WS v' W)(hb:∀b,(WS b\/∃a l,R0 a b l)->W₁.heap[b]?=W.heap[b]?):Gr N f0 w0 R0 WS v' W₁:=
 ⟨λ w2 he=>by
  obtain⟨v2,AJ,R2,k1,k2,k3,k4,k5,k6,k7⟩:=h.ext w2 he
  exact⟨v2,AJ,R2,k1,k2,k3.right λ a b l r=>hb b ((k4 a b l r).elim (λ z=>.inr ⟨a,l,z⟩) λ z=>.inl z.2),k4,k5,k6,k7⟩⟩
theorem Gr.wider{v':aj}{ot:Nat->Prop}(h:Gr N f0 w0 R0 WS v' W)(hw:∀b,WS b->ot b):Gr N f0 w0 R0 ot v' W:=
 ⟨λ w2 he=>by
  obtain⟨v2,AJ,R2,k1,k2,k3,k4,k5,k6,k7⟩:=h.ext w2 he
  exact⟨v2,AJ,R2,k1,k2,k3,λ a b l r=>(k4 a b l r).imp id λ z=>⟨z.1,hw b z.2⟩,k5,k6,k7⟩⟩
variable{w1:ai}
theorem OM{R R1:BR}{w w' wi:ai}(k:KP R w w' R1 w1 wi){a b l:Nat}(r:R a b l)(h:Fz w a):Fz w1 a:=by
 obtain⟨e1,_⟩:=k.fz a b l r h
 obtain⟨c,e,f,h1,h2⟩:=h
 exact⟨c,e,f,e1.trans h1,h2⟩
theorem pT(w:ai)(T:Nat->dP->Nat)(d:Nat):(World.on w T d).heap=w.heap:=rfl
theorem Zr{S S1:BR}{w w' wi:ai}(k:KP S w w' S1 w1 wi){n:Nat}(hp:∀a b l,S a b l->(a=b/\Fz w a)\/n<=b){a:Nat}(ha:a<n)(hn:n<=w'.heap.size):wi.heap[a]?=w'.heap[a]?:=by
 by_cases hr:∃x l,S x a l
 ·obtain⟨x,l,r⟩:=hr
  rcases hp x a l r with⟨rfl,hf⟩|hg
  ·exact(k.fz _ _ _ r hf).2
  ·omega
 ·exact k.rest a (by omega) λ x l r=>hr ⟨x,l,r⟩
theorem Gh.step(g:PG N P)(gp:GP N)(h:Gh N f0 w0 R0 WS fr L w bx L' W R){fr1:aB}{L1:List aB}{es:Array bT}{acts:List jX}(hs:eG N fr L (World.on w W.tape W.drawn)=.next fr1 L1 w1 es acts):
  ∃AO Yc W' es' xi R',eG P bx L' W=.next AO Yc W' es' xi/\KP R (World.on w W.tape W.drawn) W R' w1 W'/\(∀e∈es',Sx R (World.on w W.tape W.drawn) R' e)/\(∀a∈xi,zf4 R' a)/\
   Gh N f0 w0 R0 (λ b=>WS b\/(W.heap.size<=b/\b<W'.heap.size)) fr1 L1 w1 AO Yc W' R':=by
 have s1:=sim g gp h.f h.l (h.h.on W.tape W.drawn) (US w W)
 rw[hs] at s1
 obtain⟨AO,Yc,W',es',xi,R',e1,k1,k2,k3,k4,k5,k6⟩:=s1
 have hsz:w.heap.size<=w1.heap.size:=k4.size
 refine⟨AO,Yc,W',es',xi,R',e1,k4,k5,k6,⟨k1,k2,k3,λ a b l r=>?_,bD h.size hsz,λ w2 he=>?_⟩⟩
 ·rcases k4.new a b l r with r|⟨k,h1,h2,h3⟩
  ·rcases h.p a b l r with⟨z1,z2,z3⟩|⟨z1,z2⟩
   ·exact .inl ⟨z1,z2,OM k4 r z3⟩
   ·exact .inr ⟨z1,.inl z2⟩
  ·have h1':a=w.heap.size+k:=h1
   have hk:=k4.DS
   have hl:W.heap.size+(w1.heap.size-(World.on w W.tape W.drawn).heap.size)=W'.heap.size:=hk.symm
   rw[pT] at hl h1
   have:=h.size
   exact .inr ⟨by omega,.inr ⟨by omega,by omega⟩⟩
 ·obtain⟨EP,L2,AJ,S,R2,q⟩:=h.ext w2 he
  have hq:HR S (World.on w W.tape W.drawn) (World.on AJ W.tape W.drawn):=⟨q.sh.inj,q.sh.obj,q.sh.kinds⟩
  have s2:=sim g.self gp q.sf q.sl hq (λ n j q hj=>rfl)
  rw[hs] at s2
  obtain⟨zyU,L21,w21,es2,zoH,S1,e2,m1,m2,m3,m4,m5,m6⟩:=s2
  have s3:=sim g gp q.rf q.rl (q.rh.on W.tape W.drawn) (US AJ W)
  rw[e2] at s3
  obtain⟨fx,Lx,Wx,ex,ax,R21,e3,n1,n2,n3,n4,n5,n6⟩:=s3
  rw[e1] at e3
  simp only[LR.next.injEq] at e3
  obtain⟨rfl,rfl,rfl,_,_⟩:=e3
  have OE:AJ.heap.size<=w21.heap.size:=n4.size
  refine⟨zyU,L21,w21,S1,R21,⟨.snoc q.pth e2,m1,m2,m3,λ a b l r=>?_,n1,n2,n3,λ a b l r=>?_,BR.le_trans q.r0 n4.le,λ a ha=>?_,bD q.size OE⟩⟩
  ·rcases m4.new a b l r with r|⟨k,h1,h2,h3⟩
   ·rcases q.sp a b l r with⟨z1,z2,z3⟩|z
    ·exact .inl ⟨z1,z2,OM m4 r z3⟩
    ·exact .inr z
   ·rw[pT] at h1 h2
    have:=h.size
    have:=q.size
    exact .inr ⟨by omega,by omega⟩
  ·rcases n4.new a b l r with r|⟨k,h1,h2,h3⟩
   ·exact(q.rp a b l r).imp id λ z=>⟨z.1,.inl z.2⟩
   ·rw[pT] at h1
    have hk:=n4.DS
    rw[pT] at hk
    have:=q.size
    exact .inr ⟨by omega,.inr ⟨by omega,by omega⟩⟩
  ·have:=Zr m4 (n:=w2.heap.size) (λ a b l r=>(q.sp a b l r).imp (λ z=>⟨z.1,z.2.2⟩) λ z=>z.2) ha (by rw[pT];exact q.size)
   rw[pT] at this
   rw[this,q.old a ha]
theorem Gh.ret(g:PG N P)(gp:GP N)(h:Gh N f0 w0 R0 WS fr L w bx L' W R){v:aj}{w1:ai}{es:Array bT}(hs:eG N fr L (World.on w W.tape W.drawn)=.ret v w1 es):
  ∃v' W' es' R',eG P bx L' W=.ret v' W' es'/\VR R' v v'/\KP R (World.on w W.tape W.drawn) W R' w1 W'/\(∀e∈es',Sx R (World.on w W.tape W.drawn) R' e)/\
   (∀a b l,R' a b l->(R0 a b l/\a<w0.heap.size/\Fz w1 a)\/(w0.heap.size<=a/\(WS b\/(W.heap.size<=b/\b<W'.heap.size))))/\
   Gr N f0 w0 R0 (λ b=>WS b\/(W.heap.size<=b/\b<W'.heap.size)) v' W':=by
 have s1:=sim g gp h.f h.l (h.h.on W.tape W.drawn) (US w W)
 rw[hs] at s1
 obtain⟨v',W',es',R',e1,k1,k3,k4,k5⟩:=s1
 have hsz:w.heap.size<=w1.heap.size:=k4.size
 refine⟨v',W',es',R',e1,k1,k4,k5,λ a b l r=>?_,⟨λ w2 he=>?_⟩⟩
 ·rcases k4.new a b l r with r|⟨k,h1,h2,h3⟩
  ·rcases h.p a b l r with⟨z1,z2,z3⟩|⟨z1,z2⟩
   ·exact .inl ⟨z1,z2,OM k4 r z3⟩
   ·exact .inr ⟨z1,.inl z2⟩
  ·have hk:=k4.DS
   rw[pT] at hk h1
   have:=h.size
   exact .inr ⟨by omega,.inr ⟨by omega,by omega⟩⟩
 ·obtain⟨EP,L2,AJ,S,R2,q⟩:=h.ext w2 he
  have hq:HR S (World.on w W.tape W.drawn) (World.on AJ W.tape W.drawn):=⟨q.sh.inj,q.sh.obj,q.sh.kinds⟩
  have s2:=sim g.self gp q.sf q.sl hq (λ n j q hj=>rfl)
  rw[hs] at s2
  obtain⟨v2,w21,es2,S1,e2,m1,m3,m4,m5⟩:=s2
  have s3:=sim g gp q.rf q.rl (q.rh.on W.tape W.drawn) (US AJ W)
  rw[e2] at s3
  obtain⟨vx,Wx,ex,R21,e3,n1,n3,n4,n5⟩:=s3
  rw[e1] at e3
  simp only[LR.ret.injEq] at e3
  obtain⟨rfl,rfl,_⟩:=e3
  have OE:AJ.heap.size<=w21.heap.size:=n4.size
  have hL2:L2=[]:=by
   have d:=zaL (P:=N) (main:=ae) (fr:=EP) (L:=L2) (w:=World.on AJ W.tape W.drawn) q.rf.norm q.rf.round
   rw[e2] at d
   exact d.1
  subst hL2
  refine⟨v2,w21,R21,⟨EP,AJ,_,_,_,q.pth,e2⟩,n1,n3,λ a b l r=>?_,BR.le_trans q.r0 n4.le,λ a ha=>?_,bD q.size OE⟩
  ·rcases n4.new a b l r with r|⟨k,h1,h2,h3⟩
   ·exact(q.rp a b l r).imp id λ z=>⟨z.1,.inl z.2⟩
   ·rw[pT] at h1
    have hk:=n4.DS
    rw[pT] at hk
    have:=q.size
    exact .inr ⟨by omega,.inr ⟨by omega,by omega⟩⟩
  ·have:=Zr m4 (n:=w2.heap.size) (λ a b l r=>(q.sp a b l r).imp (λ z=>⟨z.1,z.2.2⟩) λ z=>z.2) ha (by rw[pT];exact q.size)
   rw[pT] at this
   rw[this,q.old a ha]
end
end
open Go.ConcR (KK WgAt stA smA rd wr mk)
section
variable{N P:aG}{ph:Ph}{s:Nat}{fX:Bool}{F:(Nat->Prop)->(Nat->Prop)->ai->Prop}
variable{R:BR}
theorem xm{a:jX}(h:zf4 R a):LG a:=by
 obtain⟨b,r,l,_,k,h⟩:=h
 rcases h with rfl|rfl|⟨cap,rfl⟩|rfl|rfl<;>exact⟨rfl,λ m e=>by cases e⟩
variable{R':BR}{w:ai}
theorem zmX{e:bT}{WS RS:Nat->Prop}(h:Sx R w R' e)(hp:∀a b l,R' a b l->(R a b l/\Fz w a/\RS b)\/WS b):tE ph s aa WS RS e:=by
 obtain⟨loc,wr,sy⟩:=e
 have key:∀b,(∃a l,R' a b l/\(wr=ae->¬∃a' m,R a a' m/\Fz w a))->WS b\/(RS b/\wr=aa):=by
  rintro b ⟨a,l,hr,hw⟩
  rcases hp a b l hr with⟨h1,h2,h3⟩|h
  ·refine .inr ⟨h3,?_⟩
   cases wr with
   |false=>rfl
   |true=>exact absurd ⟨b,l,h1,h2⟩ (hw rfl)
  ·exact .inl h
 cases loc with
 |cell a=>
  refine⟨λ x hx=>?_,λ ad hh=>by cases hh⟩
  simp only[aP,cB,aF] at hx
  subst hx
  exact .inl ⟨a.block,rfl,key _ h⟩
 |obj r=>
  by_cases hc:wr=ae/\sy=ae
  ·obtain⟨rfl,rfl⟩:=hc
   exact⟨λ x hx=>(by cases hx),λ ad hh=>(by cases hh)⟩
  ·have e:aP ⟨.obj r,wr,sy⟩=.access ⟨.obj r,wr,sy⟩:=by cases wr<;>cases sy<;>first|rfl|exact absurd ⟨rfl,rfl⟩ hc
   refine⟨λ x hx=>?_,λ ad hh=>by rw[e] at hh;cases hh⟩
   rw[e] at hx
   simp only[cB,aF] at hx
   subst hx
   exact .inl ⟨r,rfl,key _ h⟩
 |mark m=>
  cases m<;>first
   |(cases h;done)
   |exact⟨λ x hx=>by simp[aP,cB] at hx,λ ad hh=>by simp[aP] at hh⟩
 |output=>exact h.elim
 |goroutines=>exact h.elim
theorem Ve{es:Array bT}(h:∀e∈es,Sx R w R' e):Wm es:=by
 intro e he
 have:=h e he
 obtain⟨loc,wr,sy⟩:=e
 cases loc with
 |mark m=>cases m<;>first|(cases this;done)|exact⟨by simp,by simp⟩
 |_=>exact⟨by simp,by simp⟩
variable{f0:aB}{w0:ai}{R0:BR}
theorem Vp{WS RS:Nat->Prop}{W w1 W':ai}{g g':aI}{es:Array bT}{acts:List jX}(hp:∀a b l,R a b l->(R0 a b l/\a<w0.heap.size/\Fz w a)\/(w0.heap.size<=a/\WS b))(hR:∀b,(∃a l,R0 a b l)->RS b)
  (k:KP R (World.on w W.tape W.drawn) W R' w1 W') (he:∀e∈es,Sx R (World.on w W.tape W.drawn) R' e) (ha:∀a∈acts,LG a) (hl:Lv ph W) (O3:∀b,ph.sh b->¬WS b) (mv:Mv P aa g W g' W' es acts):
  Sil P ph s aa WS RS g W (λ b=>WS b\/(W.heap.size<=b/\b<W'.heap.size)) g' W' es acts/\(∀b,b<W.heap.size->¬WS b->W'.heap[b]?=W.heap[b]?):=by
 have blk:∀b,b<W.heap.size->¬WS b->W'.heap[b]?=W.heap[b]?:=by
  intro b hb hn
  by_cases hr:∃a l,R a b l
  ·obtain⟨a,l,r⟩:=hr
   rcases hp a b l r with⟨_,_,z⟩|⟨_,z⟩
   ·exact(k.fz _ _ _ r z).2
   ·exact absurd z hn
  ·exact k.rest b hb λ a l r=>hr ⟨a,l,r⟩
 have hsz:W.heap.size<=W'.heap.size:=by have:=k.DS;omega
 refine⟨⟨mv,hsz,λ b h1 h2 _=>blk b h1 h2,λ cs hc=>⟨cs,⟨(blk _ (hl.lt (.inr (.inr rfl))) (O3 _ (.inr (.inr rfl)))).trans hc.1,hc.2⟩,λ _ _ _=>rfl⟩,by rw[k.os];exact .refl _,k.tape,k.output,λ e h=>?_,ha,λ b=>?_⟩,blk⟩
 ·refine zmX (he e h) λ a b l r=>?_
  rcases k.new a b l r with r|⟨j,h1,h2,h3⟩
  ·rcases hp a b l r with⟨z1,_,z3⟩|⟨_,z⟩
   ·exact .inl ⟨r,z3,hR b ⟨a,l,z1⟩⟩
   ·exact .inr (.inl z)
  ·have hk:=k.DS
   exact .inr (.inr ⟨by omega,by omega⟩)
 ·constructor
  ·rintro (h|⟨h1,h2⟩)
   ·exact .inl h
   ·exact .inr ⟨h1,h2,λ hb=>by have:=hl.lt hb;omega⟩
  ·rintro (h|⟨h1,h2,_⟩)
   ·exact .inl h
   ·exact .inr ⟨h1,h2⟩
theorem zic(g:PG N P)(gp:GP N){Fin:aj->ai->Prop}{fr:aB}{L:List aB}(h:Tree N (λ _ _ _=>False) Fin fr L w):
  ∀{bx:aB} {L':List aB} {W:ai} {R:BR} {WS RS:Nat->Prop} {k:Nat} {c:aB} {cs:List aB} (_:Gh N f0 w0 R0 WS fr L w bx L' W R) (_:∀b,(∃a l,R0 a b l)->RS b) (_:Lv ph W) (_:∀b,ph.sh b->¬WS b)
   (_:∀v w1 v' ot W' R',Fin v w1->VR R' v v'->(∀b,WS b->ot b)->(∀b,ph.sh b->¬ot b)->Lv ph W'->(∀b,RS b->b<W.heap.size->¬WS b->W'.heap[b]?=W.heap[b]?)->Gr N f0 w0 R0 ot v' W'->BH P ph s fX F ⟨at_ .ld,k,ot,RS,G (c.finish v') cs,W'⟩),
   BH P ph s fX F ⟨at_ .ld,k,WS,RS,G bx (L'++c::cs),W⟩:=by
 induction h with
 |@ask fr L w S h _ _=>exact h.elim
 |@mk fr L w ok nx ih=>
  intro bx L' W R WS RS k c cs hG hR hl O3 hK
  refine ox (λ _=>rfl) λ aJ hw=>?_
  have hG1:=hG.rely (W₁:=aJ) λ b hb=>hw.blk b (hb.elim .inl λ z=>.inr (hR b z))
  have OD:=hl.rely hw
  rcases ok aJ.tape aJ.drawn with⟨v,w1,es,hs,hf⟩|⟨fr1,L1,w1,es,acts,hs⟩
  ·obtain⟨v',W',es',R',e1,k1,k2,k3,k4,k5⟩:=hG1.ret g gp hs
   have hd:=zaL (P:=P) (main:=aa) (fr:=bx) (L:=L') (w:=aJ) hG1.f.zP hG1.f.tO
   rw[e1] at hd
   obtain⟨rfl,_,_,_,dz⟩:=hd
   have mv:Mv P aa (G bx (c::cs)) aJ (G (c.finish v') cs) W' es' []:=.inl ⟨rfl,dz c cs⟩
   obtain⟨q1,q2⟩:=Vp (s:=s) (RS:=RS) hG1.p hR k2 k3 (by simp) OD O3 mv
   refine .AM _ _ _ _ _ q1 (Ve k3) (λ hm=>by cases hm) (hK v w1 v' _ W' R' hf k1 (λ b hb=>.inl hb) (λ b hb hn=>?_) (OD.same λ b hb=>q2 b (OD.lt hb) (O3 b hb)) (λ b h1 h2 h3=>(q2 b (aY h2 hw.size) h3).trans (hw.blk b (.inr h1))) k5)
   rcases hn with hn|⟨h1,_⟩
   ·exact O3 b hb hn
   ·have:=OD.lt hb;omega
  ·obtain⟨AO,Yc,W',es',xi,R',e1,k2,k3,k4,k5⟩:=hG1.step g gp hs
   have hd:=zaL (P:=P) (main:=aa) (fr:=bx) (L:=L') (w:=aJ) hG1.f.zP hG1.f.tO
   rw[e1] at hd
   have mv:=Qr (cs:=c::cs) hd
   obtain⟨q1,q2⟩:=Vp (s:=s) (RS:=RS) hG1.p hR k2 k3 (λ a ha=>xm (k4 a ha)) OD O3 mv
   have zzu:∀b,ph.sh b->¬(WS b\/(aJ.heap.size<=b/\b<W'.heap.size)):=by
    rintro b hb (hn|⟨h1,_⟩)
    ·exact O3 b hb hn
    ·have:=OD.lt hb;omega
   exact .AM _ _ _ _ _ q1 (Ve k3) (λ hm=>by cases hm) (ih _ _ _ _ _ _ _ hs k5 hR (OD.same λ b hb=>q2 b (OD.lt hb) (O3 b hb)) zzu
    λ v w1 v' WS2 W2 R2 z1 z2 z3 z4 z5 z7 z6=>hK v w1 v' WS2 W2 R2 z1 z2 (λ b hb=>z3 b (.inl hb)) z4 z5 (λ b h1 h2 h3=>by
     have h4:=aY h2 hw.size
     rw[z7 b h1 (aY h4 q1.size) (λ h5=>h5.elim h3 λ h6=>by omega),q2 b h4 h3]
     exact hw.blk b (.inr h1)) z6)
end
end Rn
namespace Rn
open Go Go.Conc
instance:Go.ConcR.Payload:=⟨3⟩
abbrev aD:Go.Conc.Lib.WgLink:={ add:=66,done:=68,wait:=71,relMerge:=108,disable:=109,enable:=110,inBubble:=111,associate:=112,fatal:=113,uOr:=114,uAdd:=115,raceRead:=116,uLoad:=117,uStore:=118,disassociate:=119,semrelease:=120,acquire:=123,isAssociated:=124,uCas:=125,raceWrite:=126,semacquire:=127,orU64:=184,addU64:=185,loadU64:=186,storeU64:=187,casU64:=192,tWgP:=152,tUP:=154,tAssoc:=156,tWg:=115,tAU:=112,tU64:=110,tUint:=160,tU32:=113,tPU32:=161,tPAU:=234,tPU64:=236,tNoCopy:=107,tANoCopy:=108,tAlign64:=109 }
theorem cC:Go.Conc.Lib.WgLib an aD:=
 ⟨kH,rY,Tryz.func71,Tryz.func108,Tryz.func109,Tryz.func110,Tryz.func111,Tryz.func112,Tryz.func113,Tryz.func114,kL,Tryz.func116,iN,Tryz.func118,Tryz.func119,Tryz.func120,Tryz.func123,Tryz.func124,Tryz.func125,Tryz.func126,Tryz.func127,Tryz.func184,Tryz.func185,Tryz.func186,Tryz.func187,Tryz.func192,Tryz.underlying152,Tryz.runUnderlying152,Tryz.sizeOf152,Tryz.isAgg152,Tryz.zeroValue152,Tryz.underlying154,Tryz.runUnderlying154,Tryz.sizeOf154,Tryz.isAgg154,Tryz.zeroValue154,Tryz.underlying156,Tryz.runUnderlying156,Tryz.sizeOf156,Tryz.isAgg156,Tryz.zeroValue156,Tryz.underlying115,Tryz.runUnderlying115,Tryz.sizeOf115,Tryz.isAgg115,Tryz.zeroValue115,Tryz.underlying112,Tryz.runUnderlying112,Tryz.sizeOf112,Tryz.isAgg112,Tryz.zeroValue112,Tryz.underlying110,Tryz.runUnderlying110,Tryz.sizeOf110,Tryz.isAgg110,Tryz.zeroValue110,Tryz.underlying160,Tryz.runUnderlying160,Tryz.sizeOf160,Tryz.isAgg160,Tryz.zeroValue160,Tryz.underlying113,Tryz.runUnderlying113,Tryz.sizeOf113,Tryz.isAgg113,Tryz.zeroValue113,Tryz.underlying161,Tryz.runUnderlying161,Tryz.sizeOf161,Tryz.isAgg161,Tryz.zeroValue161,Tryz.underlying234,Tryz.runUnderlying234,Tryz.sizeOf234,Tryz.isAgg234,Tryz.zeroValue234,Tryz.underlying236,Tryz.runUnderlying236,Tryz.sizeOf236,Tryz.isAgg236,Tryz.zeroValue236,Tryz.underlying0,Tryz.runUnderlying0,Tryz.sizeOf0,Tryz.isAgg0,Tryz.zeroValue0,Tryz.underlying3,Tryz.runUnderlying3,Tryz.sizeOf3,Tryz.isAgg3,Tryz.zeroValue3,Tryz.underlying4,Tryz.runUnderlying4,Tryz.sizeOf4,Tryz.isAgg4,Tryz.zeroValue4,Tryz.underlying9,Tryz.runUnderlying9,Tryz.sizeOf9,Tryz.isAgg9,Tryz.zeroValue9,Tryz.underlying20,Tryz.runUnderlying20,Tryz.sizeOf20,Tryz.isAgg20,Tryz.zeroValue20,Tryz.underlying21,Tryz.runUnderlying21,Tryz.sizeOf21,Tryz.isAgg21,Tryz.zeroValue21,gK,gK⟩
theorem zng:(Tryz.f69.name == "runtime.NumGoroutine")=aa:=by kernel_rfl
theorem zeU:(Tryz.f70.name == "runtime.NumGoroutine")=aa:=by kernel_rfl
theorem ziZ:(Tryz.f121.name == "runtime.NumGoroutine")=aa:=by kernel_rfl
theorem zbM:(Tryz.f122.name == "runtime.NumGoroutine")=aa:=by kernel_rfl
theorem Z5:(qJ.name == "runtime.NumGoroutine")=aa:=by kernel_rfl
theorem Ua:(Tryz.f191.name == "runtime.NumGoroutine")=aa:=by kernel_rfl
theorem zvT:(Tryz.f17.name == "runtime.NumGoroutine")=aa:=by kernel_rfl
theorem mF:(Tryz.f188.name == "runtime.NumGoroutine")=aa:=by kernel_rfl
theorem mD:Tryz.f188.body.isNone=ae:=by kernel_rfl
theorem mG:jo Tryz.f188=ak:=by kernel_rfl
theorem mE:nH Tryz.f188=ab (Extern.Atomic.casT (.int .i32)):=by kernel_rfl
theorem VF:(Tryz.f190.name == "runtime.NumGoroutine")=aa:=by kernel_rfl
theorem VD:Tryz.f190.body.isNone=ae:=by kernel_rfl
theorem VG:jo Tryz.f190=ak:=by kernel_rfl
theorem VE:nH Tryz.f190=ab (Extern.Atomic.update (Op.intArith .add) .i32 ae):=by kernel_rfl
theorem Bw:(Tryz.f229.name == "runtime.NumGoroutine")=aa:=by kernel_rfl
theorem Bu:Tryz.f229.body.isNone=ae:=by kernel_rfl
theorem Bx:jo Tryz.f229=ak:=by kernel_rfl
theorem Bv:nH Tryz.f229=ab (Extern.Sync.canSpin):=by kernel_rfl
theorem xz:(Tryz.f232.name == "runtime.NumGoroutine")=aa:=by kernel_rfl
theorem xx:Tryz.f232.body.isNone=ae:=by kernel_rfl
theorem xB:jo Tryz.f232=ak:=by kernel_rfl
theorem xy:nH Tryz.f232=ab (Extern.OsHooks.nano):=by kernel_rfl
theorem C2:(Tryz.f233.name == "runtime.NumGoroutine")=aa:=by kernel_rfl
theorem CZ:Tryz.f233.body.isNone=ae:=by kernel_rfl
theorem C3:jo Tryz.f233=ak:=by kernel_rfl
theorem C1:nH Tryz.f233=ab (Extern.Sync.semacquire):=by kernel_rfl
theorem zfo:(Tryz.f235.name == "runtime.NumGoroutine")=aa:=by kernel_rfl
theorem VH:Tryz.f235.body.isNone=ae:=by kernel_rfl
theorem zfp:jo Tryz.f235=ak:=by kernel_rfl
theorem zfn:nH Tryz.f235=ab (Extern.Sync.semrelease):=by kernel_rfl
theorem zcm:(Tryz.f230.name == "runtime.NumGoroutine")=aa:=by kernel_rfl
theorem zck:Tryz.f230.body.isNone=ae:=by kernel_rfl
theorem zcn:jo Tryz.f230=ak:=by kernel_rfl
theorem zcl:nH Tryz.f230=ab (λ _=>pure (.tuple #[])):=by kernel_rfl
theorem xA:Tryz.f232.norace=ae:=by kernel_rfl
theorem YQ:an.underlying 239=ab (.pointer 117):=by kernel_rfl
theorem zgX:(an.info? 117).map (λ i=>decide (i.size=0))=ab aa:=by kernel_rfl
theorem zeZ:(an.funcs[(Go.Conc.base 122).fn]?).any (·.norace)=ae:=by kernel_rfl
theorem nG:(an.funcs[(Go.Conc.base 189).fn]?).any (·.norace)=ae:=by kernel_rfl
end Rn
namespace Rn
open Go Go.Conc Go.ConcN Go.ConcM Go.RowKit Go.Conc.Lib Go.ConcR.Gen
open Go.ConcR (KK WgAt stA smA rd wr mk DC0)
structure KX(ph:Ph)(s:Nat)(St:Nat->Prop)(w0 w:ai):Prop where
 ok:ph.Ok
 st:∀b,St b->¬ph.sh b
 r:gY ph s St w0 w
 l:Lv ph w
structure ShX(ph:Ph)(w:ai)(q:Sh):Prop where
 at_:MuAt ph.tM ph.Mu w q.mu q.ms
structure dZ(ph:Ph)(w w':ai):Prop where
 tape:w'.tape=w.tape
 output:w'.output=w.output
 size:w'.heap.size=w.heap.size
 os:OsLater w.os w'.os
 block:∀b,b≠ph.Mu->w'.heap[b]?=w.heap[b]?
section
variable{ph:Ph}{s:Nat}{St:Nat->Prop}{w0 w aJ w':ai}{q:Sh}
theorem KX.rely(h:KX ph s St w0 w)(r:gY ph s St w aJ):KX ph s St w0 aJ:=⟨h.ok,h.st,h.r.trans r,h.l.rely r⟩
theorem KX.mu(h:KX ph s St w0 w):∃v:aj,w.cell? ⟨ph.Mu,0,ak⟩=ab v:=let ⟨_,_,x⟩:=h.l.mu;⟨_,x.cellSt⟩
theorem KX.muI(h:KX ph s St w0 w):∃v:Int,w.cell? ⟨ph.Mu,0,ak⟩=ab (.int .i32 v):=let ⟨_,_,x⟩:=h.l.mu;⟨_,x.cellSt⟩
theorem KX.wg(h:KX ph s St w0 w):∃v:aj,w.cell? ⟨ph.Wg,0,ak⟩=ab v:=let ⟨_,_,x⟩:=h.l.wg;⟨_,x.cellSt⟩
theorem KX.ws(h:KX ph s St w0 w):∃v:aj,w.cell? ⟨ph.Wg,1,ak⟩=ab v:=let ⟨_,_,x⟩:=h.l.wg;⟨_,x.cellSm⟩
theorem dZ.refl(w:ai):dZ ph w w:=⟨rfl,rfl,rfl,.refl _,λ _ _=>rfl⟩
theorem dZ.set(a:cr)(v:aj)(h:a.block=ph.Mu\/False):dZ ph w (w.setCell a v):=
 have A:=wO w a v
 ⟨A.tape,A.output,A.size,by rw[A.os];exact .refl _,λ k h1=>A.block k (by rw[h.resolve_right id];exact h1)⟩
theorem dZ.later(w:ai):dZ ph w w.later:=⟨rfl,rfl,rfl,⟨w.tick,rfl⟩,λ _ _=>rfl⟩
theorem dZ.asked(w:ai):dZ ph w w.asked:=⟨rfl,rfl,rfl,.refl _,λ _ _=>rfl⟩
theorem ShX.later(h:ShX ph w q):ShX ph w.later q:=⟨h.1⟩
theorem ShX.asked(h:ShX ph w q):ShX ph w.asked q:=⟨h.1⟩
theorem ShX.setMu(h:ShX ph w q)(v:Int):ShX ph (w.setCell (muA ph.Mu) (.int .i32 v)) { q with mu:=v }:=⟨h.1.setSt v⟩
theorem ShX.setMs(h:ShX ph w q)(v:Int):ShX ph (w.setCell (msA ph.Mu) (.int .u32 v)) { q with ms:=v }:=⟨h.1.setSm v⟩
theorem zjk(ok:ph.Ok)(st:∀b,St b->¬ph.sh b)(e:dZ ph w w')(h:ShX ph w' q):gY ph s St w w':=
 ⟨dh e.size.symm,λ b hb=>e.block b λ hh=>st b hb (.inl hh),λ _=>⟨_,_,h.1⟩,λ⟨a,b,x⟩=>⟨a,b,(e.block _ λ hh=>ok.mw hh.symm).trans x⟩,λ cs x=>⟨cs,⟨(e.block _ λ hh=>ok.mb hh.symm).trans x.1,x.2⟩,rfl⟩⟩
theorem KX.Uw(h:KX ph s St w0 w)(e:dZ ph w w')(hs:ShX ph w' q):KX ph s St w0 w':=h.rely (zjk h.ok h.st e hs)
end
def we(lk:Bool)(p:Pc):Bool:=if lk then p == .ur else p == .kd || p == .wr
def AtX(P:aG)(ph:Ph)(s:Nat)(St:Nat->Prop)(fX lk:Bool)(Fi:Nat->aI->ai->Prop):Nat->Th->aI->ai->Prop
 |0,_,_,_=>True
 |k+1,T,g,w=>(we lk T.pc=ae->Fi (k+1) g w)/\(we lk T.pc=aa->g.status=.running/\g.offers=ak/\∀q:Sh,ShX ph w q->q.fits=ae->
   (mv fX T q=[]->bU P aa g w=.go { g with status:=.blocked } w #[])/\
   (mv fX T q≠[]->∃r∈mv fX T q,r.1.pc≠.bad->∃g' w' es,bU P aa g w=.go g' w' es/\ShX ph w' r.2/\dZ ph w w'/\mM ph.Mu ph.Wg T r.1 es/\(T.pc=.us->G1 P g=ae)/\∃m,Goes P aa (gY ph s St) DC0 (AtX P ph s St fX lk Fi k r.1) m g' w'))
abbrev GX(ph:Ph)(s:Nat)(St:Nat->Prop)(fX lk:Bool)(Fi:Nat->aI->ai->Prop)(T:Th)(k m:Nat)(g:aI)(w:ai):Prop:=
 Goes an aa (gY ph s St) DC0 (AtX an ph s St fX lk Fi k T) m g w
section
variable{main:Bool}{b:aB}{a:Act}{kk:List Item}{cs:List aB}{w:ai}{ops:Array Oper}{i:Nat}{rest:List Nat}{o:Oper}
theorem kI{x:Operand}(ho:ops[i]?=ab o)(hw:Region.wanted o (yielded ops a.tmps)=ae)(hk:b.kind≠.early)(cM:o.op=.load 21 x)
  {ad:cr} {v:Int} (hx:a.eval x=.pointer (ab ad)) (hc:w.cell? ad=ab (.int .i32 v)) (hq:(an.funcs[b.fn]?).any (·.norace)=ae):
  bU an main (G (b.at a (.inRegion ops (i::rest)::kk)) cs) w=.go (G (b.at (a.put o.dst (.int .i32 v)) (.inRegion ops rest::kk)) cs) w #[]:=by
 have hr:(bd a.eval o).run an w=.ok (.value (.int .i32 v)) w:=by
  unfold bd
  simp only[cM,hx]
  simp[go_sem,hc]
 have he:(bd a.eval o).events an w #[]=#[⟨.cell ad,aa,aa⟩]:=by
  unfold bd
  simp only[cM,hx]
  simp[go_sem,hc]
 rw[stepG_value ho hw hk hr]
 unfold listed
 rw[he,seen_def,hq]
 simp[seenStep]
end
theorem zis{s:Sh}(h:s.fits=ae):(s.mu=0\/s.mu=1\/s.mu=2\/s.mu=8\/s.mu=9)/\(s.ms=0\/s.ms=1):=by
 simp only[Sh.fits,Bool.and_eq_true,Bool.or_eq_true,beq_iff_eq] at h
 obtain⟨⟨⟨h1,h2⟩,_⟩,_⟩:=h
 exact⟨by rcases h1 with(((h|h)|h)|h)|h<;>simp[h],h2⟩
theorem Zj(T:Th)(h:(hd T).pc≠.bad):
  (T.old=0/\T.aw=aa/\T.sv=aa/\hd T={ T with pc:=.c2,nw:=1 })\/(T.old=1/\T.aw=aa/\T.sv=aa/\T.ws=aa/\hd T={ T with pc:=.sq,nw:=0 })\/(T.old=2/\T.aw=ae/\hd T={ T with pc:=.c2,nw:=1 }):=by
 unfold hd at h ⊢
 split
 ·rename_i c;exact .inl ⟨c.1,c.2.1,c.2.2,rfl⟩
 ·split
  ·rename_i c;exact .inr (.inl ⟨c.1,c.2.1,c.2.2.1,c.2.2.2,rfl⟩)
  ·split
   ·rename_i c;exact .inr (.inr ⟨c.1,c.2,rfl⟩)
   ·rename_i c1 c2 c3;simp[c1,c2,c3] at h
theorem sT(T:Th)(h:(hd T).pc≠.bad):(hd T).pc≠.quit/\(hd T).deaf=1:=by
 rcases Zj T h with⟨_,_,_,e⟩|⟨_,_,_,_,e⟩|⟨_,_,e⟩<;>rw[e]<;>simp[cH]
def rT:gZ->Option gZ
 |.loop c=>ab c
 |.seq x y=>match rT x with|some c=>ab c|none=>rT y
 |.block _ c=>rT c
 |_=>ak
def pC:gZ->Option gZ
 |.seq (.block _ _) r=>ab r
 |.seq _ y=>pC y
 |_=>ak
noncomputable def AY:gZ:=qJ.body.getD .skip
noncomputable def LLS:gZ:=(rT AY).getD .skip
noncomputable def Pq:gZ:=(pC AY).getD .skip
noncomputable def zhH:gZ:=Tryz.f69.body.getD .skip
noncomputable def zhI:gZ:=Tryz.f70.body.getD .skip
end Rn
namespace Rn
open Go Go.Conc Go.ConcM
open Go.ConcR (KK WgAt stA smA rd wr mk DC0)
def zej:Pc->Bool
 |.ld|.l0|.r0|.sq|.c1|.r1|.c2|.t1|.s1|.t2|.r2|.a1|.r3|.le|.la=>ae
 |_=>aa
def zgd:Pc->Bool
 |.ur|.ud|.u0|.uc|.ux|.us|.ue=>ae
 |_=>aa
theorem zvC(T:Th):(hd T).pc=.c2\/(hd T).pc=.sq\/(hd T).pc=.bad:=by
 unfold hd
 split
 ·exact .inl rfl
 ·split
  ·exact .inr (.inl rfl)
  ·split
   ·exact .inl rfl
   ·exact .inr (.inr rfl)
theorem WY{fX:Bool}{T:Th}{q:Sh}{r:Th×Sh}(h:r∈mv fX T q)(hb:r.1.pc≠.bad):
  (zej T.pc=ae->zej r.1.pc=ae\/r.1=at_ .ur)/\(zgd T.pc=ae->zgd r.1.pc=ae\/r.1=at_ (if fX then .kd else .wr)):=by
 have hh:∀T',r.1=hd T'->zej r.1.pc=ae:=by
  intro T' e
  rcases zvC T' with h1|h1|h1
  ·rw[e,h1];rfl
  ·rw[e,h1];rfl
  ·rw[e] at hb;exact absurd h1 hb
 obtain⟨pc,old,nw,aw,sv,it,ws⟩:=T
 cases pc<;>(refine⟨λ h1=>?_,λ h1=>?_⟩<;>first|(cases h1;done)|skip)
 all_goals
  simp only[mv] at h
  repeat' split at h
  all_goals
   simp only[bF,cf,or_false,List.mem_append] at h
  all_goals first
   |(subst h;first|exact .inl rfl|exact .inr rfl|exact absurd rfl hb|exact .inl (hh _ rfl))
   |(rcases h with h|h<;>(subst h;first|exact .inl rfl|exact .inr rfl|exact absurd rfl hb|exact .inl (hh _ rfl)))
   |(subst h;right;simp[*])
section
variable{P:aG}{ph:Ph}{s:Nat}{fX:Bool}{F:(Nat->Prop)->(Nat->Prop)->ai->Prop}{k:Nat}{WS RS:Nat->Prop}
theorem zgU(g:aI)(aJ:ai)(g':aI)(RS:Nat->Prop)(e:bU P aa g aJ=.go g' aJ #[]):Sil P ph s aa WS RS g aJ WS g' aJ #[] []:=
 ⟨.inl ⟨rfl,e⟩,aA _,λ _ _ _ _=>rfl,λ cs h=>⟨cs,h,λ _ _ _=>rfl⟩,.refl _,rfl,rfl,by simp,by simp,λ b=>⟨.inl,λ h=>h.elim id λ z=>by omega⟩⟩
theorem mY{T:Th}{Stop:aI->ai->Prop}:∀{m:Nat} {g:aI} {w:ai},Goes P aa (gY ph s λ b=>WS b\/RS b) DC0 Stop m g w->
  (∀g w,(∀aJ,gY ph s (λ b=>WS b\/RS b) w aJ->Stop g aJ)->BH P ph s fX F ⟨T,k,WS,RS,g,w⟩)->BH P ph s fX F ⟨T,k,WS,RS,g,w⟩
 |0,g,w,h,hS=>hS _ _ h
 |m+1,g,w,h,hS=>by
  rcases h with hs|⟨hr,dz⟩
  ·exact hS _ _ hs
  ·refine ox (λ _=>hr) λ aJ hw=>?_
   obtain⟨g',w',es,e,⟨hd1,Ss⟩,hn⟩:=goes_elim (dz aJ hw)
   subst hd1 Ss
   exact .AM WS g' w' #[] [] (zgU g w' g' RS e) (λ e he=>by simp at he) (λ _=>⟨rfl,rfl,rfl,rfl⟩) (mY hn hS)
theorem E5{T:Th}(h:T.pc≠.kd):LB T=T:=by simp[LB,h]
theorem Qj {Mu Wg : Nat} {T T' : Th} {es : Array bT} (h : mM Mu Wg T T' es) : mM Mu Wg T (LB T') es := by
  by_cases hk : T'.pc = .kd
  · have e1 : LB T' = at_ .wr := by simp [LB, hk]
    rw [e1]
    unfold mM at h ⊢
    split at h <;> first
      | assumption
      | (rw [hk] at h
         have e2 : T'.deaf = 0 := by simp [cH, hk]
         rw [e2] at h
         exact h)
  · rw [E5 hk]; exact h
theorem zc0{p:Pc}(h:zej p=ae):wy p=ae/\p≠.kd/\we ae p=aa:=by cases p<;>first|(cases h;done)|exact⟨rfl,by simp,rfl⟩
theorem zhy{p:Pc}(h:zgd p=ae):wy p=ae/\p≠.kd/\we aa p=aa:=by cases p<;>first|(cases h;done)|exact⟨rfl,by simp,rfl⟩
theorem QG{g g':aI}{w w':ai}{es:Array bT}(h:bU P aa g w=.go g' w' es)(e:dZ ph w w'):MV P (λ b=>b=ph.Mu) g w g' w' es:=⟨h,e.size,e.block,e.os,e.tape,e.output⟩
theorem zmI{Fi:Nat->aI->ai->Prop}(hF:∀k g w,(∀aJ,gY ph s (λ b=>WS b\/RS b) w aJ->Fi k g aJ)->BH P ph s fX F ⟨at_ .ur,k,WS,RS,g,w⟩):∀(k:Nat) (T:Th) (m:Nat) (g:aI) (w:ai),(zej T.pc=ae\/T=at_ .ur)->
  Goes P aa (gY ph s λ b=>WS b\/RS b) DC0 (AtX P ph s (λ b=>WS b\/RS b) fX ae Fi k T) m g w->BH P ph s fX F ⟨T,k,WS,RS,g,w⟩:=by
 intro k
 induction k with
 |zero=>intro T m g w hT h;exact ox (λ h=>absurd rfl h) λ aJ _=>.deep rfl
 |succ k ih=>
  intro T m g w hT h
  refine mY h λ g w h=>?_
  rcases hT with hT|rfl
  ·obtain⟨h1,_,h3⟩:=zc0 hT
   refine ox (λ _=>((h w (gY.refl _ _)).2 h3).1) λ aJ hw=>?_
   obtain⟨hr,ho,hl⟩:=(h aJ hw).2 h3
   refine .mu h1 ho λ q hq hf=>⟨(hl q ⟨hq⟩ hf).1,λ fh=>?_⟩
   obtain⟨r,rj,AK⟩:=(hl q ⟨hq⟩ hf).2 fh
   refine⟨r,rj,λ hb=>?_⟩
   obtain⟨g',w',es,a1,a2,a3,a4,a5,m',a6⟩:=AK hb
   have hn:=(WY rj hb).1 hT
   have zzf:LB r.1=r.1:=E5 (by
    rcases hn with hn|hn
    ·exact(zc0 hn).2.1
    ·rw[hn];simp)
   refine⟨g',w',es,QG a1 a3,a2.1,Qj a4,a5,?_⟩
   rw[zzf]
   exact ih r.1 m' g' w' hn a6
  ·exact hF _ _ _ λ aJ hw=>(h aJ hw).1 rfl
theorem zep{Fi:Nat->aI->ai->Prop}(hF:∀k g w,(∀aJ,gY ph s (λ b=>WS b\/RS b) w aJ->Fi k g aJ)->BH P ph s fX F ⟨at_ .wr,k,WS,RS,g,w⟩):∀(k:Nat) (T:Th) (m:Nat) (g:aI) (w:ai),(zgd T.pc=ae\/T=at_ (if fX then .kd else .wr))->
  Goes P aa (gY ph s λ b=>WS b\/RS b) DC0 (AtX P ph s (λ b=>WS b\/RS b) fX aa Fi k T) m g w->BH P ph s fX F ⟨LB T,k,WS,RS,g,w⟩:=by
 intro k
 induction k with
 |zero=>intro T m g w hT h;exact ox (λ h=>absurd rfl h) λ aJ _=>.deep rfl
 |succ k ih=>
  intro T m g w hT h
  rcases hT with hT|rfl
  ·obtain⟨h1,h2,h3⟩:=zhy hT
   rw[E5 h2]
   refine mY h λ g w h=>?_
   refine ox (λ _=>((h w (gY.refl _ _)).2 h3).1) λ aJ hw=>?_
   obtain⟨hr,ho,hl⟩:=(h aJ hw).2 h3
   refine .mu h1 ho λ q hq hf=>⟨(hl q ⟨hq⟩ hf).1,λ fh=>?_⟩
   obtain⟨r,rj,AK⟩:=(hl q ⟨hq⟩ hf).2 fh
   refine⟨r,rj,λ hb=>?_⟩
   obtain⟨g',w',es,a1,a2,a3,a4,a5,m',a6⟩:=AK hb
   exact⟨g',w',es,QG a1 a3,a2.1,Qj a4,a5,ih r.1 m' g' w' ((WY rj hb).2 hT) a6⟩
  ·have e:LB (at_ (if fX then .kd else .wr))=at_ .wr:=by cases fX<;>rfl
   rw[e]
   exact mY h λ g w h=>hF _ _ _ λ aJ hw=>(h aJ hw).1 (by cases fX<;>rfl)
end
end Rn
namespace Rn
open Go Go.Conc Go.ConcN Go.ConcM Go.RowKit Go.Conc.Lib Go.ConcR.Gen
open Go.ConcR (KK WgAt stA smA rd wr mk DC0)
theorem Mq{P:aG}:∀{n d:Nat} {g:aI},nm P n d g->nm P (n+1) d g
 |0,_,_,h=>.inl h
 |_+1,_,_,.inl h=>.inl h
 |_+1,_,_,.inr ⟨hr,g',es,hm,hs,hq⟩=>.inr ⟨hr,g',es,hm,hs,Mq hq⟩
theorem CW{P:aG}{n n' d:Nat}{g:aI}(h:n<=n')(x:nm P n d g):nm P n' d g:=by
 obtain⟨r,rfl⟩:=Nat.exists_eq_add_of_le h
 induction r with
 |zero=>exact x
 |succ r ih=>exact Mq (ih (Nat.le_add_right _ _))
section
variable(P:aG)(ph:Ph)(s:Nat)(St:Nat->Prop)
def zyI(g:aI)(w:ai):Prop:=
 g.status=.running/\G1 P g=ae/\(WgAt ph.tW ph.Wg w 0 0->∃g',bU P aa g w=.go g' (w.setCell (smA ph.Wg) (.int .u32 1)) (semEvents (smA ph.Wg))/\∃q,nm P q 1 g')
def zyH(g:aI)(w:ai):Prop:=
 g.status=.running/\(WgAt ph.tW ph.Wg w 1 0->∃g',bU P aa g w=.go g' (w.setCell (stA ph.Wg) (.int .u64 0)) #[wr (stA ph.Wg)]/\∃m,Goes P aa (gY ph s St) DC0 (zyI P ph) m g' (w.setCell (stA ph.Wg) (.int .u64 0)))
def zyG(g:aI)(w:ai):Prop:=
 g.status=.running/\(WgAt ph.tW ph.Wg w 1 0->∃g',bU P aa g w=.go g' w #[rd (stA ph.Wg)]/\∃m,Goes P aa (gY ph s St) DC0 (zyH P ph s St) m g' w)
def zyF(g:aI)(w:ai):Prop:=
 g.status=.running/\∀v wt:Nat,v<=1->wt<=1->WgAt ph.tW ph.Wg w (((v+1:Nat):Int)*KK+wt) 0->
  ∃g',bU P aa g w=.go g' (w.setCell (stA ph.Wg) (.int .u64 ((v:Int)*KK+wt))) #[rd (stA ph.Wg),wr (stA ph.Wg)]/\
   ((v=0/\wt=1)->∃m,Goes P aa (gY ph s St) DC0 (zyG P ph s St) m g' (w.setCell (stA ph.Wg) (.int .u64 ((v:Int)*KK+wt))))/\(¬(v=0/\wt=1)->∃q,nm P q 1 g')
def zyJ(g:aI)(w:ai):Prop:=
 g.status=.running/\∃g',bU P aa g w=.go g' w #[mk .disable]/\∃m,Goes P aa (gY ph s St) DC0 (zyF P ph s St) m g' w
def zmq(g:aI)(w:ai):Prop:=
 g.status=.running/\∃g',bU P aa g w=.go g' w #[mk (.releaseMerge (stA ph.Wg))]/\∃m,Goes P aa (gY ph s St) DC0 (zyJ P ph s St) m g' w
end
section
variable{ph:Ph}{s:Nat}{St:Nat->Prop}{w0 w:ai}
theorem zr2(ok:ph.Ok)(st:∀b,St b->¬ph.sh b){a:cr}{v:aj}{x y:Int}(ha:a.block=ph.Wg)(h:WgAt ph.tW ph.Wg (w.setCell a v) x y):gY ph s St w (w.setCell a v):=
 have A:=wO w a v
 ⟨dh A.size.symm,λ b hb=>A.block b λ e=>st b hb (.inr (.inl (e.trans ha))),λ⟨p,q,z⟩=>⟨p,q,(A.block _ λ e=>ok.mw (e.trans ha)).trans z⟩,λ _=>⟨_,_,h⟩,λ cs z=>⟨cs,⟨(A.block _ λ e=>ok.wb (e.trans ha).symm).trans z.1,z.2⟩,rfl⟩⟩
theorem KX.setWg(h:KX ph s St w0 w){a:cr}{v:aj}{x y:Int}(ha:a.block=ph.Wg)(hw:WgAt ph.tW ph.Wg (w.setCell a v) x y):KX ph s St w0 (w.setCell a v):=h.rely (zr2 h.ok h.st ha hw)
noncomputable def zhG:gZ:=Tryz.f68.body.getD .skip
theorem nm_done:(Tryz.f68.name == "runtime.NumGoroutine")=aa:=by kernel_rfl
theorem nm_add:(Tryz.f66.name == "runtime.NumGoroutine")=aa:=by kernel_rfl
theorem nm_wait:(Tryz.f71.name == "runtime.NumGoroutine")=aa:=by kernel_rfl
theorem nm_uAdd:(Tryz.f115.name == "runtime.NumGoroutine")=aa:=by kernel_rfl
theorem nm_uLoad:(Tryz.f117.name == "runtime.NumGoroutine")=aa:=by kernel_rfl
theorem nm_uStore:(Tryz.f118.name == "runtime.NumGoroutine")=aa:=by kernel_rfl
theorem nm_uCas:(Tryz.f125.name == "runtime.NumGoroutine")=aa:=by kernel_rfl
theorem zrE(hw:ph.tW=115){c:aB}{cs:List aB}{qt:Nat}(hcm:c.mode=.returning)(hT:nm an qt 0 (G c cs)):
  ∀w,KX ph s St w0 w->Goes an aa (gY ph s St) DC0 (zmq an ph s St) 60 (G ((baseD 68).at ⟨#[.pointer (ab ⟨ph.Wg,0,ak⟩),undef,undef,undef],[]⟩ [.code zhG]) (c::cs)) w:=by
 intro w hF
 simp only[zhG,Tryz.f68,cS]
 repeat w_go KX.rely
 u_call kH nm_add Tryz.f66 KX.rely hF
 repeat w_go KX.rely
 m_convG an cC.underlying_tUP cC.underlying_tWgP cC.room_tWg hF.wg.choose_spec KX.rely hF
 refine bn (λ _ bA=>?_)
 replace hF:=KX.rely hF bA
 clear bA
 refine⟨rfl,_,stepG_markAt .releaseMerge (by simp) rfl rfl (by k_ne) rfl cC.f_relMerge (x_relMerge_n aD) (x_relMerge_b aD) (x_relMerge_x aD) (x_relMerge_f aD) (by simp[bX,stA]),30,?_⟩
 walk_nrm
 repeat w_go KX.rely
 refine bn (λ _ bA=>?_)
 replace hF:=KX.rely hF bA
 clear bA
 refine⟨rfl,_,stepG_mark0 .disable (by simp) rfl rfl (by k_ne) rfl cC.f_disable (x_disable_n aD) (x_disable_b aD) (x_disable_x aD) (x_disable_f aD),90,?_⟩
 walk_nrm
 repeat w_go KX.rely
 u_defer KX.rely hF
 repeat w_go KX.rely
 u_in KX.rely hF
 rw[stepG_entry_pure (.bool aa) rfl rfl (by k_ne) rfl cC.f_inBubble (x_inBubble_n aD) (x_inBubble_b aD) (x_inBubble_x aD) (x_inBubble_f aD)]
 simp only[goes_go]
 refine⟨by u_nil,?_⟩
 walk_nrm
 repeat w_go KX.rely
 u_call kL nm_uAdd Tryz.f115 KX.rely hF
 repeat w_go KX.rely
 m_num
 refine bn (λ ed bA=>?_)
 replace hF:=KX.rely hF bA
 clear bA
 refine⟨rfl,λ v wt hv hwt iZ=>?_⟩
 have Js:v=0\/v=1:=by omega
 have zzv:wt=0\/wt=1:=by omega
 rcases Js with rfl|rfl<;>rcases zzv with rfl|rfl
 ·
  replace iZ:WgAt ph.tW ph.Wg ed 4294967296 0:=by simpa [KK] using iZ
  have e1:py.wrap (4294967296+18446744069414584320)=0:=by decide
  have z:((0:Nat):Int)*KK+((0:Nat):Int)=0:=by simp
  rw[z]
  refine⟨_,(iH rfl rfl (by k_ne) rfl cC.f_addU64 (um aD) (uj aD) (uo aD) .u64 (uk aD) rfl rfl iZ.cellSt (iZ.thaw 0)).trans (by rw[e1];rfl),λ hl=>absurd hl.2 (by decide),λ _=>⟨qt+200,?_⟩⟩
  walk_nrm
  try simp only[e1]
  repeat (q_go;try q_fix)
  q_leave1 kL
  repeat (q_go;try q_fix)
  q_en cC aD
  q_leave0 kH
  repeat (q_go;try q_fix)
  exact CW (by omega) (wL rfl rfl rY rfl hcm hT)
 ·
  replace iZ:WgAt ph.tW ph.Wg ed 4294967297 0:=by simpa [KK] using iZ
  have e1:py.wrap (4294967297+18446744069414584320)=1:=by decide
  have z:((0:Nat):Int)*KK+((1:Nat):Int)=1:=by simp
  rw[z]
  refine⟨_,(iH rfl rfl (by k_ne) rfl cC.f_addU64 (um aD) (uj aD) (uo aD) .u64 (uk aD) rfl rfl iZ.cellSt (iZ.thaw 0)).trans (by rw[e1];rfl),λ _=>⟨140,?_⟩,λ hl=>absurd ⟨rfl,rfl⟩ hl⟩
  replace hF:=hF.setWg (a:=stA ph.Wg) (v:=.int .u64 1) rfl (iZ.setSt 1)
  walk_nrm
  try simp only[e1]
  repeat w_go KX.rely
  u_leave1 kL KX.rely hF
  repeat w_go KX.rely
  u_call iN nm_uLoad Tryz.f117 KX.rely hF
  repeat w_go KX.rely
  refine bn (λ fY bA=>?_)
  replace hF:=KX.rely hF bA
  clear bA
  refine⟨rfl,λ iZ=>⟨_,stepG_load_atomic rfl rfl (by k_ne) rfl cC.f_loadU64 (x_loadU64_n aD) (x_loadU64_b aD) (x_loadU64_x aD) .u64 (x_loadU64_f aD) rfl iZ.cellSt,60,?_⟩⟩
  walk_nrm
  repeat w_go KX.rely
  u_leave1 iN KX.rely hF
  repeat w_go KX.rely
  u_call Tryz.func118 nm_uStore Tryz.f118 KX.rely hF
  repeat w_go KX.rely
  refine bn (λ sE bA=>?_)
  replace hF:=KX.rely hF bA
  clear bA
  refine⟨rfl,λ iZ=>⟨_,stepG_store_atomic rfl rfl (by k_ne) rfl cC.f_storeU64 (x_storeU64_n aD) (x_storeU64_b aD) (x_storeU64_x aD) (x_storeU64_f aD) rfl rfl iZ.cellSt (iZ.thaw 0),60,?_⟩⟩
  replace hF:=hF.setWg (a:=stA ph.Wg) (v:=.int .u64 0) rfl (iZ.setSt 0)
  walk_nrm
  repeat w_go KX.rely
  u_leave0 Tryz.func118 KX.rely hF
  repeat w_go KX.rely
  refine bn (λ lS bA=>?_)
  replace hF:=KX.rely hF bA
  clear bA
  refine⟨rfl,mayWake_entry rfl rfl cC.f_semrelease (x_semrelease_b aD),λ iZ=>⟨_,(stepG_semrelease rfl rfl (by k_ne) rfl cC.f_semrelease (x_semrelease_n aD) (x_semrelease_b aD) (x_semrelease_x aD) (x_semrelease_f aD) (by simp[bX,smA]) iZ.cellSm (iZ.thaw 1)).trans (by rw[show IntKind.u32.wrap (0+1)=1 from by decide]),⟨qt+200,?_⟩⟩⟩
  walk_nrm
  repeat (q_go;try q_fix)
  q_en cC aD
  q_leave0 kH
  repeat (q_go;try q_fix)
  exact CW (by omega) (wL rfl rfl rY rfl hcm hT)
 ·
  replace iZ:WgAt ph.tW ph.Wg ed 8589934592 0:=by simpa [KK] using iZ
  have e1:py.wrap (8589934592+18446744069414584320)=4294967296:=by decide
  have z:((1:Nat):Int)*KK+((0:Nat):Int)=4294967296:=by simp[KK]
  rw[z]
  refine⟨_,(iH rfl rfl (by k_ne) rfl cC.f_addU64 (um aD) (uj aD) (uo aD) .u64 (uk aD) rfl rfl iZ.cellSt (iZ.thaw 0)).trans (by rw[e1];rfl),λ hl=>absurd hl.2 (by decide),λ _=>⟨qt+200,?_⟩⟩
  walk_nrm
  try simp only[e1]
  repeat (q_go;try q_fix)
  q_leave1 kL
  repeat (q_go;try q_fix)
  q_en cC aD
  q_leave0 kH
  repeat (q_go;try q_fix)
  exact CW (by omega) (wL rfl rfl rY rfl hcm hT)
 ·
  replace iZ:WgAt ph.tW ph.Wg ed 8589934593 0:=by simpa [KK] using iZ
  have e1:py.wrap (8589934593+18446744069414584320)=4294967297:=by decide
  have z:((1:Nat):Int)*KK+((1:Nat):Int)=4294967297:=by simp[KK]
  rw[z]
  refine⟨_,(iH rfl rfl (by k_ne) rfl cC.f_addU64 (um aD) (uj aD) (uo aD) .u64 (uk aD) rfl rfl iZ.cellSt (iZ.thaw 0)).trans (by rw[e1];rfl),λ hl=>absurd hl.1 (by decide),λ _=>⟨qt+200,?_⟩⟩
  walk_nrm
  try simp only[e1]
  repeat (q_go;try q_fix)
  q_leave1 kL
  repeat (q_go;try q_fix)
  q_en cC aD
  q_leave0 kH
  repeat (q_go;try q_fix)
  exact CW (by omega) (wL rfl rfl rY rfl hcm hT)
end
end Rn
namespace Rn
open Go Go.Conc Go.ConcM
open Go.ConcR (KK WgAt stA smA rd wr mk DC0)
section
variable{P:aG}{ph:Ph}{s:Nat}{fX:Bool}{F:(Nat->Prop)->(Nat->Prop)->ai->Prop}{k:Nat}{WS RS:Nat->Prop}
variable{g:aI}{w:ai}
theorem P2{g':aI}{es:Array bT}(h:bU P aa g w=.go g' w es):MV P (λ _=>False) g w g' w es:=⟨h,rfl,λ _ _=>rfl,.refl _,rfl,rfl⟩
theorem zbn{g':aI}{a:cr}{v:aj}{es:Array bT}(ha:a.block=ph.Wg)(h:bU P aa g w=.go g' (w.setCell a v) es):MV P (λ b=>b=ph.Wg) g w g' (w.setCell a v) es:=
 have A:=wO w a v
 ⟨h,A.size,λ b hb=>A.block b λ e=>hb (e.trans ha),by rw[A.os];exact .refl _,A.tape,A.output⟩
theorem zrG:mM ph.Mu ph.Wg (at_ .wk) (at_ .d1) #[mk .disable]:=bu (by simp) (by simp) (by simp) (by simp) (by simpa [cH,mk] using book_dis (Mu:=ph.Mu) (Wg:=ph.Wg) 0)
theorem zoN(T':Th)(h:(if T'.pc=.quit then 1 else T'.deaf)=1):mM ph.Mu ph.Wg (at_ .d1) T' #[rd (stA ph.Wg),wr (stA ph.Wg)]:=bu (by simp) (by simp) (by simp) (by simp) (by rw[h];exact book_rw (Mu:=ph.Mu) (Wg:=ph.Wg) 0 (stA ph.Wg) (.inr rfl))
theorem zmH(hF:∀w aJ,gY ph s (λ b=>WS b\/RS b) w aJ->F WS RS w->F WS RS aJ){m:Nat}(h0:F WS RS w)(h:Goes P aa (gY ph s λ b=>WS b\/RS b) DC0 (zmq P ph s λ b=>WS b\/RS b) m g w):BH P ph s fX F ⟨at_ .wr,k,WS,RS,g,w⟩:=by
 have key:∀{m:Nat} {g:aI} {w:ai},F WS RS w->Goes P aa (gY ph s λ b=>WS b\/RS b) DC0 (zmq P ph s λ b=>WS b\/RS b) m g w->
   (∀g w,F WS RS w->(∀aJ,gY ph s (λ b=>WS b\/RS b) w aJ->zmq P ph s (λ b=>WS b\/RS b) g aJ)->BH P ph s fX F ⟨at_ .wr,k,WS,RS,g,w⟩)->BH P ph s fX F ⟨at_ .wr,k,WS,RS,g,w⟩:=by
  intro m
  induction m with
  |zero=>intro g w h0 h hS;exact hS g w h0 h
  |succ m ih=>
   intro g w h0 h hS
   rcases h with hs|⟨hr,dz⟩
   ·exact hS g w h0 hs
   ·refine ox (λ _=>hr) λ aJ hw=>?_
    obtain⟨g',w',es,e,⟨hd1,Ss⟩,hn⟩:=goes_elim (dz aJ hw)
    subst hd1 Ss
    exact .AM WS g' w' #[] [] (zgU g w' g' RS e) (λ e he=>by simp at he) (λ _=>⟨rfl,rfl,rfl,rfl⟩) (ih (hF _ _ hw h0) hn hS)
 refine key h0 h λ g w h0 h=>?_
 refine ox (λ _=>(h w (gY.refl _ _)).1) λ aJ hw=>?_
 obtain⟨_,g',e,m,h⟩:=h aJ hw
 refine .wr rfl (hF _ _ hw h0) g' aJ _ (P2 e) rfl ?_
 refine mY h λ g w h=>?_
 refine ox (λ _=>(h w (gY.refl _ _)).1) λ aJ hw=>?_
 obtain⟨_,g',e,m,h⟩:=h aJ hw
 refine .wk rfl g' aJ _ (P2 e) zrG ?_
 refine mY h λ g w h=>?_
 refine ox (λ _=>(h w (gY.refl _ _)).1) λ aJ hw=>?_
 obtain⟨_,h⟩:=h aJ hw
 refine .d1 rfl λ v wt h1 h2 h3=>?_
 obtain⟨g',e,h4,h5⟩:=h v wt h1 h2 h3
 refine⟨g',_,_,zbn rfl e,h3.setSt _,?_⟩
 by_cases hc:v=0/\wt=1
 ·obtain⟨m,h6⟩:=h4 hc
  refine .inl ⟨hc.1,hc.2,zoN _ (by simp[cH]),?_⟩
  refine mY h6 λ g w h=>?_
  refine ox (λ _=>(h w (gY.refl _ _)).1) λ aJ hw=>?_
  obtain⟨_,h⟩:=h aJ hw
  refine .d2 rfl λ h1=>?_
  obtain⟨g',e,m,h⟩:=h h1
  refine⟨g',aJ,_,P2 e,bu (by simp) (by simp) (by simp) (by simp) (by simpa [cH,rd] using book_one (Mu:=ph.Mu) (Wg:=ph.Wg) 0 (stA ph.Wg) aa (.inr rfl)),?_⟩
  refine mY h λ g w h=>?_
  refine ox (λ _=>(h w (gY.refl _ _)).1) λ aJ hw=>?_
  obtain⟨_,h⟩:=h aJ hw
  refine .d3 rfl λ h1=>?_
  obtain⟨g',e,m,h⟩:=h h1
  refine⟨g',_,_,zbn rfl e,h1.setSt _,bu (by simp) (by simp) (by simp) (by simp) (by simpa [cH,wr] using book_one (Mu:=ph.Mu) (Wg:=ph.Wg) 0 (stA ph.Wg) ae (.inr rfl)),?_⟩
  refine mY h λ g w h=>?_
  refine ox (λ _=>(h w (gY.refl _ _)).1) λ aJ hw=>?_
  obtain⟨_,h6,h⟩:=h aJ hw
  refine .d4 rfl λ h1=>⟨h6,?_⟩
  obtain⟨g',e,q,h⟩:=h h1
  exact⟨g',_,_,zbn rfl e,h1.setSm _,bu (by simp) (by simp) (by simp) (by simp) (by simpa [cH] using book_sem (Mu:=ph.Mu) (Wg:=ph.Wg) 0 (smA ph.Wg) (.inr rfl)),q,h⟩
 ·obtain⟨q,h6⟩:=h5 hc
  exact .inr ⟨hc,zoN _ (by simp),q,h6⟩
end
end Rn
namespace Rn
open Go Go.Conc Go.ConcN Go.ConcM Go.RowKit Go.Conc.Lib Go.ConcR.Gen
open Go.ConcR (KK WgAt stA smA rd wr mk DC0)
def AX(ph:Ph)(s:Nat)(St:Nat->Prop)(w0:ai)(fX:Bool)(Fi:Nat->aI->ai->Prop)(EV:aB)(wj:Act)(lV:Array Oper)(E0:Nat)(lY:List Nat)(k₁:List Item)(qy:List aB)(k:Nat)(T:Th)(wst:Int):Prop:=
 ∃m,∀(j1 j7 j8 j9 j10 j11 j12 j13 j14 j15 j16 j17 j18 j19 j20 j21 j22 j23 j24 j25 j26 j27 j28 j29 j30 j31 j32 j33 j34 j35 j36 j37 j38 j39 j40 j41 j42 j43 j44 j45 j46 j47 j48 j49 j50 j51 j52 j53 j54 j55 j56 j57 j58 j59 j60 j61 j62 j63 j64 j65 j66 j67 j68 j69 j70 j71 j72 j73 j74 j75 j76 j77 j78 j79 j80 j81 j82 j83 j84 j85 j86 j87 j88 j89 j90 j91 j92 j93 j94 j95 j96 j97 j98 j99 zge zgf zgg zgh zgi zgj zgk zgl zgm zgn zgo zgp zgq zgr zgs zgt zgu zgv zgw zgx zgy zgz zgA zgB zgC zgD zgE zgF zgG zgH zgI zgJ zgK zgL zgM zgN zgO zgP zgQ:aj) (w:ai),KX ph s St w0 w->
  GX ph s St fX ae Fi (hd T) k m (G ((Go.Conc.base 189).at ⟨#[.pointer (ab ⟨ph.Mu,0,ak⟩),j1,.int .i64 wst,.bool T.sv,.bool T.aw,.int .i64 T.it,.int .i32 T.old,j7,j8,j9,j10,j11,j12,j13,j14,j15,j16,j17,j18,j19,j20,j21,j22,j23,j24,j25,j26,j27,j28,j29,j30,j31,j32,j33,j34,j35,j36,j37,j38,j39,j40,j41,j42,j43,j44,j45,j46,j47,j48,j49,j50,j51,j52,j53,j54,j55,j56,j57,j58,j59,j60,j61,j62,j63,j64,j65,j66,j67,j68,j69,j70,j71,j72,j73,j74,j75,j76,j77,j78,j79,j80,j81,j82,j83,j84,j85,j86,j87,j88,j89,j90,j91,j92,j93,j94,j95,j96,j97,j98,j99,zge,zgf,zgg,zgh,zgi,zgj,zgk,zgl,zgm,zgn,zgo,zgp,zgq,zgr,zgs,zgt,zgu,zgv,zgw,zgx,zgy,zgz,zgA,zgB,zgC,zgD,zgE,zgF,zgG,zgH,zgI,zgJ,zgK,zgL,zgM,zgN,zgO,zgP,zgQ],[]⟩ [.code LLS,.inLoop LLS,.inBlock 0,.code Pq]) (EV.at wj (.inRegion lV (E0::lY)::k₁)::qy)) w
section
variable{ph:Ph}{s:Nat}{St:Nat->Prop}{w0:ai}{fX:Bool}{Fi:Nat->aI->ai->Prop}
variable{EV:aB}{wj:Act}{lV:Array Oper}{E0:Nat}{lY:List Nat}{k₁:List Item}{qy:List aB}
theorem zv2(hT:∀k',∃m,∀w,KX ph s St w0 w->GX ph s St fX ae Fi (at_ .ur) k' m (G (EV.at (wj.put ((lV[E0]?).bind (·.dst)) (.tuple #[])) (.inRegion lV lY::k₁)) qy) w)(k:Nat)(pc:Pc)(nw it:Int)(ws:Bool)(wst:Int):AX ph s St w0 fX Fi EV wj lV E0 lY k₁ qy k { pc:=pc,old:=0,nw:=nw,aw:=aa,sv:=aa,it:=it,ws:=ws } wst:=by
 have e:hd { pc:=pc,old:=0,nw:=nw,aw:=aa,sv:=aa,it:=it,ws:=ws }={ pc:=.c2,old:=0,nw:=1,aw:=aa,sv:=aa,it:=it,ws:=ws }:=by simp[hd]
 unfold AX
 rw[e]
 refine⟨140,λ j1 j7 j8 j9 j10 j11 j12 j13 j14 j15 j16 j17 j18 j19 j20 j21 j22 j23 j24 j25 j26 j27 j28 j29 j30 j31 j32 j33 j34 j35 j36 j37 j38 j39 j40 j41 j42 j43 j44 j45 j46 j47 j48 j49 j50 j51 j52 j53 j54 j55 j56 j57 j58 j59 j60 j61 j62 j63 j64 j65 j66 j67 j68 j69 j70 j71 j72 j73 j74 j75 j76 j77 j78 j79 j80 j81 j82 j83 j84 j85 j86 j87 j88 j89 j90 j91 j92 j93 j94 j95 j96 j97 j98 j99 zge zgf zgg zgh zgi zgj zgk zgl zgm zgn zgo zgp zgq zgr zgs zgt zgu zgv zgw zgx zgy zgz zgA zgB zgC zgD zgE zgF zgG zgH zgI zgJ zgK zgL zgM zgN zgO zgP zgQ w hF=>?_⟩
 simp only[LLS,Pq,AY,rT,pC,qJ,cS]
 repeat w_go KX.rely
 m_num
 s_at KX.rely
 refine⟨by simp[we],λ _=>⟨rfl,rfl,λ s hs _=>⟨λ h=>?_,λ _=>?_⟩⟩⟩
 ·exfalso;revert h;simp only[mv];(repeat' split)<;>simp
 obtain⟨mu,ms,wg,DH⟩:=s
 by_cases hm:mu=0
 ·subst hm
  refine⟨(at_ .le,⟨1,ms,wg,DH⟩),by simp[mv],λ _=>⟨_,_,_,stepG_cas_hit rfl rfl (by k_ne) rfl Tryz.func188 mF mD mG .i32 mE rfl rfl rfl hs.1.cellSt (hs.1.thaw 0),hs.setMu 1,dZ.set _ _ (.inl rfl),bu (by simp) (by simp) (by simp) (by simp) (by simpa [cH,mk] using book_rw (Mu:=ph.Mu) (Wg:=ph.Wg) 0 (muA ph.Mu) (.inl rfl)),(by simp),?_⟩⟩
  replace hF:=hF.Uw (dZ.set (muA ph.Mu) (.int .i32 1) (.inl rfl)) (hs.setMu 1)
  refine⟨60,?_⟩
  walk_nrm
  repeat w_go KX.rely
  s_at KX.rely
  refine⟨by simp[we],λ _=>⟨rfl,rfl,λ s hs _=>⟨by simp[mv],λ _=>⟨(at_ .la,s),by simp[mv],λ _=>⟨_,_,_,stepG_mark0 .enable (by simp) rfl rfl (by k_ne) rfl cC.f_enable (x_enable_n aD) (x_enable_b aD) (x_enable_x aD) (x_enable_f aD),hs,dZ.refl _,bu (by simp) (by simp) (by simp) (by simp) (by simpa [cH,mk] using book_en (Mu:=ph.Mu) (Wg:=ph.Wg) 0),(by simp),?_⟩⟩⟩⟩⟩
  refine⟨30,?_⟩
  walk_nrm
  repeat w_go KX.rely
  m_convG an cC.underlying_tUP YQ zgX hF.mu.choose_spec KX.rely hF
  s_at KX.rely
  refine⟨by simp[we],λ _=>⟨rfl,rfl,λ s hs _=>⟨by simp[mv],λ _=>⟨(at_ .ur,s),by simp[mv],λ _=>⟨_,_,_,stepG_markAt .acquire (by simp) rfl rfl (by k_ne) rfl cC.f_acquire (x_acquire_n aD) (x_acquire_b aD) (x_acquire_x aD) (x_acquire_f aD) (by simp[bX,muA]),hs,dZ.refl _,rfl,(by simp),?_⟩⟩⟩⟩⟩
  obtain⟨mT,wh⟩:=hT k
  refine⟨mT+20,?_⟩
  walk_nrm
  repeat w_go KX.rely
  u_leave0 Tryz.func189 KX.rely hF
  repeat w_go KX.rely
  exact goes_pad (wh _ hF) _
 ·exact⟨(at_ .bad,⟨mu,ms,wg,DH⟩),by simp[mv,hm],λ h=>absurd rfl h⟩
end
end Rn
end Go.Proofs.YtdpfknhenjngcaaGreatDoor
