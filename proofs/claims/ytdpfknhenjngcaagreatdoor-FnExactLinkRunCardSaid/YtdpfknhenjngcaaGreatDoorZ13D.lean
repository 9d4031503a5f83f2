/-
  Walks over the tree (part 13). No condition.
-/
import Derived.Test.YtdpfknhenjngcaaGreatDoorZ10
import Derived.Test.YtdpfknhenjngcaaGreatDoorZ2
import Derived.Test.YtdpfknhenjngcaaGreatDoorZ8
import Derived.Test.YtdpfknhenjngcaaGreatDoorZ12D
import Derived.WideShapes
import Derived.ChangeSlices
import Derived.Conc.HoldsTime
import Derived.LaidMore
import Derived.Stop.Joined
import Derived.OpenVars
import Derived.ChangeVars
import Derived.SevenTiedAt
import Derived.Test.YtdpfknhenjngcaaGreatDoorZ3
set_option linter.unusedSimpArgs false
set_option linter.unusedVariables false
set_option linter.unusedSectionVars false
set_option maxRecDepth 100000
set_option maxHeartbeats 2000000
open Array renaming all_eq_true_iff_forall_mem→aT,mem_of_getElem?→df,length_toList→cA,replicate→cU,getElem?_eq_some_iff→ah
open Array.mk renaming injEq→uq
open Bool renaming and_eq_true→aE,false_or→wJ,not_eq_true'→kP,not_true→yc,not_false→yb,or_eq_true→iv,true_eq_false→yd,false_eq_true→ca,and_true→zHS,true_and→zHU,or_false→zHT
open Go renaming Question→dP,Value→aj,World→ai,Program→aG,Deferred→eH,Oper→di,Frame→aB,FuncId→ck,TypeId→au,Func→fI,Frame.enter→aU,Frame.at→oC,Addr→cr,DataW→zIr
open Go.Input renaming okWide_of_okWideB→ym
open Go.OpenSpec renaming ofChange→m8
open Go.Proofs.Tryz renaming prog→an
open Go.Region renaming wanted→aR
open List renaming all_cons→oF,mem_cons_self→l8,mem_cons_of_mem→iX,replicate→aX,getElem?_eq_some_iff→aO,all_eq_true→ef,length_take→dm,mem_cons→bF,append_assoc→dN,mem_append→jr,getElem?_toArray→dG,getElem?_cons_zero→bE,mem_of_mem_take→B9,getElem?_eq_getElem→aW,range→oY
open List.cons renaming injEq→iw
open Nat renaming beq→cQ,eq_of_beq_eq_true→bf,sub_self→Hv,add_zero→ey,le_refl→aA,ble→hY,zero_le→bw,le_trans→bD
open Option.some renaming injEq→aF,inj→fS
open Prod.mk renaming injEq→bz
open Bool renaming true→ae,false→aa
open Option renaming some→ab,none→ak
namespace Go.Proofs.YtdpfknhenjngcaaGreatDoor
section
open Go.RowKit
namespace Ab
open Rn (World.on)
abbrev Cx.on(cx:Cx)(T:Nat->dP->Nat)(d:Nat):Cx:=⟨World.on cx.w0 T d,cx.M⟩
section
variable{cx:Cx}{β:List En}{hp:Hp}{w w' w0:ai}{β0:List En}{hp0:Hp}{T:Nat->dP->Nat}{d:Nat}
theorem LC.on{x:LV}{v:aj}(h:LC cx β x v):LC (cx.on T d) β x v:=by cases x<;>exact h
theorem jP.on:∀{xs:List LV} {vs:List aj},jP cx β xs vs->jP (cx.on T d) β xs vs
 |[],[],_=>trivial
 |_::_,_::_,h=>⟨h.1.on,jP.on h.2⟩
 |[],_::_,h=>h
 |_::_,[],h=>h
theorem VO.on:∀{xs:List (LV⊕List LV)} {vs:List aj},VO cx β xs vs->VO (cx.on T d) β xs vs
 |[],[],_=>trivial
 |.inl _::_,_::_,h=>⟨h.1.on,VO.on h.2⟩
 |.inr _::_,_::_,h=>⟨let ⟨us,e,k⟩:=h.1;⟨us,e,k.on⟩,VO.on h.2⟩
 |[],_::_,h=>h
 |.inl _::_,[],h=>h
 |.inr _::_,[],h=>h
theorem AC.on{x:AV}{v:aj}(h:AC cx β x v):AC (cx.on T d) β x v:=by
 cases x with
 |l x=>exact LC.on h
 |a cs=>obtain⟨us,e,k⟩:=h;exact⟨us,e,k.on⟩
 |t xs=>obtain⟨us,e,k⟩:=h;exact⟨us,e,k.on⟩
 |j=>trivial
theorem FR.on{fr:Fr}{t:Array aj}(h:FR cx β fr t):FR (cx.on T d) β fr t:=⟨h.1,λ i x hx=>(h.2 i x hx).on⟩
theorem HOk.on{x:HB}{e:En}{e':Nat}(h:HOk cx β w x e):HOk (cx.on T d) β (World.on w T e') x e:=by
 cases x<;>cases e<;>first|exact h|skip
 obtain⟨h1,us,h2,h3⟩:=h
 exact⟨h1,us,h2,h3.on⟩
theorem wa.on{S:Nat->Prop}{w w':ai}{d d':Nat}(h:wa S w w'):wa S (World.on w T d) (World.on w' T d'):=⟨h.os,rfl,h.output,h.size,h.block,h.rows⟩
theorem Inv.on{d':Nat}(h:Inv cx β hp w):Inv (cx.on T d) β hp (World.on w T d'):=⟨h.kp.on,h.len,λ k x e h1 h2=>(h.OZ k x e h1 h2).on,h.dis⟩
theorem Lk.on{d d':Nat}(h:Lk β0 hp0 w0 β hp w):Lk β0 hp0 (World.on w0 T d) β hp (World.on w T d'):=⟨h.ext,h.om,h.size,h.len,h.C4⟩
theorem Out.on{S:Nat->Prop}{cT:List En}{bG:Hp}{d1 d2:Nat}(h:Out cx β hp w S cT bG w'):Out (cx.on T d) β hp (World.on w T d1) S cT bG (World.on w' T d2):=⟨h.inv.on,h.ext,h.om,h.size,h.len,h.own,h.C4⟩
theorem AN.on{P:aG}{G:Env}(h:AN P G cx):AN P G (cx.on T d):=⟨h.1,h.2.imp id λ k=>⟨(by exact k.1),k.2⟩⟩
theorem At.on{d0:List eH}{fr:Fr}{a:Act}{d':Nat}{d'':Nat}(h:At cx β0 hp0 w0 d0 fr hp a w):At (cx.on T d) β0 hp0 (World.on w0 T d') d0 fr hp a (World.on w T d''):=by
 obtain⟨β,h1,h2,h3,h4⟩:=h
 exact⟨β,h1.on,h2.on,h3,h4.on⟩
def VI(cx:Cx)(β0:List En)(hp0:Hp)(w0:ai)(d0:List eH)(fr:Fr)(hp:Hp)(a:Act)(w:ai):Prop:=At cx β0 hp0 w0 d0 fr hp a (World.on w cx.w0.tape 0)
theorem VI.to{d0:List eH}{fr:Fr}{a:Act}(h:VI cx β0 hp0 w0 d0 fr hp a w)(T:Nat->dP->Nat)(d:Nat):At (cx.on T cx.w0.drawn) β0 hp0 (World.on w0 T w0.drawn) d0 fr hp a (World.on w T d):=At.on (w:=World.on w cx.w0.tape 0) h
theorem VI.of{d0:List eH}{fr:Fr}{a:Act}(h:At (cx.on T cx.w0.drawn) β0 hp0 (World.on w0 T w0.drawn) d0 fr hp a w)(e:w0.tape=cx.w0.tape):VI cx β0 hp0 w0 d0 fr hp a w:=by
 have h1:=At.on (T:=cx.w0.tape) (d:=cx.w0.drawn) (d':=w0.drawn) (d'':=0) h
 have e1:(cx.on T cx.w0.drawn).on cx.w0.tape cx.w0.drawn=cx:=rfl
 have e2:World.on (World.on w0 T w0.drawn) cx.w0.tape w0.drawn=w0:=by rw[<-e];rfl
 rw[e1,e2] at h1
 exact h1
end
end Ab
end
section
open Go.RowKit
namespace Ab
def noJ(J:Env)(o:di):Bool:=match o.op with
 |.call c=>(match c.callee with
  |.builtin _=>ae
  |.value (.func f)=>J.all λ p=>!Nat.beq p.1 f
  |_=>aa)
 |_=>ae
def isJ(J:Env)(o:di):Bool:=match o.op with
 |.call c=>(match c.callee with
  |.value (.func f)=>J.any λ p=>cQ p.1 f
  |_=>aa)
 |_=>aa
theorem zmT{J G:Env}{f:Nat}{K:CS->Prop}:(J.all λ p=>!Nat.beq p.1 f)=ae->csK (J++G) f K=csK G f K:=by
 induction J with
 |nil=>exact λ _=>rfl
 |cons p r ih=>
  intro h
  rw[oF,aE] at h
  obtain⟨f',c⟩:=p
  have h1:cQ f' f=aa:=by simpa using h.1
  show csK ((f',c)::(r++G)) f K=_
  simp only[csK,h1]
  exact ih h.2
theorem zrD{J G:Env}{f:Nat}{K:CS->Prop}:(J.any λ p=>cQ p.1 f)=ae->csK (J++G) f K->∃c,(f,c)∈J/\K c:=by
 induction J with
 |nil=>intro h;cases h
 |cons p r ih=>
  intro h hk
  obtain⟨f',c⟩:=p
  change csK ((f',c)::(r++G)) f K at hk
  simp only[csK] at hk
  cases h1:cQ f' f with
  |true=>
   rw[h1] at hk
   obtain rfl:=bf h1
   exact⟨c,l8 ..,hk⟩
  |false=>
   rw[h1] at hk
   rw[List.any_cons,h1,wJ] at h
   obtain⟨c',h2,h3⟩:=ih h hk
   exact⟨c',iX _ h2,h3⟩
section
variable{T:oU}{J G:Env}{W:Option (Nat×List Nat)}{rsv:Option Nat}{fr:Fr}{hp:Hp}{K:Fr->Hp->Prop}
theorem zdj{o:di}(h:noJ J o=ae):zeb T (J++G) W rsv fr hp o K=zeb T G W rsv fr hp o K:=by
 obtain⟨dst,op,ty,pos,after,guard⟩:=o
 cases op with
 |call c=>
  obtain⟨callee,args,qv⟩:=c
  cases callee with
  |builtin b=>cases b<;>rfl
  |invoke r n=>cases h
  |value x=>
   cases x with
   |func f=>exact zmT h
   |_=>cases h
 |_=>rfl
theorem Ql{K K':di->Prop}:∀{l:List di} {n:Nat},(∀o∈l,K o=K' o)->Yq l n K=Yq l n K'
 |[],_,_=>rfl
 |a::_,0,h=>h a (l8 ..)
 |_::r,n+1,h=>Ql (l:=r) (n:=n) λ o ho=>h o (iX _ ho)
variable{all:List di}
theorem Bc(h:∀o∈all,noJ J o=ae)(Wl:Nat×List Nat)(base i k:Nat):stepT T (J++G) all Wl base i k fr hp K=stepT T G all Wl base i k fr hp K:=by
 unfold stepT
 refine Ql λ o ho=>?_
 have:=h o ho
 split<;>simp only[zdj this]
theorem ziP(h:∀o∈all,noJ J o=ae)(Wl:Nat×List Nat)(base:Nat):∀(t:Tr) (fr:Fr) (hp:Hp) (K:Fr->Hp->Prop),DK T (J++G) all Wl base t fr hp K=DK T G all Wl base t fr hp K:=by
 intro t
 induction t with
 |nil=>intro fr hp K;rfl
 |op i k t ih=>
  intro fr hp K
  simp only[DK]
  split
  ·rfl
  ·rfl
  ·rw[Bc h]
   simp only[ih]
 |fork=>intro fr hp K;rfl
theorem zjI(h:∀o∈all,noJ J o=ae)(Wl:Nat×List Nat)(base:Nat):∀(t:Tr) (fr:Fr) (hp:Hp) (K:Fr->Hp->Prop),rP T (J++G) all Wl base t fr hp K=rP T G all Wl base t fr hp K:=by
 intro t
 induction t with
 |nil=>intro fr hp K;rfl
 |op i k t ih=>
  intro fr hp K
  simp only[rP]
  split
  ·rw[Bc h];simp only[ih]
  ·rw[Bc h];simp only[ih]
  ·rw[Bc h];simp only[ziP h]
 |fork i a t j b u iht ihu=>
  intro fr hp K
  simp only[rP,Bc h,iht,ihu]
end
theorem zbS{T:oU}{J G:Env}{N:Nat}{W0:List Nat}{TR:Nat->Tr}{id:Nat}{ops:Array di}{fr:Fr}{hp:Hp}{K:Xt->Fr->Hp->Prop}(h:ops.all (noJ J)=ae):
  exec T (J++G) N W0 TR (.region id ops ae) fr hp K=exec T G N W0 TR (.region id ops ae) fr hp K:=by
 have h':∀o∈ops.toList,noJ J o=ae:=λ o ho=>by
  rw[aT] at h
  exact h o (by simpa using ho)
 simp only[exec,zjI h']
end Ab
open Go.RowKit
namespace Ab
open Rn (World.on)
structure Jx(N:aG)(O:aB->ai->(aB->ai->Prop)->Prop)(Fin:aj->ai->Prop)(f:ck)(c:CS):Prop where
 snd:∀as1 hp K,c.S as1 hp K->∀(cx:Cx) (β:List En) (w:ai) (vs:Array aj),Inv cx β hp (World.on w cx.w0.tape 0)->(Gw cx.w0/\Gm cx.M)->Uv cx β as1 vs.toList->
  ∀(ops:Array di) (i:Nat) (rest:List Nat) (o:di) (a:Act) (Q:Exit->Act->ai->Prop) (args:Array Operand) (qv:Array au),ops[i]?=ab o->aR o (yielded ops a.tmps)=ae->o.op=.call { callee:=.value (.func f),args,argTypes:=qv }->args.map a.eval=vs->
  (∀v w1,(∃r bG cT,K r bG/\AC cx cT r v/\Out cx β hp (World.on w cx.w0.tape 0) (ST (c.C4 as1)) cT bG (World.on w1 cx.w0.tape 0))->Rn.ET N O Fin ops Q rest (a.put o.dst v) w1)->Rn.ET N O Fin ops Q (i::rest) a w
def jC(J:Env):Code->Bool
 |.region _ ops draw=>ops.all λ o=>noJ J o || (!draw && isJ J o)
 |.seq a b=>jC J a && jC J b
 |.cond _ a b=>jC J a && jC J b
 |.block _ c=>jC J c
 |.loop c=>jC J c
 |_=>ae
section
variable{N P':aG}{O:aB->ai->(aB->ai->Prop)->Prop}{Fin:aj->ai->Prop}{cx:Cx}{β0:List En}{hp0:Hp}{w0:ai}{d0:List eH}{T:oU}{G J:Env}
theorem ziG{o:di}(h:isJ J o=ae):∃f args qv,o.op=.call { callee:=.value (.func f),args,argTypes:=qv }/\(J.any λ p=>cQ p.1 f)=ae:=by
 unfold isJ at h
 split at h
 ·rename_i c hc
  split at h
  ·rename_i f hf
   obtain⟨callee,args,qv⟩:=c
   simp only at hf
   subst hf
   exact⟨f,args,qv,hc,h⟩
  ·cases h
 ·cases h
theorem zeV(E:Rn.Env N P' O Fin)(hT:jc N T)(hG:AN N G cx)(hJ:∀f c,(f,c)∈J->Jx N O Fin f c)(hg:Gw cx.w0/\Gm cx.M)(hw0:w0.tape=cx.w0.tape){ops:Array di}(fc:∀o∈ops.toList,noJ J o=ae\/isJ J o=ae){Q:Exit->Act->ai->Prop}{K:Fr->Hp->Prop}
  (hQ:∀fr hp a w,K fr hp->VI cx β0 hp0 w0 d0 fr hp a w->Q .normal a w):∀(r:List di) (i:Nat) (fr:Fr) (hp:Hp) (a:Act) (w:ai),ops.toList.drop i=r->VI cx β0 hp0 w0 d0 fr hp a w->SS T (J++G) ops.toList r fr hp K->
  Rn.ET N O Fin ops Q (List.range' i r.length) a w:=by
 intro r
 induction r with
 |nil=>intro i fr hp a w _ hA h;exact Rn.ziH E (hQ fr hp a w h hA)
 |cons o r ih=>
  intro i fr hp a w hd hA h
  have ho:ops[i]?=ab o:=by
   have:=congrArg (λ l=>l[0]?) hd
   simpa using this
  have hd':ops.toList.drop (i+1)=r:=by
   have:=congrArg List.tail hd
   simpa using this
  have yH:o∈ops.toList:=by
   have:=df ho
   simpa using this
  rw[List.length_cons,List.range'_succ]
  obtain⟨β,hI,hf,rI,hL⟩:=id hA
  rcases tD hf h with⟨hw,h1⟩|⟨hw,h1⟩
  ·rcases fc o yH with hn|hj
   ·rw[zdj hn] at h1
    refine Rn.zm6 E ho hw (next:=λ a' w'=>∃bx bG,SS T (J++G) ops.toList r bx bG K/\VI cx β0 hp0 w0 d0 bx bG a' w') (λ a w T d h=>h) (λ T' d=>?_) λ a' w' ⟨bx,bG,hk,u6⟩=>ih (i+1) bx bG a' w' hd' u6 hk
    obtain⟨β,hI,hf,rI,hL⟩:=hA.to T' d
    refine Oper.wp_mono ?_ (A9 (Q:=λ _ _ _=>False) (W:=ak) hT hG.on hI hf (λ _ _=>trivial) h1)
    rintro a' w' ⟨bx,bG,cT,hk,Cr,tF,kW⟩
    exact⟨bx,bG,hk,VI.of ⟨cT,kW.inv,Cr,tF.trans rI,hL.out kW⟩ hw0⟩
   ·obtain⟨f,args,qv,cM,AI⟩:=ziG hj
    obtain⟨dst,op,ty,pos,after,guard⟩:=o
    simp only at cM
    subst cM
    obtain⟨c,hc,h2⟩:=zrD AI h1
    obtain⟨rs,h3,h4⟩:=rS hf h2
    obtain⟨zDY,h5⟩:=ba.1 h3
    refine(hJ f c hc).snd rs hp _ h5 cx β w (args.map a.eval) hI hg (by simpa using h4) ops i _ _ a Q args qv ho hw rfl rfl λ v w1 ⟨r1,bG,cT,hk,SB,kW⟩=>?_
    obtain⟨bx,g1,g2,g3⟩:=dK hk (hf.ext kW.ext) SB
    exact ih (i+1) bx bG _ w1 hd' ⟨cT,kW.inv,g2,g3.trans rI,hL.out kW⟩ g1
  ·obtain⟨bx,hk,Cr,tF⟩:=dK (v:=undef) h1 hf ⟨#[],rfl,trivial⟩
   refine Rn.zeN E (by rw[ho];exact hw) ?_
   rw[ho]
   exact ih (i+1) bx hp _ w hd' ⟨β,hI,Cr,tF.trans rI,hL⟩ hk
theorem zbB(E:Rn.Env N P' O Fin)(hT:jc N T)(hG:AN N G cx)(hJ:∀f c,(f,c)∈J->Jx N O Fin f c)(hg:Gw cx.w0/\Gm cx.M)(hw0:w0.tape=cx.w0.tape)(hM:N.follows .mixedOrders=ae){W0:List Nat}{TR:Nat->Tr}:
  ∀(c:Code) (K:Xt->Fr->Hp->Prop) (Q:Exit->Act->ai->Prop) (fr:Fr) (hp:Hp) (a:Act) (w:ai),jC J c=ae->(∀e fr hp a w,K e fr hp->VI cx β0 hp0 w0 d0 fr hp a w->Q (zec e) a w)->
   VI cx β0 hp0 w0 d0 fr hp a w->exec T (J++G) hp0.length W0 TR c fr hp K->Rn.Sr N O Fin c Q a w:=by
 intro c
 induction c with
 |skip=>intro K Q fr hp a w _ hQ hA h;exact Rn.ziL E (hQ .n fr hp a w h hA)
 |region id ops draw=>
  intro K Q fr hp a w hj hQ hA h
  cases draw with
  |false=>
   refine Rn.zbJ E ?_
   have fc:∀o∈ops.toList,noJ J o=ae\/isJ J o=ae:=λ o ho=>by
    simp only[jC] at hj
    rw[aT] at hj
    have:=hj o (by simpa using ho)
    simpa using this
   have:=zeV (β0:=β0) (hp0:=hp0) (w0:=w0) (cx:=cx) (d0:=d0) E hT hG hJ hg hw0 fc (Q:=Q) (K:=λ bx bG=>K .n bx bG) (λ fr hp a w hk hA=>hQ .n fr hp a w hk hA) ops.toList 0 fr hp a w rfl hA h
   rwa [List.range_eq_range',<-cA]
  |true=>
   have fc:ops.all (noJ J)=ae:=by
    simp only[jC] at hj
    rw[aT] at hj ⊢
    intro o ho
    have:=hj o ho
    simpa using this
   rw[zbS fc] at h
   refine Rn.PM (Q:=λ e a w=>∃x fr hp,e=zec x/\K x fr hp/\VI cx β0 hp0 w0 d0 fr hp a w) (Rn.zeP E (λ e a w T d h=>h) λ T' d=>?_) λ e a w ⟨x,fr,hp,he,hk,hA⟩=>he▸hQ x fr hp a w hk hA
   refine JX (β0:=β0) (hp0:=hp0) (w0:=World.on w0 T' w0.drawn) (cx:=cx.on T' cx.w0.drawn) (d0:=d0) hT hG.on hM (.region id ops ae) K _ fr hp a _ (λ x fr hp a w hk hA=>⟨x,fr,hp,rfl,hk,VI.of hA hw0⟩) (hA.to T' d) h
 |seq x y ihx ihy=>
  intro K Q fr hp a w hj hQ hA h
  simp only[jC,aE] at hj
  refine Rn.zm8 E (ihx _ _ fr hp a w hj.1 ?_ hA h)
  intro e bx bG a' w' hk u6
  cases e with
  |n=>exact ihy K Q bx bG a' w' hj.2 hQ u6 hk
  |x id=>exact hQ (.x id) bx bG a' w' hk u6
  |r=>exact hQ .r bx bG a' w' hk u6
 |cond c x y ihx ihy=>
  intro K Q fr hp a w hj hQ hA h
  simp only[jC,aE] at hj
  obtain⟨β,hI,hf,rI,hL⟩:=id hA
  obtain⟨r,h1,h2⟩:=c7 hf h
  split at h1
  ·rename_i t
   rw[Pr] at h1
   refine Rn.ziI E h2.2 ?_
   cases t with
   |true=>exact ihx K Q fr hp a w hj.1 hQ hA (h1.1 rfl)
   |false=>exact ihy K Q fr hp a w hj.2 hQ hA (h1.2 rfl)
  ·exact h1.elim
 |block id c ih=>
  intro K Q fr hp a w hj hQ hA h
  refine Rn.zeO E (ih _ _ fr hp a w hj ?_ hA h)
  intro e bx bG a' w' hk u6
  cases e with
  |n=>exact hQ .n bx bG a' w' hk u6
  |r=>exact hQ .r bx bG a' w' hk u6
  |x id'=>
   show (if id'=id then Q .normal a' w' else Q (.exit id') a' w')
   cases hb:cQ id' id with
   |true=>
    simp only[hb] at hk
    rw[if_pos (bf hb)]
    exact hQ .n bx bG a' w' hk u6
   |false=>
    simp only[hb] at hk
    rw[if_neg (λ e=>by rw[e] at hb;simp at hb)]
    exact hQ (.x id') bx bG a' w' hk u6
 |loop c ih=>
  intro K Q fr hp a w hj hQ hA h
  have hj:jC J c=ae:=hj
  have cover:∀{fr bx:Fr} {hp bG:Hp} {ρ:List Nat} {a:Act} {w:ai},cov hp0.length ρ fr hp bx bG->VI cx β0 hp0 w0 d0 bx bG a w->VI cx β0 hp0 w0 d0 fr hp a w:=λ h2 ⟨β,hI,hf,rI,hL⟩=>by
   obtain⟨cT,g1,g2,g3⟩:=A8 h2 hI hf hL
   exact⟨cT,g1,g2,rI,g3⟩
  have key:∀(fr:Fr) (hp:Hp) (a:Act) (w:ai),VI cx β0 hp0 w0 d0 fr hp a w->UC hp0.length (exec T (J++G) hp0.length W0 TR c) (wrs c) fr hp K->Rn.JIn N O Fin c Q a w:=by
   intro fr hp a w hA h
   cases h with
   |it n h=>
    refine Rn.zhj E (σ:=Nat) (λ n a w=>∃fr hp,VI cx β0 hp0 w0 d0 fr hp a w/\YK (exec T (J++G) hp0.length W0 TR c) n fr hp K) id n ⟨fr,hp,hA,h⟩ ?_
    rintro n a w ⟨fr,hp,hA,h⟩
    cases n with
    |zero=>exact h.elim
    |succ n=>
     refine ih _ _ fr hp a w hj ?_ hA h
     intro e bx bG a' w' hk u6
     cases e with
     |n=>exact⟨n,⟨bx,bG,u6,hk⟩,Nat.lt_succ_self n⟩
     |x id=>exact hQ (.x id) bx bG a' w' hk u6
     |r=>exact hQ .r bx bG a' w' hk u6
   |inv σ u v μ x0 ρ h0 h=>
    refine Rn.zhj E (σ:=σ) (λ x a w=>∃ft ht,UI (wrs c) fr hp (u x) (v x)=ab (ft,ht)/\VI cx β0 hp0 w0 d0 ft ht a w) μ x0 ?_ ?_
    ·obtain⟨ft,ht,h1,h2⟩:=kv.1 h0
     exact⟨ft,ht,h1,cover h2 hA⟩
    ·rintro x a w ⟨ft,ht,h1,u6⟩
     obtain⟨ft',ht',h2,h3⟩:=kv.1 (h x)
     rw[h1] at h2
     simp only[aF,bz] at h2
     obtain⟨rfl,rfl⟩:=h2
     refine ih _ _ ft ht a w hj ?_ u6 h3
     intro e bx bG a' w' hk EY
     cases e with
     |n=>
      obtain⟨x',ρ',cj,h4⟩:=hk
      obtain⟨ft2,ht2,h5,h6⟩:=kv.1 h4
      exact⟨x',⟨ft2,ht2,h5,cover h6 EY⟩,cj⟩
     |x id=>exact hQ (.x id) bx bG a' w' hk EY
     |r=>exact hQ .r bx bG a' w' hk EY
   |zmD m σ u v μ x0 ρ h0 h=>
    replace hA:VI cx β0 hp0 w0 d0 fr (hp++aX m .d) a w:=zhF m hA
    simp only[PX] at h0 h
    refine Rn.zhj E (σ:=σ) (λ x a w=>∃ft ht,UI (wrs c) fr (hp++aX m .d) (u x) (v x)=ab (ft,ht)/\VI cx β0 hp0 w0 d0 ft ht a w) μ x0 ?_ ?_
    ·obtain⟨ft,ht,h1,h2⟩:=kv.1 h0
     exact⟨ft,ht,h1,cover h2 hA⟩
    ·rintro x a w ⟨ft,ht,h1,u6⟩
     obtain⟨ft',ht',h2,h3⟩:=kv.1 (h x)
     rw[h1] at h2
     simp only[aF,bz] at h2
     obtain⟨rfl,rfl⟩:=h2
     refine ih _ _ ft ht a w hj ?_ u6 h3
     intro e bx bG a' w' hk EY
     cases e with
     |n=>
      obtain⟨x',ρ',cj,h4⟩:=hk
      obtain⟨ft2,ht2,h5,h6⟩:=kv.1 h4
      exact⟨x',⟨ft2,ht2,h5,cover h6 EY⟩,cj⟩
     |x id=>exact hQ (.x id) bx bG a' w' hk EY
     |r=>exact hQ .r bx bG a' w' hk EY
  refine Rn.ziK E ?_
  cases h with
  |g h=>exact key fr hp a w hA h
  |un n h=>
   induction n generalizing fr hp a w with
   |zero=>exact key fr hp a w hA h
   |succ n ihn=>
    refine Rn.Zk E (ih _ _ fr hp a w hj ?_ hA h)
    intro e bx bG a' w' hk u6
    cases e with
    |n=>exact ihn bx bG a' w' u6 hk
    |x id=>exact hQ (.x id) bx bG a' w' hk u6
    |r=>exact hQ .r bx bG a' w' hk u6
 |exit id=>intro K Q fr hp a w _ hQ hA h;exact Rn.ziJ E (hQ (.x id) fr hp a w h hA)
 |ret=>intro K Q fr hp a w _ hQ hA h;exact Rn.zm7 E (hQ .r fr hp a w h hA)
 |_=>intro K Q fr hp a w _ hQ hA h;exact h.elim
end
end Ab
end
namespace Rn
open Go Go.Conc
section
variable{P P':aG}{O:aB->ai->(aB->ai->Prop)->Prop}{Fin:aj->ai->Prop}
def Wj(P:aG)(fn:fI)(R:aj->ai->Prop):Exit->Act->ai->Prop
 |.normal,a,w|.ret,a,w=>a.defers=[]/\∃v T0 d0,(results fn a.tmps).run P (World.on w T0 d0)=.ok v (World.on w T0 d0)/\R v w
 |_,_,_=>False
theorem T8(E:Env P P' O Fin){f:ck}{fn:fI}{c:Code}{args:Array aj}{R:aj->ai->Prop}{w:ai}(hf:P.funcs[f]?=ab fn)(hb:fn.body=ab c)
  (h:Sr P O Fin c (Wj P fn R) { tmps:=args++cU (fn.ntmps-args.size) undef,defers:=[] } w):zoF P O Fin f args w R:=by
 intro cl L hr hk
 let b:aB:={ (default:aB) with fn:=f,kind:=.normal }
 have yL:aU P f args .normal=b.at { tmps:=args++cU (fn.ntmps-args.size) undef,defers:=[] } [.code c]:=by
  simp[aU,oC,hf,hb,b]
 have back:∀(a:Act) (w:ai) (todo:List Item),(a.defers=[]/\∃v T0 d0,(results fn a.tmps).run P (World.on w T0 d0)=.ok v (World.on w T0 d0)/\R v w)->Rel P ⟨{ b.at a todo with mode:=.returning },cl::L,w⟩->Tree P O Fin { b.at a todo with mode:=.returning } (cl::L) w:=by
  intro a w todo ⟨h1,v,T0,d0,h2,h3⟩ AK
  have hp:(results fn a.tmps).runT P (World.on w T0 d0) #[]=(.ok v (World.on w T0 d0),(results fn a.tmps).events P (World.on w T0 d0) #[]):=by rw[Sem.runT_eq,h2]
  have e:∀(fr:aB),fr.mode=.returning->fr.defers=[]->fr.fn=f->fr.tmps=a.tmps->eG P fr (cl::L) (World.on w T0 d0)=.next (cl.finish v) L (World.on w T0 d0) (seen P f ((results fn a.tmps).events P (World.on w T0 d0) #[])) []:=by
   intro fr h1 h2 h3 h4
   simp only[eG,tI,h1,h2,h3,h4,hf,hp]
  have hs0:=e { b.at a todo with mode:=.returning } rfl h1 rfl rfl
  obtain⟨R0,bx,L',w',k1,k2,k3⟩:=AK.on' T0 d0
  have ht:=Yx E.g k1 (L:=cl::L) k3 (by rw[hs0];simp)
  refine QK E (fr1:=cl.finish v) (L1:=L) AK (λ T d=>?_) λ hr3=>hk v w h3 hr3
  have h4:=ht.2 T d
  rw[hs0] at h4
  have h5:=h4 (λ j q hj=>absurd hj (by simp[LR.drawn]))
  simp only[LR.drawn,Hv,ey] at h5
  exact⟨_,h5⟩
 rw[yL] at hr ⊢
 refine h b [] (cl::L) hr ⟨λ a w q AK=>?_,λ id a w q=>q.elim,λ a w todo q AK=>back a w todo q AK,λ l a w q=>q,λ ch a w q=>q,λ a w q=>q⟩
 exact jd E (fr1:={ b.at a [] with mode:=.returning }) (L1:=cl::L) AK (λ T d=>rfl) λ hr3=>back a w [] q hr3
end
end Rn
section
open Go.RowKit
namespace Ab
open Rn (World.on)
def zf5(N:aG)(O:aB->ai->(aB->ai->Prop)->Prop)(Fin:aj->ai->Prop)(f:ck)(sig:List (Sh⊕List Sh))(S:DA sig->(DV->Prop)->Prop):Prop:=
 ∀(x:DA sig) (K:DV->Prop),S x K->∀(w:ai) (vs:Array aj),rdA w sig x vs.toList->Gw w->
  ∀(ops:Array di) (i:Nat) (rest:List Nat) (o:di) (a:Act) (Q:Exit->Act->ai->Prop) (args:Array Operand) (qv:Array au),ops[i]?=ab o->aR o (yielded ops a.tmps)=ae->o.op=.call { callee:=.value (.func f),args,argTypes:=qv }->args.map a.eval=vs->
  (∀v w1,(∃d,K d/\Below w.heap.size w (World.on w1 w.tape w.drawn)/\∃bs,frV (World.on w1 w.tape w.drawn) w.heap.size d v bs/\bs.Nodup)->Rn.ET N O Fin ops Q rest (a.put o.dst v) w1)->Rn.ET N O Fin ops Q (i::rest) a w
section
variable{N P':aG}{O:aB->ai->(aB->ai->Prop)->Prop}{Fin:aj->ai->Prop}{T:oU}{G J:Env}
variable{f:ck}{sig:List (Sh⊕List Sh)}
theorem zhP(E:Rn.Env N P' O Fin){S:DA sig->(DV->Prop)->Prop}(h:zf5 N O Fin f sig S):Jx N O Fin f (dn sig S):=by
 refine⟨λ as1 hp K hS cx β w vs hI gl ha ops i rest o a Q args qv ho hw cM hargs hn=>?_⟩
 obtain⟨x,h1,h2⟩:=UF hI ha hS
 have Su:Gw (World.on w cx.w0.tape 0):=gl.1.keep gl.2 hI.kp
 have key:=h x _ h1 (World.on w cx.w0.tape 0) vs h2 Su ops i rest o a Q args qv ho hw cM hargs λ v w1 ⟨d,h3,hb,bs,h4,h5⟩=>by
  obtain⟨r,bG,cT,h6,h7,h8⟩:=zhh hI hb h4 h5 h3
  exact hn v w1 ⟨r,bG,cT,h6,h7,h8.on (cx:=cx) (T:=cx.w0.tape) (d:=cx.w0.drawn) (d1:=0) (d2:=0)⟩
 exact Rn.zm5 E key w.tape w.drawn
theorem zih{o:di}{a:Act}{args:Array Operand}{qv:Array au}(fc:(N.funcs[f]?).map (λ fn=>(fn.name == "runtime.NumGoroutine",fn.body.isNone))=ab (aa,aa))(cM:o.op=.call { callee:=.value (.func f),args,argTypes:=qv })(w:ai):
  (execOp a.eval o).run N w=.ok (.enter f (args.map a.eval)) w:=by
 obtain⟨dst,op,ty,pos,after,guard⟩:=o
 simp only at cM
 subst cM
 simp[execOp,resolve,Act.eval,Deferred.ofValue,invoke,qd fc]
variable{W0:List Nat}{TR:Nat->Tr}{fn:fI}
theorem zdv(E:Rn.Env N P' O Fin)(hT:jc N T)(hM:N.follows .mixedOrders=ae)(hG:bg N G)(hJ:∀f c,(f,c)∈J->Jx N O Fin f c){c:Code}(hc:fn.body=ab c)(hj:fn.body.all (jC J)=ae){w:ai}(hg:Gw w){xs:List AV}{vs:Array aj}{K:AV->Hp->Prop}
  (ha:Uv ⟨w,[]⟩ [] xs vs.toList) (hn:xs.length<=fn.ntmps) (hx:zN T (J++G) 0 W0 TR fn xs [] K):
  Rn.Sr N O Fin c (Rn.Wj N fn (λ v w1=>∃r bG cT,K r bG/\AC ⟨w,[]⟩ cT r v/\Inv ⟨w,[]⟩ cT bG (World.on w1 w.tape 0))) { tmps:=vs++cU (fn.ntmps-vs.size) undef,defers:=[] } w:=by
 unfold zN at hx
 rw[hc] at hx hj
 have hl:xs.length=vs.size:=by rw[ha.length];simp
 have hI:Inv ⟨w,[]⟩ [] [] (World.on w w.tape 0):=⟨⟨rfl,rfl,rfl,aA _,λ _ _ _=>rfl,λ _ h=>h⟩,rfl,λ k t e h=>by simp at h,λ i k b h=>by simp[ownB] at h⟩
 refine zbB (β0:=[]) (hp0:=[]) (w0:=w) (cx:=⟨w,[]⟩) (d0:=[]) E hT ⟨hG,.inr ⟨hg,Gm.nil⟩⟩ hJ ⟨hg,Gm.nil⟩ rfl hM c _ _ _ [] _ w hj ?_ ⟨[],hI,⟨?_,λ i x hi=>?_⟩,rfl,⟨λ k e _ he=>by simp at he,λ k b hb=>by simp[ownB] at hb,aA _,aA _,λ _ _ _=>rfl⟩⟩ hx
 ·intro e fr bG a w' hk ⟨cT,nX,Cr,rI,hL⟩
  cases e with
  |n=>
   obtain⟨r,h1,v,h2,h3⟩:=xq hT nX Cr hk
   exact⟨rI,v,_,_,h3,r,bG,cT,h1,h2,nX⟩
  |r=>
   obtain⟨r,h1,v,h2,h3⟩:=xq hT nX Cr hk
   exact⟨rI,v,_,_,h3,r,bG,cT,h1,h2,nX⟩
  |x id=>exact hk.elim
 ·rw[G4 _ _ hn];simp;omega
 ·rcases G3 _ _ i x hi with h1|rfl
  ·obtain⟨v,h2,h3⟩:=ha.get h1
   have cj:i<vs.size:=by
    have:=(aO.1 h2).1
    simpa using this
   have:(vs++cU (fn.ntmps-vs.size) undef).getD i undef=v:=by
    have h4:vs[i]?=ab v:=by simpa using h2
    simp[Array.getD_eq_getD_getElem?,Array.getElem?_append_left cj,h4]
   rw[this]
   exact h3
  ·trivial
def UD(T:oU)(J G:Env)(W0:List Nat)(TR:Nat->Tr)(fn:fI)(sig:List (Sh⊕List Sh))(S:DA sig->(DV->Prop)->Prop):Prop:=∀(x:DA sig) (K:DV->Prop),S x K->bdA sig x->xj sig x λ vs0=>zN T (J++G) 0 W0 TR fn vs0 [] λ r hp=>∃d,Pa hp r d/\K d
theorem zdg{T:oU}{G:Env}{xs:List AV}{K:AV->Hp->Prop}(h:zN T G 0 W0 TR fn xs [] K):∃c,fn.body=ab c:=by
 unfold zN at h
 split at h
 ·exact h.elim
 ·exact⟨_,by assumption⟩
theorem Zl(E:Rn.Env N P' O Fin)(hT:jc N T)(hM:N.follows .mixedOrders=ae)(hG:bg N G)(hJ:∀f c,(f,c)∈J->Jx N O Fin f c){S:DA sig->(DV->Prop)->Prop}(hn:hY sig.length fn.ntmps=ae)(hj:fn.body.all (jC J)=ae)
  (h:UD T J G W0 TR fn sig S) {x:DA sig} {K:DV->Prop} (hS:S x K) {w:ai} {vs:Array aj} (hr:rdA w sig x vs.toList) (hg:Gw w):
  ∃c,fn.body=ab c/\Rn.Sr N O Fin c (Rn.Wj N fn (λ v w1=>∃d,K d/\Below w.heap.size w (World.on w1 w.tape w.drawn)/\∃bs,frV (World.on w1 w.tape w.drawn) w.heap.size d v bs/\bs.Nodup)) { tmps:=vs++cU (fn.ntmps-vs.size) undef,defers:=[] } w:=by
 obtain⟨hb,ha⟩:=Cw (β:=[]) hr
 have hx:=qM.1 (h x K hS hb)
 obtain⟨c,hc⟩:=zdg hx
 refine⟨c,hc,Rn.PM (zdv E hT hM hG hJ hc hj hg ha (by rw[tR];simpa using hn) hx) ?_⟩
 have fin:∀{v:aj} {w':ai},(∃r bG cT,(∃d,Pa bG r d/\K d)/\AC ⟨w,[]⟩ cT r v/\Inv ⟨w,[]⟩ cT bG (World.on w' w.tape 0))->∃d,K d/\Below w.heap.size w (World.on w' w.tape w.drawn)/\∃bs,frV (World.on w' w.tape w.drawn) w.heap.size d v bs/\bs.Nodup:=by
  intro v w' ⟨r,bG,cT,⟨d,h1,h2⟩,h3,nX⟩
  have hI2:=nX.on (T:=w.tape) (d:=w.drawn) (d':=w.drawn)
  obtain⟨bs,h4,h5⟩:=YM hI2 (h3.on (T:=w.tape) (d:=w.drawn)) h1
  exact⟨d,h2,⟨hI2.kp.os,hI2.kp.tape,hI2.kp.output,hI2.kp.size,λ b hb=>hI2.kp.block b hb (by simp)⟩,bs,h4,h5⟩
 intro e a w' hq
 cases e with
 |normal=>exact⟨hq.1,let ⟨v,T0,d0,h1,h2⟩:=hq.2;⟨v,T0,d0,h1,fin h2⟩⟩
 |ret=>exact⟨hq.1,let ⟨v,T0,d0,h1,h2⟩:=hq.2;⟨v,T0,d0,h1,fin h2⟩⟩
 |_=>exact hq.elim
theorem zmR(E:Rn.Env N P' O Fin)(hT:jc N T)(hM:N.follows .mixedOrders=ae)(hG:bg N G)(hJ:∀f c,(f,c)∈J->Jx N O Fin f c){S:DA sig->(DV->Prop)->Prop}(hfn:N.funcs[f]?=ab fn)(hn:hY sig.length fn.ntmps=ae)(fc:(N.funcs[f]?).map (λ fn=>(fn.name == "runtime.NumGoroutine",fn.body.isNone))=ab (aa,aa))(hj:fn.body.all (jC J)=ae)
  (h:UD T J G W0 TR fn sig S):zf5 N O Fin f sig S:=by
 intro x K hS w vs hr hg ops i rest o a Q args qv ho hw cM hargs zhd
 obtain⟨c,hc,hjw⟩:=Zl E hT hM hG hJ hn hj h hS hr hg
 exact Rn.zeM E ho hw (f:=f) (args:=vs) (λ T d=>by rw[<-hargs];exact zih fc cM _) (Rn.T8 E hfn hc hjw) zhd
end
end Ab
end
namespace Rn
open Go Go.Conc Go.RowKit Go.Proofs.YtdpfknhenjngcaaGreatDoor.Ab
section
variable{N P:aG}{f0:aB}{L0:List aB}{w0 w:ai}{fr:aB}{L:List aB}{Fin:aj->ai->Prop}
theorem zjJ(h:Tree N (λ _ _ _=>False) Fin f0 L0 w0)(p:Pth N f0 L0 w0 fr L w):Tree N (λ _ _ _=>False) Fin fr L w:=by
 induction p with
 |nil=>exact h
 |snoc _ hs ih=>
  cases ih with
  |mk ok nx=>exact nx _ _ _ _ _ _ _ hs
  |ask S h _=>exact h.elim
theorem Vw{v:aj}{w1:ai}(h:Tree N (λ _ _ _=>False) Fin f0 [] w0)(p:VY N f0 w0 v w1):Fin v w1:=by
 obtain⟨fr,w,T,d,es,p1,hs⟩:=p
 cases zjJ h p1 with
 |mk ok nx=>
  rcases ok T d with⟨v2,w2,es2,h1,h2⟩|⟨fr1,L1,w2,es2,acts,h1⟩
  ·rw[hs] at h1
   cases h1
   exact h2
  ·rw[hs] at h1
   cases h1
 |ask S h _=>exact h.elim
theorem znl(g:PG N P)(gp:GP N){R:BR}{f0':aB}{L0':List aB}{W0:ai}(hf:yC N R f0 f0')(hl:LA N R L0 L0')(hh:HR R w0 W0)(p:Pth N f0 L0 w0 fr L w):∃R1 bx L' W,yC N R1 fr bx/\LA N R1 L L'/\HR R1 w W/\R.le R1:=by
 induction p with
 |nil=>exact⟨R,f0',L0',W0,hf,hl,hh,BR.le_refl R⟩
 |@snoc fr fr1 L L1 w w1 T d es acts _ hs ih=>
  obtain⟨R1,bx,L',W,k1,k2,k3,k4⟩:=ih
  have s:=sim g gp k1 k2 (w:=World.on w T d) (w':=World.on W T d) ⟨k3.inj,k3.obj,k3.kinds⟩ (λ n j q _=>rfl)
  rw[hs] at s
  obtain⟨AO,Yc,W1,_,_,R2,_,m1,m2,m3,m4,_⟩:=s
  exact⟨R2,AO,Yc,W1,m1,m2,m3,BR.le_trans k4 m4.le⟩
theorem zi6(g:PG N P)(gp:GP N){R:BR}{f0':aB}{W0:ai}(hf:yC N R f0 f0')(hh:HR R w0 W0){v:aj}{w1:ai}(p:VY N f0 w0 v w1):∃R1 W,HR R1 w1 W/\R.le R1:=by
 obtain⟨fr,w,T,d,es,p1,hs⟩:=p
 obtain⟨R1,bx,L',W,k1,k2,k3,k4⟩:=znl (L0:=[]) (L0':=[]) g gp hf trivial hh p1
 have s:=sim g gp k1 k2 (w:=World.on w T d) (w':=World.on W T d) ⟨k3.inj,k3.obj,k3.kinds⟩ (λ n j q _=>rfl)
 rw[hs] at s
 obtain⟨v',W1,_,R2,_,m1,m2,m3,_⟩:=s
 exact⟨R2,W1,m2,BR.le_trans k4 m3.le⟩
end
theorem B5{p:aj->Bool}:∀{l:List aj} {m:Nat},(l.take m).all p=ae->(l.takeWhile p).take m=l.take m
 |[],m,_=>by simp
 |a::l,0,_=>by simp
 |a::l,m+1,h=>by
  simp only[List.take_succ_cons,oF,aE] at h
  simp[List.takeWhile_cons,h.1,B5 h.2]
variable{v:aj}
theorem znc(h:tJ v=ae):vp v=ae:=by cases v<;>first|rfl|(cases h)
theorem PV{cur:Array aj}{m:Nat}(h:(cur.toList.take m).all tJ=ae):(GC cur).toList.take m=cur.toList.take m:=by
 unfold GC
 simp only
 refine B5 ?_
 rw[ef] at h ⊢
 exact λ v hv=>znc (h v hv)
variable{w:ai}{n:Nat}{xs:List aj}
theorem zrJ{sz:Nat}(h:Sl w sz v n xs):Sl (VJ w) sz v n xs:=by
 refine⟨h.1,h.2.imp (λ⟨h0,a,cap,h1,h2,h3⟩=>⟨h0,a,cap,h1,h2,λ ad he=>?_⟩) λ⟨g,off,cap,cur,T,h1,h2,h3,⟨h4,h5⟩,h6⟩=>⟨g,off,cap,GC cur,(T.1,(0,(GC cur).size)),h1,h2,xp h3,⟨?_,?_⟩,?_⟩⟩
 ·obtain⟨c,e,f,h⟩:=h3 ad he
  exact⟨_,_,_,xp h⟩
 ·have:=congrArg List.length (PV h5)
  simp only[dm,cA] at this
  omega
 ·rw[PV h5]
  exact h5
 ·have e:∀l:List aj,(l.drop off).take (n*sz)=(l.take (off+n*sz)).drop off:=λ l=>by rw[List.drop_take,Nat.add_sub_cancel_left]
  rw[e,PV h5,<-e]
  exact h6
variable{s:Sh}
theorem zm0{x:s.T}(h:rdL w s x v):rdL (VJ w) s x v:=by
 cases s<;>first|exact h|exact⟨zrJ h.1,h.2⟩
theorem WQ{w:ai}:∀{ss:List Sh} {x:HL ss} {vs:List aj},VV w ss x vs->VV (VJ w) ss x vs
 |[],_,[],_=>trivial
 |_::_,_,_::_,h=>⟨zm0 h.1,WQ h.2⟩
 |[],_,_::_,h=>h.elim
 |_::_,_,[],h=>h.elim
theorem zhs{sz:Nat}(h:Sl w sz v n xs):VR (UH w) v v/\pP v=ae:=by
 rcases h.2 with⟨rfl,a,cap,rfl,_,h3⟩|⟨g,off,cap,cur,T,rfl,h2,h3,_⟩
 ·refine⟨.slice _ _ ?_,rfl⟩
  cases a with
  |none=>trivial
  |some ad=>exact⟨⟨0,⟨rfl,rfl,h3 ad rfl⟩,bw _⟩,rfl,rfl⟩
 ·exact⟨.slice _ _ ⟨⟨0,⟨rfl,rfl,_,_,_,h3⟩,bw _⟩,rfl,rfl⟩,rfl⟩
theorem zr1{x:s.T}(h:rdL w s x v):VR (UH w) v v/\pP v=ae:=by
 cases s with
 |int=>have e:v=.int .i64 x:=h;subst e;exact⟨.int _ _,rfl⟩
 |bool=>have e:v=.bool x:=h;subst e;exact⟨.bool _,rfl⟩
 |ints=>exact zhs h.1
 |bK=>exact zhs h.1
 |bytes=>exact zhs h.1
theorem zbh{w:ai}:∀{ss:List Sh} {x:HL ss} {vs:List aj},VV w ss x vs->vs.length=ss.length/\∀v∈vs,VR (UH w) v v/\pP v=ae
 |[],_,[],_=>⟨rfl,λ _ h=>(by cases h)⟩
 |_::_,_,v::vs,h=>by
  obtain⟨h1,h2⟩:=zbh h.2
  refine⟨by simp[h1],λ u hu=>?_⟩
  rcases bF.1 hu with rfl|hu
  ·exact zr1 h.1
  ·exact h2 u hu
 |[],_,_::_,h=>h.elim
 |_::_,_,[],h=>h.elim
theorem UZ{R:BR}{l:List aj}(h:∀v∈l,VR R v v/\pP v=ae):AV R l.toArray l.toArray/\l.toArray.all pP=ae:=by
 refine⟨⟨rfl,λ i v v' a b=>?_⟩,?_⟩
 ·rw[a] at b
  cases b
  have:=df a
  exact(h v (by simpa using this)).1
 ·rw[aT]
  exact λ v hv=>(h v (by simpa using hv)).2
def Old(w w':ai):Prop:=∀b,b<w.heap.size->w'.heap[b]?=w.heap[b]?
variable{w':ai}
theorem zsb(hb:Old w w'){sz:Nat}(h:Sl w sz v n xs):Sl w' sz v n xs:=by
 refine⟨h.1,h.2.imp (λ⟨h0,a,cap,h1,h2,h3⟩=>⟨h0,a,cap,h1,h2,λ ad he=>(h3 ad he).same (hb _ (h3 ad he).lt)⟩) λ⟨g,off,cap,cur,T,h1,h2,h3,h4,h5⟩=>⟨g,off,cap,cur,T,h1,h2,?_,h4,h5⟩⟩
 rw[hb g (ah.1 h3).1]
 exact h3
theorem znr(hb:Old w w'){x:s.T}(h:rdL w s x v):rdL w' s x v:=by
 cases s<;>first|exact h|exact⟨zsb hb h.1,h.2⟩
theorem W7{w w':ai}(hb:Old w w'):∀{ss:List Sh} {x:HL ss} {vs:List aj},VV w ss x vs->VV w' ss x vs
 |[],_,[],_=>trivial
 |_::_,_,_::_,h=>⟨znr hb h.1,W7 hb h.2⟩
 |[],_,_::_,h=>h.elim
 |_::_,_,[],h=>h.elim
variable{bs:List Nat}
theorem zmZ(hb:Old w w'){b1 b2:Nat}(hle:b2<=b1){d:DL}(h:frL w b1 d v bs):frL w' b2 d v bs:=by
 cases d with
 |v x=>exact h
 |s E l=>
  obtain⟨h1,h2⟩:=h
  refine⟨⟨h1.1,h1.2.imp id λ⟨g,cap,cur,e1,e2,e3,e4⟩=>⟨g,cap,cur,e1,bD hle e2,?_,e4⟩⟩,h2⟩
  rw[hb g (ah.1 e3).1]
  exact e3
theorem Hf{w w':ai}(hb:Old w w'){b1 b2:Nat}(hle:b2<=b1):∀{ds:List DL} {vs:List aj} {bs:List Nat},C6 w b1 ds vs bs->C6 w' b2 ds vs bs
 |[],[],_,h=>h
 |_::_,_::_,_,⟨x,y,e,h1,h2⟩=>⟨x,y,e,zmZ hb hle h1,Hf hb hle h2⟩
 |[],_::_,_,h=>h.elim
 |_::_,[],_,h=>h.elim
theorem Zg{w:ai}{b:Nat}:∀{ds ds':List DL} {vs vs':List aj} {bs bs':List Nat},C6 w b ds vs bs->C6 w b ds' vs' bs'->C6 w b (ds++ds') (vs++vs') (bs++bs')
 |[],_,[],_,bs,_,h,k=>by
  have e:bs=[]:=h
  subst e
  exact k
 |_::_,_,_::_,_,_,_,⟨x,y,e,h1,h2⟩,k=>⟨x,_,by rw[e,dN],h1,Zg h2 k⟩
 |[],_,_::_,_,_,_,h,_=>h.elim
 |_::_,_,[],_,_,_,h,_=>h.elim
theorem zrH{b:Nat}{d:DL}(h:frL w b d v bs):(∀k∈bs,b<=k/\k<w.heap.size)/\pP v=ae:=by
 cases d with
 |v x=>
  obtain⟨rfl,h1,rfl⟩:=h
  refine⟨λ _ hk=>(by cases hk),?_⟩
  cases v<;>first|rfl|(cases h1)
 |s E l=>
  obtain⟨h1,_,rfl⟩:=h
  refine⟨λ k hk=>h1.lt k (by simpa using hk),?_⟩
  obtain⟨a,c,rfl⟩:=xG h1
  rfl
theorem OL{w:ai}{b:Nat}:∀{ds:List DL} {vs:List aj} {bs:List Nat},C6 w b ds vs bs->vs.length=ds.length/\(∀k∈bs,b<=k/\k<w.heap.size)/\∀v∈vs,pP v=ae
 |[],[],bs,h=>by
  have e:bs=[]:=h
  subst e
  exact⟨rfl,λ _ h=>(by cases h),λ _ h=>(by cases h)⟩
 |_::_,v::vs,_,⟨x,y,e,h1,h2⟩=>by
  subst e
  obtain⟨k1,k2⟩:=zrH h1
  obtain⟨k3,k4,k5⟩:=OL h2
  refine⟨by simp[k3],λ k hk=>(jr.1 hk).elim (k1 k) (k4 k),λ u hu=>?_⟩
  rcases bF.1 hu with rfl|hu
  ·exact k2
  ·exact k5 u hu
 |[],_::_,_,h=>h.elim
 |_::_,[],_,h=>h.elim
def OD:(s1 s2:List Sh)->HL (s1++s2)->HL s1
 |[],_,_=>()
 |_::r,s2,x=>(x.1,OD r s2 x.2)
def hl2:(s1 s2:List Sh)->HL (s1++s2)->HL s2
 |[],_,x=>x
 |_::r,s2,x=>hl2 r s2 x.2
theorem Vk{w:ai}:∀{s1 s2:List Sh} {x:HL (s1++s2)} {vs:List aj},VV w (s1++s2) x vs->∃l1 l2,vs=l1++l2/\VV w s1 (OD s1 s2 x) l1/\VV w s2 (hl2 s1 s2 x) l2
 |[],_,_,vs,h=>⟨[],vs,rfl,trivial,h⟩
 |_::_,_,_,v::vs,h=>by
  obtain⟨l1,l2,e,h1,h2⟩:=Vk h.2
  exact⟨v::l1,l2,by rw[e];rfl,⟨h.1,h1⟩,h2⟩
 |_::_,_,_,[],h=>h.elim
abbrev yE:List Sh:=[.int,.int,.int,.int,.int,.int,.int,.bK,.bool,.int,.int,.ints,.int,.int,.bool,.bool,.bool,.bool,.ints,.ints,.int,.int]
def YD:HL yE->iY:=λ⟨fb,fq,fst,pe,pc,rr,rt,rl,ro,ra,sr,sl,ss,sf,mc,mh,cy,cz,qi,qo,cw,cl,_⟩=>⟨⟨⟨fb,fq,fst⟩,pe,pc,⟨rr,rt,rl,ro,ra⟩,⟨sr,sl,ss,sf⟩,⟨mc,mh,cy,cz⟩⟩,qi,qo,cw,cl⟩
theorem zeB(x:iY):x.d.length=22:=rfl
def zf7(w:ai)(x:iY)(v:aj)(w1:ai):Prop:=(w1.os=w.os/\w1.output=w.output/\w.heap.size<=w1.heap.size/\Old w w1)/\∃cs n m bs,v=.tuple #[.agg cs,n,m]/\C6 w1 w.heap.size (oy x).x.d cs.toList bs/\bs.Nodup
theorem zit{b:Nat}{ds:List DL}{n m:aj}{us:Array aj}(h:zed w b [.inr ds,.inl (.v n),.inl (.v m)] us.toList bs):∃cs,us=#[.agg cs,n,m]/\C6 w b ds cs.toList bs:=by
 obtain⟨l⟩:=us
 match l,h with
 |[v1,v2,v3],⟨b1,b2,e1,⟨cs,e2,h2⟩,b3,b4,e3,h3,b5,b6,e4,h4,h5⟩=>
  have h5':b6=[]:=h5
  obtain⟨rfl,_,rfl⟩:=h3
  obtain⟨rfl,_,rfl⟩:=h4
  subst e2 h5' e4 e3 e1
  exact⟨cs,rfl,by simpa using h2⟩
theorem zmY{x:iY}(v:aj)(w1:ai)(T:Nat->dP->Nat)(d:Nat)(h:zf7 w x v w1):zf7 w x v (World.on w1 T d):=by
 obtain⟨h1,cs,n,m,bs,h2,h3,h4⟩:=h
 exact⟨h1,cs,n,m,bs,h2,Hf (w:=w1) (w':=World.on w1 T d) (λ _ _=>rfl) (aA _) h3,h4⟩
theorem Zf{x:iY}{w1:ai}(h:zf7 w x v w1):LH v w1:=by
 obtain⟨_,cs,n,m,bs,h2,h3,_⟩:=h
 obtain⟨k1,_,k3⟩:=OL h3
 refine⟨cs,n,m,h2,by rw[<-cA,k1];exact zeB _,?_⟩
 rw[aT]
 exact λ v hv=>k3 v (by simpa using hv)
section
variable{P':aG}{Fin:aj->ai->Prop}
theorem zmW(w:ai){cs:Array aj}{x:HL yE}(hx:VV w yE x cs.toList)(T:Nat->dP->Nat)(d:Nat):
  Calls al.prog 17 #[.agg cs] (World.on w T d) λ e w1=>∃v,e=.returned v/\zf7 w (YD x) v w1:=by
 refine Calls.mono (vW (x,()) (λ y=>y=(oy (YD x)).d) rfl (World.on w T d) #[.agg cs] ⟨⟨cs,rfl,W7 (w:=w) (w':=World.on w T d) (λ _ _=>rfl) hx⟩,trivial⟩ trivial) ?_
 rintro e w1 ⟨y,v,rfl,rfl,hb,bs,⟨us,rfl,h1⟩,h2⟩
 obtain⟨kT,rfl,h3⟩:=zit h1
 exact⟨_,rfl,⟨hb.os,hb.output,hb.size,λ b kU=>hb.block b kU⟩,kT,_,_,bs,rfl,h3,h2⟩
theorem za5:∃fn,al.prog.funcs[17]?=ab fn/\fn.body.isSome=ae:=⟨_,(Rn.fM Tryz.func17),gK⟩
theorem zda{R:BR}{x y:Array aj}(h:AV R x y):AV R #[.agg x] #[.agg y]:=by
 refine⟨rfl,λ i v v' a b=>?_⟩
 match i with
 |0=>
  simp only[dG,bE,aF] at a b
  subst a b
  exact .agg h.size h.at_
 |i+1=>simp at a
theorem OG(g:PG al.prog P')(gp:GP al.prog){w:ai}{cs:Array aj}{x:HL yE}(hx:VV w yE x cs.toList){R:BR}{kT:Array aj}{W:ai}(hc:AV R cs kT)(hh:HR R w W):Tree al.prog (λ _ _ _=>False) (zf7 w (YD x)) (dsF al.prog cs) [] w:=by
 have hr:Rel al.prog ⟨dsF al.prog cs,[],w⟩:=⟨R,_,[],W,px g gp za5 (zda hc),trivial,hh⟩
 exact zE (Tg:=λ _ _ _=>False) g gp ⟨λ _ _ _ _ _ h=>h,zmY⟩ (x:=⟨dsF al.prog cs,[],w⟩) hr (λ T d=>XK g gp (hr.on' T d) (zmW w hx T d)) (λ _ _ _ _ h=>h.elim)
theorem ZK{N:aG}{O:aB->ai->(aB->ai->Prop)->Prop}{F1 F2:aj->ai->Prop}(hf:∀v w,F1 v w->F2 v w){fr:aB}{L:List aB}{w:ai}(h:Tree N O F1 fr L w):Tree N O F2 fr L w:=by
 induction h with
 |mk ok _ ih=>exact .mk (λ T d=>(ok T d).imp (λ⟨v,w1,es,h1,h2⟩=>⟨v,w1,es,h1,hf _ _ h2⟩) id) ih
 |ask S h _ ih=>exact .ask S h ih
theorem zi0{w1 w2:ai}{b0 b1:Nat}{ds ds':List DL}{vs vs':List aj}{x y:List Nat}(h1:C6 w1 b0 ds vs x)(h2:C6 w2 b1 ds' vs' y)(hb:w1.heap.size<=b1)(n1:x.Nodup)(n2:y.Nodup):(x++y).Nodup:=by
 refine List.nodup_append.2 ⟨n1,n2,λ a ha b kU e=>?_⟩
 have k1:=(OL h1).2.1 a ha
 have k2:=(OL h2).2.1 b kU
 omega
theorem ND(g:PG al.prog P')(gp:GP al.prog):zf5 al.prog (lN al.prog) Fin 38 [.inr (yE++yE)] (λ x K=>K (.a ((oy (YD (OD yE yE x.1))).x.d++(oy (YD (hl2 yE yE x.1))).x.d))):=by
 intro x K hS w vs hr _ ops i rest o a Q args qv ho hw cM hargs zhd
 obtain⟨lv⟩:=vs
 match lv,hr with
 |[v0],⟨⟨us,ev,hrd⟩,_⟩=>
 subst ev
 obtain⟨l⟩:=us
 obtain⟨lA,lB,e,hA,hB⟩:=Vk (s1:=yE) (s2:=yE) hrd
 simp only at e
 subst e
 obtain⟨la⟩:=args
 obtain⟨x0,rfl,ex0⟩:∃x0,la=[x0]/\a.eval x0=.agg (lA.toArray++lB.toArray):=by
  simp only[List.map_toArray,uq] at hargs
  cases la with
  |nil=>simp at hargs
  |cons x0 r=>
   cases r with
   |cons y s=>simp at hargs
   |nil=>
    simp only[List.map_cons,List.map_nil,iw,and_true] at hargs
    exact⟨x0,rfl,by rw[hargs];simp⟩
 intro b k L hrel hk
 obtain⟨R,bx,L',W',h1,h2,h3⟩:=id hrel
 have fc:u7 x0=ae:=by
  have:=h1.ok (.inRegion ops (i::rest)) (by simp[oC])
  simp only[qG,aT] at this
  have h4:=this o (df ho)
  rw[cM] at h4
  simp only[Pb,WB,aE] at h4
  simpa using h4.1
 have hv:=h1.eval fc
 have sC:=Frame.eval_at' b a (.inRegion ops (i::rest)::k)
 rw[sC,ex0] at hv
 obtain⟨kT,hav⟩:∃kT,AV R (lA.toArray++lB.toArray) kT:=by
  generalize bx.eval x0=u at hv
  cases hv with
  |agg hc hcv=>exact⟨_,⟨hc,hcv⟩⟩
 obtain⟨nA,vA⟩:=zbh hA
 obtain⟨nB,vB⟩:=zbh hB
 have zA:lA.toArray.size=22:=by simpa using nA
 have zB:lB.toArray.size=22:=by simpa using nB
 obtain⟨cA',cB',rfl,hcA,hcB,_,_⟩:=YU hav zA zB
 obtain⟨fA,oA⟩:=UZ vA
 obtain⟨fB,oB⟩:=UZ vB
 have u6:VV w yE (OD yE yE x.1) lA.toArray.toList:=hA
 have hB':VV w yE (hl2 yE yE x.1) lB.toArray.toList:=hB
 refine .ask _ ⟨b,a,ops,i,rest,k,o,x0,qv,lA.toArray,lB.toArray,rfl,ho,hw,cM,fc,ex0,⟨zA,zB,oA,oB⟩,fA,fB,
  ZK (λ _ _=>Zf) (OG g gp (WQ u6) fA (zdr w)),ZK (λ _ _=>Zf) (OG g gp (WQ hB') fB (zdr w)),rfl⟩ ?_
 rintro fr1 w1 ⟨T,d,Jq,x1,y1,wA,csQ,x2,y2,p1,p2,z1,z2,rfl⟩ rj
 have tA:=(OG g gp u6 hcA h3).on (λ _ _ _ _ _ h=>h) T d
 obtain⟨⟨o1,o2,o3,o4⟩,cs1,n1,m1,b1,e1,f1,q1⟩:=Vw tA p1
 obtain⟨R1,W1,hh1,hle⟩:=zi6 g gp (px g gp za5 (zda hcA)) (h3.on T d) p1
 obtain⟨⟨o5,o6,o7,o8⟩,cs2,n2,m2,b2,e2,f2,q2⟩:=Vw (OG g gp (W7 o4 hB') (hcB.mono hle) hh1) p2
 have e1':Jq=cs1:=by
  simp only[Value.tuple.injEq,uq,iw,Value.agg.injEq] at e1
  exact e1.1
 have e2':csQ=cs2:=by
  simp only[Value.tuple.injEq,uq,iw,Value.agg.injEq] at e2
  exact e2.1
 subst e1' e2'
 have oV:∀v,(b.at a (.inRegion ops (i::rest)::k)).finish v=b.at (a.put o.dst v) (.inRegion ops rest::k):=by
  intro v;rw[Frame.finish_at,ho];rfl
 rw[oV] at rj ⊢
 refine zhd _ w1 ⟨_,hS,⟨o5.trans o1,rfl,o6.trans o2,bD o3 o7,λ j hj=>(o8 j (Nat.lt_of_lt_of_le hj o3)).trans (o4 j hj)⟩,b1++b2,⟨Jq++csQ,rfl,?_⟩,zi0 f1 f2 (aA _) q1 q2⟩ b k L rj hk
 rw[Array.toList_append]
 exact Zg (Hf (w:=wA) (w':=World.on w1 w.tape w.drawn) (λ j hj=>o8 j hj) (aA _) f1) (Hf (w:=w1) (w':=World.on w1 w.tape w.drawn) (λ _ _=>rfl) o3 f2)
end
end Rn
namespace Rn
open Go Go.Conc
section
variable{P P':aG}{O:aB->ai->(aB->ai->Prop)->Prop}{Fin:aj->ai->Prop}
theorem Ix(E:Env P P' O Fin){f:ck}{fn:fI}{c:Code}{args:Array aj}{R:aj->ai->Prop}{w:ai}(hf:P.funcs[f]?=ab fn)(hb:fn.body=ab c)
  (h:Sr P O Fin c (Wj P fn R) { tmps:=args++cU (fn.ntmps-args.size) undef,defers:=[] } w) (hR:∀v w1,R v w1->Fin v w1) (hr:Rel P ⟨aU P f args .normal,[],w⟩):Tree P O Fin (aU P f args .normal) [] w:=by
 let b:aB:={ (default:aB) with fn:=f,kind:=.normal }
 have yL:aU P f args .normal=b.at { tmps:=args++cU (fn.ntmps-args.size) undef,defers:=[] } [.code c]:=by
  simp[aU,oC,hf,hb,b]
 have back:∀(a:Act) (w:ai) (todo:List Item),(a.defers=[]/\∃v T0 d0,(results fn a.tmps).run P (World.on w T0 d0)=.ok v (World.on w T0 d0)/\R v w)->Rel P ⟨{ b.at a todo with mode:=.returning },[],w⟩->Tree P O Fin { b.at a todo with mode:=.returning } [] w:=by
  intro a w todo ⟨h1,v,T0,d0,h2,h3⟩ AK
  have hp:(results fn a.tmps).runT P (World.on w T0 d0) #[]=(.ok v (World.on w T0 d0),(results fn a.tmps).events P (World.on w T0 d0) #[]):=by rw[Sem.runT_eq,h2]
  have e:∀(fr:aB),fr.mode=.returning->fr.defers=[]->fr.fn=f->fr.tmps=a.tmps->eG P fr [] (World.on w T0 d0)=.ret v (World.on w T0 d0) (seen P f ((results fn a.tmps).events P (World.on w T0 d0) #[])):=by
   intro fr h1 h2 h3 h4
   simp only[eG,tI,h1,h2,h3,h4,hf,hp]
  have hs0:=e { b.at a todo with mode:=.returning } rfl h1 rfl rfl
  obtain⟨R0,bx,L',w',k1,k2,k3⟩:=AK.on' T0 d0
  have ht:=Yx E.g k1 (L:=[]) k3 (by rw[hs0];simp)
  have key:∀T d,∃es,eG P { b.at a todo with mode:=.returning } [] (World.on w T d)=.ret v (World.on w T d) es:=λ T d=>by
   have h4:=ht.2 T d
   rw[hs0] at h4
   have h5:=h4 (λ j q hj=>absurd hj (by simp[LR.drawn]))
   simp only[LR.drawn,Hv,ey] at h5
   exact⟨_,h5⟩
  refine .mk (λ T d=>?_) λ T d fr1 L1 w1 es acts hs=>?_
  ·obtain⟨es,h5⟩:=key T d
   exact .inl ⟨v,_,es,h5,E.fin _ _ _ _ (hR _ _ h3)⟩
  ·obtain⟨es,h5⟩:=key T d
   rw[h5] at hs
   cases hs
 rw[yL] at hr ⊢
 refine h b [] [] hr ⟨λ a w q AK=>?_,λ id a w q=>q.elim,λ a w todo q AK=>back a w todo q AK,λ l a w q=>q,λ ch a w q=>q,λ a w q=>q⟩
 exact jd E (fr1:={ b.at a [] with mode:=.returning }) (L1:=[]) AK (λ T d=>rfl) λ hr3=>back a w [] q hr3
end
end Rn
section
open Go.RowKit
namespace Ab
open Rn (World.on)
abbrev MS(v:aj)(_:ai):Prop:=v=.bool ae
section
variable{N P':aG}{O:aB->ai->(aB->ai->Prop)->Prop}{T:oU}{G J:Env}
variable{TR:Nat->Tr}{fn:fI}
theorem ZL{W0:List Nat}{sig:List (Sh⊕List Sh)}{S:DA sig->(DV->Prop)->Prop}(h:∀(x:DA sig) (K:DV->Prop),S x K->bdA sig x->xj sig x λ vs0=>zK T (J++G) 0 W0 TR fn vs0 [] λ r hp=>∃d,Pa hp r d/\K d):UD T J G W0 TR fn sig S:=by
 rw[xn] at h
 exact h
theorem ziQ(E:Rn.Env N P' O MS)(hT:jc N T)(hM:N.follows .mixedOrders=ae)(hG:bg N G)(hJ:∀f c,(f,c)∈J->Jx N O MS f c){W0:List Nat}{f:ck}(hfn:N.funcs[f]?=ab fn){sig:List (Sh⊕List Sh)}{S:DA sig->(DV->Prop)->Prop}(hn:hY sig.length fn.ntmps=ae)(hj:fn.body.all (jC J)=ae)
  (h:UD T J G W0 TR fn sig S) {x:DA sig} (hS:S x λ d=>d=.l (.v (.bool ae))) {w:ai} {vs:Array aj} (hr:rdA w sig x vs.toList) (hg:Gw w) (hrel:Rn.Rel N ⟨aU N f vs .normal,[],w⟩):Rn.Tree N O MS (aU N f vs .normal) [] w:=by
 obtain⟨c,hc,hw⟩:=Zl E hT hM hG hJ hn hj h hS hr hg
 refine Rn.Ix E hfn hc hw ?_ hrel
 rintro v w1 ⟨d,rfl,_,bs,h1,_⟩
 exact h1.1
theorem znb(E:Rn.Env N P' O MS)(hT:jc N T)(hM:N.follows .mixedOrders=ae)(hG:bg N G)(hJ:∀f c,(f,c)∈J->Jx N O MS f c){f:ck}(hfn:N.funcs[f]?=ab fn)(hj:fn.body.all (jC J)=ae){xs:List AV}{vs:Array aj}{w:ai}(hg:Gw w)
  (ha:Uv ⟨w,[]⟩ [] xs vs.toList) (hn:hY xs.length fn.ntmps=ae) (hx:zK T (J++G) 0 [] TR fn xs [] λ r _=>r=B ae) (hrel:Rn.Rel N ⟨aU N f vs .normal,[],w⟩):Rn.Tree N O MS (aU N f vs .normal) [] w:=by
 rw[xn] at hx
 obtain⟨c,hc⟩:=zdg hx
 refine Rn.Ix E hfn hc (zdv E hT hM hG hJ hc hj hg ha (by simpa using hn) hx) ?_ hrel
 rintro v w1 ⟨r,bG,cT,rfl,h,_⟩
 exact h.2
end
end Ab
end
section
open Go.RowKit
open Ab
def zum(N:aG)(O:aB->ai->(aB->ai->Prop)->Prop)(Fin:aj->ai->Prop):Env->Prop
 |[]=>True
 |(f,c)::r=>Jx N O Fin f c/\zum N O Fin r
theorem WV{N:aG}{O:aB->ai->(aB->ai->Prop)->Prop}{Fin:aj->ai->Prop}:∀{J:Env},zum N O Fin J->∀f c,(f,c)∈J->Jx N O Fin f c
 |[],_,_,_,h=>by cases h
 |(f',c')::r,hJ,f,c,h=>by
  rcases bF.1 h with e|h
  ·cases e
   exact hJ.1
  ·exact WV hJ.2 f c h
theorem Nu:ji al.prog 16 [Pf] (λ⟨⟨fO,fW,cu,gC,gu,gL,gN,fP,gH,gE,fF,eM,fg,fC,gw,gy,cI,cK,fN,fU,cq,gD,gv,gM,gP,fe,gJ,gG,fG,eQ,fH,fE,gx,gz,cJ,cL,_⟩,_⟩ K=>az (xf ⟨⟨⟨fO,fW,cu⟩,gC,gu,⟨gL,gN,fP,gH,gE⟩,⟨fF,eM,fg,fC⟩,⟨gw,gy,cI,cK⟩⟩,⟨⟨fN,fU,cq⟩,gD,gv,⟨gM,gP,fe,gJ,gG⟩,⟨fG,eQ,fH,fE⟩,⟨gx,gz,cJ,cL⟩⟩⟩=ae) <| ∀x:VM,x=vv ⟨⟨⟨fO,fW,cu⟩,gC,gu,⟨gL,gN,fP,gH,gE⟩,⟨fF,eM,fg,fC⟩,⟨gw,gy,cI,cK⟩⟩,⟨⟨fN,fU,cq⟩,gD,gv,⟨gM,gP,fe,gJ,gG⟩,⟨fG,eQ,fH,fE⟩,⟨gx,gz,cJ,cL⟩⟩⟩->K (.t [.inr (VM.d x),.inl (.v (.bool ae))])):=by
 dsimp only[DA,HL,Sh.T]
 rintro⟨⟨fO,fW,cu,gC,gu,gL,gN,fP,gH,gE,fF,eM,fg,fC,gw,gy,cI,cK,fN,fU,cq,gD,gv,gM,gP,fe,gJ,gG,fG,eQ,fH,fE,gx,gz,cJ,cL,_⟩,_⟩ K ⟨hv,hK⟩ w vs hr hg
 refine Rb (⟨(fO:Int),(fW:Int),(cu:Int),(gC:Int),(gu:Int),(gL:Int),(gN:Int),(fP:List (Int×Int)),(gH:Bool),(gE:Int),(fF:Int),(eM:List Int),(fg:Int),(fC:Int),(gw:Bool),(gy:Bool),(cI:Bool),(cK:Bool),(fN:Int),(fU:Int),(cq:Int),(gD:Int),(gv:Int),(gM:Int),(gP:Int),(fe:List (Int×Int)),(gJ:Bool),(gG:Int),(fG:Int),(eQ:List Int),(fH:Int),(fE:Int),(gx:Bool),(gz:Bool),(cJ:Bool),(cL:Bool),_⟩,()) K ?_ w vs hr hg
 show K (yN ⟨⟨⟨fO,fW,cu⟩,gC,gu,⟨gL,gN,fP,gH,gE⟩,⟨fF,eM,fg,fC⟩,⟨gw,gy,cI,cK⟩⟩,⟨⟨fN,fU,cq⟩,gD,gv,⟨gM,gP,fe,gJ,gG⟩,⟨fG,eQ,fH,fE⟩,⟨gx,gz,cJ,cL⟩⟩⟩).d
 rw[show yN ⟨⟨⟨fO,fW,cu⟩,gC,gu,⟨gL,gN,fP,gH,gE⟩,⟨fF,eM,fg,fC⟩,⟨gw,gy,cI,cK⟩⟩,⟨⟨fN,fU,cq⟩,gD,gv,⟨gM,gP,fe,gJ,gG⟩,⟨fG,eQ,fH,fE⟩,⟨gx,gz,cJ,cL⟩⟩⟩=⟨vv ⟨⟨⟨fO,fW,cu⟩,gC,gu,⟨gL,gN,fP,gH,gE⟩,⟨fF,eM,fg,fC⟩,⟨gw,gy,cI,cK⟩⟩,⟨⟨fN,fU,cq⟩,gD,gv,⟨gM,gP,fe,gJ,gG⟩,⟨fG,eQ,fH,fE⟩,⟨gx,gz,cJ,cL⟩⟩⟩,ae⟩ by simp[yN,hv]]
 exact hK _ rfl
def wP:CS:=dn [Pf] (λ⟨⟨fO,fW,cu,gC,gu,gL,gN,fP,gH,gE,fF,eM,fg,fC,gw,gy,cI,cK,fN,fU,cq,gD,gv,gM,gP,fe,gJ,gG,fG,eQ,fH,fE,gx,gz,cJ,cL,_⟩,_⟩ K=>az (xf ⟨⟨⟨fO,fW,cu⟩,gC,gu,⟨gL,gN,fP,gH,gE⟩,⟨fF,eM,fg,fC⟩,⟨gw,gy,cI,cK⟩⟩,⟨⟨fN,fU,cq⟩,gD,gv,⟨gM,gP,fe,gJ,gG⟩,⟨fG,eQ,fH,fE⟩,⟨gx,gz,cJ,cL⟩⟩⟩=ae) <| ∀x:VM,x=vv ⟨⟨⟨fO,fW,cu⟩,gC,gu,⟨gL,gN,fP,gH,gE⟩,⟨fF,eM,fg,fC⟩,⟨gw,gy,cI,cK⟩⟩,⟨⟨fN,fU,cq⟩,gD,gv,⟨gM,gP,fe,gJ,gG⟩,⟨fG,eQ,fH,fE⟩,⟨gx,gz,cJ,cL⟩⟩⟩->K (.t [.inr (VM.d x),.inl (.v (.bool ae))]))
theorem xW:bW al.prog 16 wP:=UE gK Nu
section
variable{P':aG}{Fin:aj->ai->Prop}
theorem KA(E:Rn.Env al.prog P' (Rn.lN al.prog) Fin):zf5 al.prog (Rn.lN al.prog) Fin 38 [qx] (λ⟨⟨fO,fW,cu,gC,gu,gL,gN,fP,gH,gE,fF,eM,fg,fC,gw,gy,cI,cK,lL,lJ,nc,m9,fN,fU,cq,gD,gv,gM,gP,fe,gJ,gG,fG,eQ,fH,fE,gx,gz,cJ,cL,ll,lM,ng,na,_⟩,_⟩ K=>∀x:yx,x=⟨(oy ⟨⟨⟨fO,fW,cu⟩,gC,gu,⟨gL,gN,fP,gH,gE⟩,⟨fF,eM,fg,fC⟩,⟨gw,gy,cI,cK⟩⟩,lL,lJ,nc,m9⟩).x,(oy ⟨⟨⟨fN,fU,cq⟩,gD,gv,⟨gM,gP,fe,gJ,gG⟩,⟨fG,eQ,fH,fE⟩,⟨gx,gz,cJ,cL⟩⟩,ll,lM,ng,na⟩).x⟩->K (.a (yx.d x))):=by
 dsimp only[DA,HL,Sh.T]
 rintro⟨⟨fO,fW,cu,gC,gu,gL,gN,fP,gH,gE,fF,eM,fg,fC,gw,gy,cI,cK,lL,lJ,nc,m9,fN,fU,cq,gD,gv,gM,gP,fe,gJ,gG,fG,eQ,fH,fE,gx,gz,cJ,cL,ll,lM,ng,na,_⟩,_⟩ K hK w vs hr hg
 exact Rn.ND E.g E.gp (⟨(fO:Int),(fW:Int),(cu:Int),(gC:Int),(gu:Int),(gL:Int),(gN:Int),(fP:List (Int×Int)),(gH:Bool),(gE:Int),(fF:Int),(eM:List Int),(fg:Int),(fC:Int),(gw:Bool),(gy:Bool),(cI:Bool),(cK:Bool),(lL:List Int),(lJ:List Int),(nc:Int),(m9:Int),(fN:Int),(fU:Int),(cq:Int),(gD:Int),(gv:Int),(gM:Int),(gP:Int),(fe:List (Int×Int)),(gJ:Bool),(gG:Int),(fG:Int),(eQ:List Int),(fH:Int),(fE:Int),(gx:Bool),(gz:Bool),(cJ:Bool),(cL:Bool),(ll:List Int),(lM:List Int),(ng:Int),(na:Int),_⟩,()) K (hK _ rfl) w vs hr hg
end
def QR:CS:=dn [qx] (λ⟨⟨fO,fW,cu,gC,gu,gL,gN,fP,gH,gE,fF,eM,fg,fC,gw,gy,cI,cK,lL,lJ,nc,m9,fN,fU,cq,gD,gv,gM,gP,fe,gJ,gG,fG,eQ,fH,fE,gx,gz,cJ,cL,ll,lM,ng,na,_⟩,_⟩ K=>∀x:yx,x=⟨(oy ⟨⟨⟨fO,fW,cu⟩,gC,gu,⟨gL,gN,fP,gH,gE⟩,⟨fF,eM,fg,fC⟩,⟨gw,gy,cI,cK⟩⟩,lL,lJ,nc,m9⟩).x,(oy ⟨⟨⟨fN,fU,cq⟩,gD,gv,⟨gM,gP,fe,gJ,gG⟩,⟨fG,eQ,fH,fE⟩,⟨gx,gz,cJ,cL⟩⟩,ll,lM,ng,na⟩).x⟩->K (.a (yx.d x)))
def RJ:Env:=[(18,rD),(16,wP)]
theorem IQ:bg al.prog RJ:=aC ⟨qX,xW,trivial⟩
def Ug:Nat->Tr:=λ n=>match n with
 |4=>.op 0 0 (.op 1 0 (.op 2 0 (.op 3 0 (.op 4 1 (.op 5 1 (.op 6 1 (.op 7 1 (.op 8 1 (.op 9 2 (.nil))))))))))
 |_=>.nil
def Ov:Env:=[(38,QR)]
variable{P':aG}{Fin:aj->ai->Prop}
theorem Gg(E:Rn.Env al.prog P' (Rn.lN al.prog) Fin):∀f c,(f,c)∈Ov->Jx al.prog (Rn.lN al.prog) Fin f c:=WV ⟨zhP E (KA E),trivial⟩
theorem Q9(E:Rn.Env al.prog P' (Rn.lN al.prog) Fin):zf5 al.prog (Rn.lN al.prog) Fin 13 [qx] (λ⟨⟨fO,fW,cu,gC,gu,gL,gN,fP,gH,gE,fF,eM,fg,fC,gw,gy,cI,cK,lL,lJ,nc,m9,fN,fU,cq,gD,gv,gM,gP,fe,gJ,gG,fG,eQ,fH,fE,gx,gz,cJ,cL,ll,lM,ng,na,_⟩,_⟩ K=>∀x:SG,x=GK ⟨⟨⟨⟨fO,fW,cu⟩,gC,gu,⟨gL,gN,fP,gH,gE⟩,⟨fF,eM,fg,fC⟩,⟨gw,gy,cI,cK⟩⟩,lL,lJ,nc,m9⟩,⟨⟨⟨fN,fU,cq⟩,gD,gv,⟨gM,gP,fe,gJ,gG⟩,⟨fG,eQ,fH,fE⟩,⟨gx,gz,cJ,cL⟩⟩,ll,lM,ng,na⟩⟩->K x.d):=by
 refine zmR E aS aH IQ (Gg E) (W0:=[0]) (TR:=Ug) (Rn.fM Tryz.func13) rfl gK gK (ZL ?_)
 dsimp only[DA,HL,Sh.T]
 rintro⟨⟨fO,fW,cu,gC,gu,gL,gN,fP,gH,gE,fF,eM,fg,fC,gw,gy,cI,cK,lL,lJ,nc,m9,fN,fU,cq,gD,gv,gM,gP,fe,gJ,gG,fG,eQ,fH,fE,gx,gz,cJ,cL,ll,lM,ng,na,_⟩,_⟩ K hK ⟨⟨-,-,-,-,-,-,-,h1,-,-,-,h2,-,-,-,-,-,-,h3,h4,-,-,-,-,-,-,-,-,-,g1,-,-,-,g2,-,-,-,-,-,-,g3,g4,-⟩,-⟩
 replace hK:∀x:SG,x=GK ⟨⟨⟨⟨fO,fW,cu⟩,gC,gu,⟨gL,gN,fP,gH,gE⟩,⟨fF,eM,fg,fC⟩,⟨gw,gy,cI,cK⟩⟩,lL,lJ,nc,m9⟩,⟨⟨⟨fN,fU,cq⟩,gD,gv,⟨gM,gP,fe,gJ,gG⟩,⟨fG,eQ,fH,fE⟩,⟨gx,gz,cJ,cL⟩⟩,ll,lM,ng,na⟩⟩->K x.d:=hK
 replace h1:=gl fP h1
 replace h2:=gl eM h2
 replace h3:=gl lL h3
 replace h4:=gl lJ h4
 replace g1:=gl fe g1
 replace g2:=gl eQ g2
 replace g3:=gl ll g3
 replace g4:=gl lM g4
 cases hv:ov ⟨⟨⟨⟨fO,fW,cu⟩,gC,gu,⟨gL,gN,fP,gH,gE⟩,⟨fF,eM,fg,fC⟩,⟨gw,gy,cI,cK⟩⟩,lL,lJ,nc,m9⟩,⟨⟨⟨fN,fU,cq⟩,gD,gv,⟨gM,gP,fe,gJ,gG⟩,⟨fG,eQ,fH,fE⟩,⟨gx,gz,cJ,cL⟩⟩,ll,lM,ng,na⟩⟩ with
 |false=>
  replace hK:=hK ⟨Yu,aa⟩ (Hi hv).symm
  exact gW
 |true=>
  obtain⟨ha,hb⟩:=yZ hv
  have pa:=(fu ha).1
  have pb:=(fu hb).1
  have hp:xf ⟨⟨⟨fO,fW,cu⟩,gC,gu,⟨gL,gN,fP,gH,gE⟩,⟨fF,eM,fg,fC⟩,⟨gw,gy,cI,cK⟩⟩,⟨⟨fN,fU,cq⟩,gD,gv,⟨gM,gP,fe,gJ,gG⟩,⟨fG,eQ,fH,fE⟩,⟨gx,gz,cJ,cL⟩⟩⟩=ae:=by
   rw[xf,aE]
   exact⟨pa,pb⟩
  have va:jj ⟨(vv ⟨⟨⟨fO,fW,cu⟩,gC,gu,⟨gL,gN,fP,gH,gE⟩,⟨fF,eM,fg,fC⟩,⟨gw,gy,cI,cK⟩⟩,⟨⟨fN,fU,cq⟩,gD,gv,⟨gM,gP,fe,gJ,gG⟩,⟨fG,eQ,fH,fE⟩,⟨gx,gz,cJ,cL⟩⟩⟩).a,lL,lJ,nc,m9⟩=ae:=tY (d:=⟨⟨⟨fO,fW,cu⟩,gC,gu,⟨gL,gN,fP,gH,gE⟩,⟨fF,eM,fg,fC⟩,⟨gw,gy,cI,cK⟩⟩,lL,lJ,nc,m9⟩) (q:=⟨⟨fN,fU,cq⟩,gD,gv,⟨gM,gP,fe,gJ,gG⟩,⟨fG,eQ,fH,fE⟩,⟨gx,gz,cJ,cL⟩⟩) ha pb
  have vb:jj ⟨(vv ⟨⟨⟨fO,fW,cu⟩,gC,gu,⟨gL,gN,fP,gH,gE⟩,⟨fF,eM,fg,fC⟩,⟨gw,gy,cI,cK⟩⟩,⟨⟨fN,fU,cq⟩,gD,gv,⟨gM,gP,fe,gJ,gG⟩,⟨fG,eQ,fH,fE⟩,⟨gx,gz,cJ,cL⟩⟩⟩).b,ll,lM,ng,na⟩=ae:=tY (d:=⟨⟨⟨fN,fU,cq⟩,gD,gv,⟨gM,gP,fe,gJ,gG⟩,⟨fG,eQ,fH,fE⟩,⟨gx,gz,cJ,cL⟩⟩,ll,lM,ng,na⟩) (q:=⟨⟨fO,fW,cu⟩,gC,gu,⟨gL,gN,fP,gH,gE⟩,⟨fF,eM,fg,fC⟩,⟨gw,gy,cI,cK⟩⟩) hb pa
  clear ha hb pa pb
  repeat' (conv=>whnf);first|refine az.mk ?_ ?_;exact gS|refine End.mk ?_|apply gU;exact gA|refine gB ?_ ?_<;>intro hb h<;>try exact c8|refine λ(y:Int) (h0:0<=y) h1=>?_
  intro x hx
  rw[<-hx] at va vb
  obtain⟨a1,a2,a3,a4⟩:=GV va
  obtain⟨b1,b2,b3,b4⟩:=GV vb
  dsimp only at a1 a2 a3 a4 b1 b2 b3 b4
  repeat' (conv=>whnf);first|refine az.mk ?_ ?_;exact gS|refine End.mk ?_|apply gU;exact gA|refine gB ?_ ?_<;>intro hb h<;>try exact c8|refine λ(y:Int) (h0:0<=y) h1=>?_
  intro z hz
  replace hK:=hK ⟨z,ae⟩ (by
   rw[Hj hv,hz]
   show SG.mk ⟨(oy ⟨x.a,lL,lJ,nc,m9⟩).x,(oy ⟨x.b,ll,lM,ng,na⟩).x⟩ ae=_
   rw[PZ va,PZ vb,hx]
   rfl)
  exact gW
def Xo:CS:=dn [qx] (λ⟨⟨fO,fW,cu,gC,gu,gL,gN,fP,gH,gE,fF,eM,fg,fC,gw,gy,cI,cK,lL,lJ,nc,m9,fN,fU,cq,gD,gv,gM,gP,fe,gJ,gG,fG,eQ,fH,fE,gx,gz,cJ,cL,ll,lM,ng,na,_⟩,_⟩ K=>∀x:SG,x=GK ⟨⟨⟨⟨fO,fW,cu⟩,gC,gu,⟨gL,gN,fP,gH,gE⟩,⟨fF,eM,fg,fC⟩,⟨gw,gy,cI,cK⟩⟩,lL,lJ,nc,m9⟩,⟨⟨⟨fN,fU,cq⟩,gD,gv,⟨gM,gP,fe,gJ,gG⟩,⟨fG,eQ,fH,fE⟩,⟨gx,gz,cJ,cL⟩⟩,ll,lM,ng,na⟩⟩->K x.d)
def zFB:Env:=[(18,rD),(53,zEO)]
theorem zFs:bg al.prog zFB:=aC ⟨qX,zEY,trivial⟩
def zFz:Env:=[(13,Xo)]
theorem zFr(E:Rn.Env al.prog P' (Rn.lN al.prog) Fin):∀f c,(f,c)∈zFz->Jx al.prog (Rn.lN al.prog) Fin f c:=WV ⟨zhP E (Q9 E),trivial⟩
theorem zFA(E:Rn.Env al.prog P' (Rn.lN al.prog) Fin):zf5 al.prog (Rn.lN al.prog) Fin 23 [qx,.inl .int] (λ⟨⟨fO,fW,cu,gC,gu,gL,gN,fP,gH,gE,fF,eM,fg,fC,gw,gy,cI,cK,lL,lJ,nc,m9,fN,fU,cq,gD,gv,gM,gP,fe,gJ,gG,fG,eQ,fH,fE,gx,gz,cJ,cL,ll,lM,ng,na,_⟩,t,_⟩ K=>∀x:SG,x=GJ ⟨⟨⟨⟨fO,fW,cu⟩,gC,gu,⟨gL,gN,fP,gH,gE⟩,⟨fF,eM,fg,fC⟩,⟨gw,gy,cI,cK⟩⟩,lL,lJ,nc,m9⟩,⟨⟨⟨fN,fU,cq⟩,gD,gv,⟨gM,gP,fe,gJ,gG⟩,⟨fG,eQ,fH,fE⟩,⟨gx,gz,cJ,cL⟩⟩,ll,lM,ng,na⟩⟩ t->K x.d):=by
 refine zmR E aS aH zFs (zFr E) (W0:=[]) (TR:=ja) (Rn.fM Tryz.func23) rfl gK gK (ZL ?_)
 dsimp only[DA,HL,Sh.T]
 rintro⟨⟨fO,fW,cu,gC,gu,gL,gN,fP,gH,gE,fF,eM,fg,fC,gw,gy,cI,cK,lL,lJ,nc,m9,fN,fU,cq,gD,gv,gM,gP,fe,gJ,gG,fG,eQ,fH,fE,gx,gz,cJ,cL,ll,lM,ng,na,_⟩,t,_⟩ K hK ⟨⟨-,-,-,-,-,-,-,h1,-,-,-,h2,-,-,-,-,-,-,h3,h4,-,-,-,-,-,-,-,-,-,g1,-,-,-,g2,-,-,-,-,-,-,g3,g4,-⟩,-⟩
 replace hK:K (GJ ⟨⟨⟨⟨fO,fW,cu⟩,gC,gu,⟨gL,gN,fP,gH,gE⟩,⟨fF,eM,fg,fC⟩,⟨gw,gy,cI,cK⟩⟩,lL,lJ,nc,m9⟩,⟨⟨⟨fN,fU,cq⟩,gD,gv,⟨gM,gP,fe,gJ,gG⟩,⟨fG,eQ,fH,fE⟩,⟨gx,gz,cJ,cL⟩⟩,ll,lM,ng,na⟩⟩ t).d:=hK _ rfl
 replace h1:=gl fP h1
 replace h2:=gl eM h2
 replace h3:=gl lL h3
 replace h4:=gl lJ h4
 replace g1:=gl fe g1
 replace g2:=gl eQ g2
 replace g3:=gl ll g3
 replace g4:=gl lM g4
 by_cases hv:ov ⟨⟨⟨⟨fO,fW,cu⟩,gC,gu,⟨gL,gN,fP,gH,gE⟩,⟨fF,eM,fg,fC⟩,⟨gw,gy,cI,cK⟩⟩,lL,lJ,nc,m9⟩,⟨⟨⟨fN,fU,cq⟩,gD,gv,⟨gM,gP,fe,gJ,gG⟩,⟨fG,eQ,fH,fE⟩,⟨gx,gz,cJ,cL⟩⟩,ll,lM,ng,na⟩⟩=ae/\0<=t/\t<=150
 ·rw[show GJ ⟨⟨⟨⟨fO,fW,cu⟩,gC,gu,⟨gL,gN,fP,gH,gE⟩,⟨fF,eM,fg,fC⟩,⟨gw,gy,cI,cK⟩⟩,lL,lJ,nc,m9⟩,⟨⟨⟨fN,fU,cq⟩,gD,gv,⟨gM,gP,fe,gJ,gG⟩,⟨fG,eQ,fH,fE⟩,⟨gx,gz,cJ,cL⟩⟩,ll,lM,ng,na⟩⟩ t=⟨vq t.toNat ⟨⟨⟨⟨fO,fW,cu⟩,gC,gu,⟨gL,gN,fP,gH,gE⟩,⟨fF,eM,fg,fC⟩,⟨gw,gy,cI,cK⟩⟩,lL,lJ,nc,m9⟩,⟨⟨⟨fN,fU,cq⟩,gD,gv,⟨gM,gP,fe,gJ,gG⟩,⟨fG,eQ,fH,fE⟩,⟨gx,gz,cJ,cL⟩⟩,ll,lM,ng,na⟩⟩,ae⟩ by unfold GJ;rw[if_pos hv]] at hK
  obtain⟨hv,h0,h9⟩:=hv
  have hrv:=Fo hv
  repeat' (conv=>whnf);first|refine az.mk ?_ ?_;exact gS|refine End.mk ?_|apply gU;exact gA|refine gB ?_ ?_<;>intro hb h<;>try exact c8|refine λ(y:Int) (h0:0<=y) h1=>?_
  refine iK.inv {k:Nat // (k:Int)<=t} (λ⟨k,_⟩=>[(19,.j),(21,.l (.v (.int .i64 k)))]) (λ⟨k,_⟩=>[(0,.b (zrQ (vq k ⟨⟨⟨⟨fO,fW,cu⟩,gC,gu,⟨gL,gN,fP,gH,gE⟩,⟨fF,eM,fg,fC⟩,⟨gw,gy,cI,cK⟩⟩,lL,lJ,nc,m9⟩,⟨⟨⟨fN,fU,cq⟩,gD,gv,⟨gM,gP,fe,gJ,gG⟩,⟨fG,eQ,fH,fE⟩,⟨gx,gz,cJ,cL⟩⟩,ll,lM,ng,na⟩⟩) 2 3 4 5 6 7 8 9) 38),(2,.r 0 96 (.bK (vq k ⟨⟨⟨⟨fO,fW,cu⟩,gC,gu,⟨gL,gN,fP,gH,gE⟩,⟨fF,eM,fg,fC⟩,⟨gw,gy,cI,cK⟩⟩,lL,lJ,nc,m9⟩,⟨⟨⟨fN,fU,cq⟩,gD,gv,⟨gM,gP,fe,gJ,gG⟩,⟨fG,eQ,fH,fE⟩,⟨gx,gz,cJ,cL⟩⟩,ll,lM,ng,na⟩⟩).a.p.rc.items)),(3,.r 0 3 (.ints (vq k ⟨⟨⟨⟨fO,fW,cu⟩,gC,gu,⟨gL,gN,fP,gH,gE⟩,⟨fF,eM,fg,fC⟩,⟨gw,gy,cI,cK⟩⟩,lL,lJ,nc,m9⟩,⟨⟨⟨fN,fU,cq⟩,gD,gv,⟨gM,gP,fe,gJ,gG⟩,⟨fG,eQ,fH,fE⟩,⟨gx,gz,cJ,cL⟩⟩,ll,lM,ng,na⟩⟩).a.p.sd.items)),(4,.r 0 3 (.ints (vq k ⟨⟨⟨⟨fO,fW,cu⟩,gC,gu,⟨gL,gN,fP,gH,gE⟩,⟨fF,eM,fg,fC⟩,⟨gw,gy,cI,cK⟩⟩,lL,lJ,nc,m9⟩,⟨⟨⟨fN,fU,cq⟩,gD,gv,⟨gM,gP,fe,gJ,gG⟩,⟨fG,eQ,fH,fE⟩,⟨gx,gz,cJ,cL⟩⟩,ll,lM,ng,na⟩⟩).a.tp)),(5,.r 0 3 (.ints (vq k ⟨⟨⟨⟨fO,fW,cu⟩,gC,gu,⟨gL,gN,fP,gH,gE⟩,⟨fF,eM,fg,fC⟩,⟨gw,gy,cI,cK⟩⟩,lL,lJ,nc,m9⟩,⟨⟨⟨fN,fU,cq⟩,gD,gv,⟨gM,gP,fe,gJ,gG⟩,⟨fG,eQ,fH,fE⟩,⟨gx,gz,cJ,cL⟩⟩,ll,lM,ng,na⟩⟩).a.out)),(6,.r 0 96 (.bK (vq k ⟨⟨⟨⟨fO,fW,cu⟩,gC,gu,⟨gL,gN,fP,gH,gE⟩,⟨fF,eM,fg,fC⟩,⟨gw,gy,cI,cK⟩⟩,lL,lJ,nc,m9⟩,⟨⟨⟨fN,fU,cq⟩,gD,gv,⟨gM,gP,fe,gJ,gG⟩,⟨fG,eQ,fH,fE⟩,⟨gx,gz,cJ,cL⟩⟩,ll,lM,ng,na⟩⟩).b.p.rc.items)),(7,.r 0 3 (.ints (vq k ⟨⟨⟨⟨fO,fW,cu⟩,gC,gu,⟨gL,gN,fP,gH,gE⟩,⟨fF,eM,fg,fC⟩,⟨gw,gy,cI,cK⟩⟩,lL,lJ,nc,m9⟩,⟨⟨⟨fN,fU,cq⟩,gD,gv,⟨gM,gP,fe,gJ,gG⟩,⟨fG,eQ,fH,fE⟩,⟨gx,gz,cJ,cL⟩⟩,ll,lM,ng,na⟩⟩).b.p.sd.items)),(8,.r 0 3 (.ints (vq k ⟨⟨⟨⟨fO,fW,cu⟩,gC,gu,⟨gL,gN,fP,gH,gE⟩,⟨fF,eM,fg,fC⟩,⟨gw,gy,cI,cK⟩⟩,lL,lJ,nc,m9⟩,⟨⟨⟨fN,fU,cq⟩,gD,gv,⟨gM,gP,fe,gJ,gG⟩,⟨fG,eQ,fH,fE⟩,⟨gx,gz,cJ,cL⟩⟩,ll,lM,ng,na⟩⟩).b.tp)),(9,.r 0 3 (.ints (vq k ⟨⟨⟨⟨fO,fW,cu⟩,gC,gu,⟨gL,gN,fP,gH,gE⟩,⟨fF,eM,fg,fC⟩,⟨gw,gy,cI,cK⟩⟩,lL,lJ,nc,m9⟩,⟨⟨⟨fN,fU,cq⟩,gD,gv,⟨gM,gP,fe,gJ,gG⟩,⟨fG,eQ,fH,fE⟩,⟨gx,gz,cJ,cL⟩⟩,ll,lM,ng,na⟩⟩).b.out))]) (λ⟨k,_⟩=>(t-k).toNat) ⟨0,by omega⟩ [0,1,2,3,4,5,6,7,8,9] ?_ ?_
  ·repeat' first|refine az.mk ?_ ?_;exact gV|exact aV
  rintro⟨k,hk⟩
  have hvk:=hrv k
  repeat' (conv=>whnf);first|refine az.mk ?_ ?_;exact gS|refine End.mk ?_|apply gU;exact gA|refine gB ?_ ?_<;>intro hb h<;>try exact c8|refine λ(y:Int) (h0:0<=y) h1=>?_
  ·intro x hx
   replace hx:x=⟨vq (k+1) ⟨⟨⟨⟨fO,fW,cu⟩,gC,gu,⟨gL,gN,fP,gH,gE⟩,⟨fF,eM,fg,fC⟩,⟨gw,gy,cI,cK⟩⟩,lL,lJ,nc,m9⟩,⟨⟨⟨fN,fU,cq⟩,gD,gv,⟨gM,gP,fe,gJ,gG⟩,⟨fG,eQ,fH,fE⟩,⟨gx,gz,cJ,cL⟩⟩,ll,lM,ng,na⟩⟩,ae⟩:=hx.trans (Hj hvk)
   subst hx
   repeat' (conv=>whnf);first|refine az.mk ?_ ?_;exact gS|refine End.mk ?_|apply gU;exact gA|refine gB ?_ ?_<;>intro hb h<;>try exact c8|refine λ(y:Int) (h0:0<=y) h1=>?_
   (refine ao ⟨k+1,by omega⟩ (ao [0,1,10,11,12,13,14,15,16,17] (And.intro ?_ ?_)))
   ·show (t-((k+1:Nat):Int)).toNat<(t-(k:Int)).toNat
    omega
   ·repeat' first|refine az.mk ?_ ?_;exact gV|exact aV
  ·obtain rfl:k=t.toNat:=by omega
   (refine gI hK ?_;repeat' first|exact gR|refine az.mk ?_ ?_)
 ·rw[show GJ ⟨⟨⟨⟨fO,fW,cu⟩,gC,gu,⟨gL,gN,fP,gH,gE⟩,⟨fF,eM,fg,fC⟩,⟨gw,gy,cI,cK⟩⟩,lL,lJ,nc,m9⟩,⟨⟨⟨fN,fU,cq⟩,gD,gv,⟨gM,gP,fe,gJ,gG⟩,⟨fG,eQ,fH,fE⟩,⟨gx,gz,cJ,cL⟩⟩,ll,lM,ng,na⟩⟩ t=⟨Yu,aa⟩ by unfold GJ;rw[if_neg hv]] at hK
  by_cases hp:ov ⟨⟨⟨⟨fO,fW,cu⟩,gC,gu,⟨gL,gN,fP,gH,gE⟩,⟨fF,eM,fg,fC⟩,⟨gw,gy,cI,cK⟩⟩,lL,lJ,nc,m9⟩,⟨⟨⟨fN,fU,cq⟩,gD,gv,⟨gM,gP,fe,gJ,gG⟩,⟨fG,eQ,fH,fE⟩,⟨gx,gz,cJ,cL⟩⟩,ll,lM,ng,na⟩⟩=ae
  ·have ht:¬(0<=t/\t<=150):=λ h=>hv ⟨hp,h⟩
   repeat' (conv=>whnf);first|refine az.mk ?_ ?_;exact gS|refine End.mk ?_|apply gU;exact gA|refine gB ?_ ?_<;>intro hb h<;>try exact c8|refine λ(y:Int) (h0:0<=y) h1=>?_
   all_goals first
    |(exfalso;omega)
    |(exact gF hK)
  ·replace hp:ov ⟨⟨⟨⟨fO,fW,cu⟩,gC,gu,⟨gL,gN,fP,gH,gE⟩,⟨fF,eM,fg,fC⟩,⟨gw,gy,cI,cK⟩⟩,lL,lJ,nc,m9⟩,⟨⟨⟨fN,fU,cq⟩,gD,gv,⟨gM,gP,fe,gJ,gG⟩,⟨fG,eQ,fH,fE⟩,⟨gx,gz,cJ,cL⟩⟩,ll,lM,ng,na⟩⟩=aa:=by simpa using hp
   exact gW
def zFE:CS:=dn [qx,.inl .int] (λ⟨⟨fO,fW,cu,gC,gu,gL,gN,fP,gH,gE,fF,eM,fg,fC,gw,gy,cI,cK,lL,lJ,nc,m9,fN,fU,cq,gD,gv,gM,gP,fe,gJ,gG,fG,eQ,fH,fE,gx,gz,cJ,cL,ll,lM,ng,na,_⟩,t,_⟩ K=>∀x:SG,x=GJ ⟨⟨⟨⟨fO,fW,cu⟩,gC,gu,⟨gL,gN,fP,gH,gE⟩,⟨fF,eM,fg,fC⟩,⟨gw,gy,cI,cK⟩⟩,lL,lJ,nc,m9⟩,⟨⟨⟨fN,fU,cq⟩,gD,gv,⟨gM,gP,fe,gJ,gG⟩,⟨fG,eQ,fH,fE⟩,⟨gx,gz,cJ,cL⟩⟩,ll,lM,ng,na⟩⟩ t->K x.d)
open Rn
theorem zix{W:ai}{E:List (cr×List aj)}{k sz n cap:Nat}{x:cr×List aj}(he:E[k]?=ab x)(hl:x.2.length=cap*sz)(hn:n<=cap)(hz:0<sz)(hb:x.2.all tJ=ae):Sl (yK W E) sz (.slice (ab ⟨k,x.1.off,ak⟩) n cap) n (x.2.take (n*sz)):=by
 have hle:n*sz<=cap*sz:=Nat.mul_le_mul_right _ hn
 have Aq:(yK W E).heap[k]?=ab (zrj x):=by rw[Hg,he];rfl
 refine⟨by rw[dm];omega,?_⟩
 by_cases h0:n=0
 ·subst h0
  exact .inl ⟨rfl,_,_,rfl,λ h=>(by cases h),λ ad h=>by cases h;exact⟨_,_,_,Aq⟩⟩
 ·have hp:SU x=x.1.off:=by
   unfold SU
   cases hx:x.2 with
   |nil=>
    rw[hx] at hl
    have:1*1<=cap*sz:=Nat.mul_le_mul (by omega) hz
    simp at hl
    omega
   |cons a r=>rfl
  refine .inr ⟨k,x.1.off,cap,_,(sF,(0,SU x+x.2.length)),rfl,hn,Aq,⟨?_,?_⟩,?_⟩
  ·simp[hp]
   omega
  ·rw[ef] at hb ⊢
   intro v hv
   have:=B9 hv
   simp only[jr,List.mem_replicate] at this
   rcases this with⟨_,rfl⟩|h
   ·rfl
   ·exact hb v h
  ·have e:(aX (SU x) (Value.bool aa)++x.2).drop x.1.off=x.2:=by
    rw[<-hp]
    simp
   simp only
   rw[e]
theorem zrU{α:Type}(pre post:List α)(y:α):(pre++[y]++post)[pre.length]?=ab y:=by simp
open Go.ChangeShapes Go.WideShapes
def zL0(W:ai)(s:Sh)(v:aj):Prop:=
 ∃L:List (cr×List aj),(∀x∈L,zcR W x)/\∀pre post,∃a n c,VR (Pt (pre++L++post)) (.slice a n c) v/\n<=9223372036854775807/\(n<=1048576->∃l:s.T,rdL (yK W (pre++L++post)) s l (.slice a n c))
def zL2(W:ai):Sh->aj->Prop
 |.int,v=>∃z,v=.int .i64 z
 |.bool,v=>∃z,v=.bool z
 |.ints,v=>zL0 W .ints v
 |.bK,v=>zL0 W .bK v
 |.bytes,v=>zL0 W .bytes v
def zH1(W:ai):List Sh->List aj->Prop
 |[],[]=>True
 |s::ss,v::vs=>zL2 W s v/\zH1 W ss vs
 |_,_=>False
theorem zH1.append{W:ai}:∀{ss zNp:List Sh} {vs us:List aj},zH1 W ss vs->zH1 W zNp us->zH1 W (ss++zNp) (vs++us)
 |[],_,[],_,_,h=>h
 |_::_,_,_::_,_,h,k=>⟨h.1,h.2.append k⟩
@[reducible] def CvT:Sh->Type
 |.int=>Int
 |.bool=>Bool
 |_=>Option cr×Nat×Nat
@[reducible] def CvL:List Sh->Type
 |[]=>Unit
 |s::r=>CvT s×CvL r
def cv1:(s:Sh)->CvT s->aj
 |.int,z=>.int .i64 z
 |.bool,b=>.bool b
 |.ints,(a,n,c)=>.slice a n c
 |.bK,(a,n,c)=>.slice a n c
 |.bytes,(a,n,c)=>.slice a n c
def cvs:(ss:List Sh)->CvL ss->List aj
 |[],_=>[]
 |s::r,x=>cv1 s x.1::cvs r x.2
def cvn:(s:Sh)->CvT s->Option Nat
 |.int,_=>ak
 |.bool,_=>ak
 |.ints,x=>ab x.2.1
 |.bK,x=>ab x.2.1
 |.bytes,x=>ab x.2.1
def cvb:(ss:List Sh)->CvL ss->Prop
 |[],_=>True
 |s::r,x=>match cvn s x.1 with
  |none=>cvb r x.2
  |some n=>n<=9223372036854775807/\cvb r x.2
def cvB:(ss:List Sh)->CvL ss->Prop
 |[],_=>False
 |s::r,x=>match cvn s x.1 with
  |none=>cvB r x.2
  |some n=>1048576<n\/cvB r x.2
def VRs(R:BR):List aj->List aj->Prop
 |[],[]=>True
 |u::us,v::vs=>VR R u v/\VRs R us vs
 |_,_=>False
theorem zLL{R:BR}:∀{us vs:List aj},VRs R us vs->us.length=vs.length/\∀(i:Nat) (u v:aj),us[i]?=ab u->vs[i]?=ab v->VR R u v
 |[],[],_=>⟨rfl,λ i u v h=>by simp at h⟩
 |a::us,b::vs,h=>by
  obtain⟨h1,h2⟩:=zLL h.2
  refine⟨by simp[h1],λ i u v hu hv=>?_⟩
  cases i with
  |zero=>
   simp only[bE,aF] at hu hv
   subst hu hv
   exact h.1
  |succ i=>exact h2 i u v (by simpa using hu) (by simpa using hv)
theorem zMt{R:BR}{us vs:List aj}(h:VRs R us vs):VR R (.agg ⟨us⟩) (.agg ⟨vs⟩):=
 .agg (zLL h).1 λ i u v hu hv=>(zLL h).2 i u v (by simpa using hu) (by simpa using hv)
theorem zMb{W:ai}{s:Sh}{v:aj}(h:zL2 W s v):∃L,(∀x∈L,zcR W x)/\∀pre post,∃x:CvT s,VR (Pt (pre++L++post)) (cv1 s x) v/\(∀n,cvn s x=ab n->n<=9223372036854775807)/\((∀n,cvn s x=ab n->n<=1048576)->∃l:s.T,rdL (yK W (pre++L++post)) s l (cv1 s x)):=by
 cases s with
 |int=>
  obtain⟨z,rfl⟩:=h
  exact⟨[],λ _ h=>(by cases h),λ _ _=>⟨z,.int _ z,λ n h=>(by cases h),λ _=>⟨z,rfl⟩⟩⟩
 |bool=>
  obtain⟨z,rfl⟩:=h
  exact⟨[],λ _ h=>(by cases h),λ _ _=>⟨z,.bool z,λ n h=>(by cases h),λ _=>⟨z,rfl⟩⟩⟩
 |_=>
  obtain⟨L,h1,h2⟩:=h
  refine⟨L,h1,λ pre post=>?_⟩
  obtain⟨a,n,c,k1,k2,k3⟩:=h2 pre post
  exact⟨(a,n,c),k1,λ m h=>(by cases h;exact k2),λ h=>k3 (h n rfl)⟩
theorem zLB{W:ai}:∀{ss:List Sh} {vs:List aj},zH1 W ss vs->∃E,(∀x∈E,zcR W x)/\∀pre post,∃x:CvL ss,VRs (Pt (pre++E++post)) (cvs ss x) vs/\cvb ss x/\(cvB ss x\/∃y:HL ss,VV (yK W (pre++E++post)) ss y (cvs ss x))
 |[],[],_=>⟨[],λ _ h=>(by cases h),λ _ _=>⟨(),trivial,trivial,.inr ⟨(),trivial⟩⟩⟩
 |s::ss,v::vs,⟨h,hs⟩=>by
  obtain⟨E,h1,h2⟩:=zLB hs
  obtain⟨L,l1,l2⟩:=zMb h
  refine⟨L++E,λ x hx=>(jr.1 hx).elim (l1 x) (h1 x),λ pre post=>?_⟩
  obtain⟨u,a1,a2,a3⟩:=l2 pre (E++post)
  obtain⟨us,b1,b2,b3⟩:=h2 (pre++L) post
  simp only[dN] at a1 a3 b1 b3 ⊢
  refine⟨(u,us),⟨a1,b1⟩,?_,?_⟩
  ·unfold cvb
   dsimp only
   split
   ·exact b2
   ·exact⟨a2 _ (by assumption),b2⟩
  ·unfold cvB
   dsimp only
   have fin:(∀n,cvn s u=ab n->n<=1048576)->(cvB ss us\/∃y:HL (s::ss),VV (yK W (pre++(L++(E++post)))) (s::ss) y (cvs (s::ss) (u,us))):=λ hsm=>b3.imp id λ⟨y,hy⟩=>let ⟨x,hx⟩:=a3 hsm;⟨(x,y),hx,hy⟩
   split
   ·rename_i hn
    exact fin λ n h=>by rw[hn] at h;cases h
   ·rename_i n hn
    by_cases hb:n<=1048576
    ·exact(fin λ m h=>by rw[hn] at h;cases h;exact hb).imp .inr id
    ·exact .inl (.inl (by omega))
section
variable{H:Type}{enc:au×aj->H}{P:aG}{W:ai}{base:Nat}{held:Bool}
def zL1(W:ai)(v:aj):Prop:=∀a n c,v=.slice (ab a) n c->a.spot=ak/\∃c e f,W.heap[a.block]?=ab (.cells c e f)
def Reads(enc:au×aj->H)(P:aG)(W:ai)(base:Nat)(held:Bool)(t:au)(ss:List Sh):Prop:=
 ∀(n:Nat) (cs:List aj) (x:zIr H×List MemPlace),zIr.trod enc P W base (λ _=>ae) held n t cs=ab x->(∀v∈cs,zL1 W v)->zH1 W ss cs
variable{t:au}
theorem zLY(ht:P.underlying t=ab (.int .i64)):Reads enc P W base held t [.int]:=λ n cs x h _=>by
 obtain⟨z,rfl,_⟩:=zIr.trod_int ht h
 exact⟨⟨z,rfl⟩,trivial⟩
theorem zLR(ht:P.underlying t=ab .bool):Reads enc P W base held t [.bool]:=λ n cs x h _=>by
 obtain⟨z,rfl,_⟩:=zIr.trod_bool ht h
 exact⟨⟨z,rfl⟩,trivial⟩
theorem zL3{s:Sh}(h:∃l:s.T,∀w:ai,rdL w s l (.slice ak 0 0)):zL0 W s (.slice ak 0 0):=by
 obtain⟨l,h⟩:=h
 exact⟨[],λ _ h=>(by cases h),λ _ _=>⟨ak,0,0,.slice 0 0 (a:=ak) trivial,by omega,λ _=>⟨l,h _⟩⟩⟩
theorem zLV{s:Sh}{sz:Nat}{a:cr}{n c:Nat}{xs:List aj}(hz:0<sz)(hn:n<=c)(hc:c<=maxLen)(hl:xs.length=c*sz)(hb:xs.all tJ=ae)(zML:∀i,i<xs.length->W.cell? (a.add i)=xs[i]?)(hr:zL1 W (.slice (ab a) n c))
  (h:n<=1048576->∃l:s.T,∀(w:ai) (v:aj),Sl w sz v n (xs.take (n*sz))->rdL w s l v):zL0 W s (.slice (ab a) n c):=by
 obtain⟨hs,Aq⟩:=hr _ _ _ rfl
 refine⟨[(a,xs)],λ y hy=>?_,λ pre post=>?_⟩
 ·rw[List.mem_singleton] at hy
  subst hy
  refine znd hs Aq λ i v hv=>⟨?_,znc (ef.1 hb v (List.mem_of_getElem? hv))⟩
  rw[zML i (aO.1 hv).1,hv]
 ·have hm:=zrU pre post (a,xs)
  refine⟨_,n,c,ziy hm hs n c,by have:maxLen=9223372036854775807:=rfl;omega,λ h0=>?_⟩
  obtain⟨l,hl2⟩:=h h0
  exact⟨l,hl2 _ _ (zix hm hl hn hz hb)⟩
theorem zL4{w:ai}{sz:Nat}:Sl w sz (.slice ak 0 0) 0 []:=⟨by simp,.inl ⟨rfl,_,_,rfl,λ _=>rfl,λ _ h=>by cases h⟩⟩
theorem zLT{e:au}(ht:P.underlying t=ab (.slice e))(he:P.underlying e=ab (.int .i64))(hc:P.cellsOf e=1):Reads enc P W base held t [.ints]:=λ n cs x h hr=>by
 rcases open_ints ht he hc h with⟨rfl,_⟩|⟨a,n,c,zs,rfl,_,h1,h2,h3,_,hcell,_⟩
 ·exact⟨zL3 ⟨([]:List Int),λ _=>⟨zL4,bw _⟩⟩,trivial⟩
 ·rw[if_pos rfl] at h3
  refine⟨zLV (sz:=1) (xs:=(EL.ints zs).enc) (by decide) h1 h2 (by simpa [EL.enc] using h3) (EL.tP _) (λ i hi=>?_) (hr _ (by simp)) λ hn=>⟨(zs.take n:List Int),λ w v hs=>?_⟩,trivial⟩
  ·simp only[EL.enc,List.length_map] at hi
   rw[hcell i hi,EL.enc,List.getElem?_map,List.getD_eq_getElem?_getD,aW hi]
   rfl
  ·have hl:(EL.ints (zs.take n)).len=n:=by simp only[EL.len,dm];omega
   refine⟨?_,by rw[hl];exact bD hn (by decide)⟩
   rw[hl]
   simpa [EL.enc,EL.sz] using hs
def zMm:Option aj->Int
 |some (.int _ n)=>n
 |_=>0
theorem zL5(q:List (Int×Int)):∀i,i<q.length->(EL.bK q).enc[i*2]?=ab (.int .i64 (q.getD i (0,0)).1)/\(EL.bK q).enc[i*2+1]?=ab (.int .i64 (q.getD i (0,0)).2):=by
 induction q with
 |nil=>intro i hi;simp at hi
 |cons x q ih=>
  intro i hi
  cases i with
  |zero=>simp[EL.enc]
  |succ i=>
   have:=ih i (by simpa using hi)
   have e1:(i+1)*2=i*2+1+1:=by omega
   simpa [EL.enc,e1] using this
theorem zLS{e:au}{f0 f1:Field}(ht:P.underlying t=ab (.slice e))(he:P.underlying e=ab (.struct #[f0,f1]))(h0:P.underlying f0.type=ab (.int .i64))(h1:P.underlying f1.type=ab (.int .i64))
  (Ys:f0.offset=0/\f1.offset=1/\P.cellsOf f0.type=1/\P.cellsOf f1.type=1) (hc:P.cellsOf e=2):Reads enc P W base held t [.bK]:=λ fuel cs x h hr=>by
 obtain⟨o0,o1,k0,k1⟩:=Ys
 rcases zIr.trod_slice ht h with⟨rfl,_⟩|⟨a,len,cap,elems,rest,n,_,rfl,_,hb,hl,hm,hlen,hel,hsp,_⟩
 ·exact⟨zL3 ⟨([]:List (Int×Int)),λ _=>⟨zL4,bw _⟩⟩,trivial⟩
 ·rw[hc] at hel hsp
  obtain⟨Ya,hrr⟩:=hsp rfl
  have hR:zL1 W (.slice (ab a) len cap):=hr _ (by simp)
  obtain⟨hs,cc,zNk,ff,Aq⟩:=hR _ _ _ rfl
  have zqX:∀i j,(a.add i).add j=a.add (i+j):=λ i j=>by
   obtain⟨g,off,spot⟩:=a
   simp only at hs
   subst hs
   have zqX:∀o i,(⟨g,o,ak⟩:cr).add i=⟨g,o+i,ak⟩:=λ o i=>by unfold Addr.add;split<;>simp_all
   rw[zqX,zqX,zqX,Nat.add_assoc]
  have one:∀(b:cr) (y:zIr H×List MemPlace),(W.cells? base b 2).bind (zIr.trod enc P W base (λ _=>ae) held n e)=ab y->∃p q:Int,W.cell? (b.add 0)=ab (.int .i64 p)/\W.cell? (b.add 1)=ab (.int .i64 q):=by
   intro b y hy
   obtain⟨cs2,hc2,hy2⟩:=Option.bind_eq_some_iff.1 hy
   obtain⟨_,hl2,hcell⟩:=World.cells?_some hc2
   obtain⟨xs,m,_,_,_,_,hf⟩:=zIr.trod_struct he hy2
   have g0:=hf 0 f0 rfl
   have g1:=hf 1 f1 rfl
   rw[o0,k0] at g0
   rw[o1,k1] at g1
   match cs2,hl2 with
   |[c0,c1],_=>
    obtain⟨y0,e0⟩:∃y0,xs[0]?=ab y0:=⟨xs[0]'(by simp_all),by simp⟩
    obtain⟨y1,e1⟩:∃y1,xs[1]?=ab y1:=⟨xs[1]'(by simp_all),by simp⟩
    rw[e0] at g0
    rw[e1] at g1
    obtain⟨p,p0,-,-⟩:=zIr.trod_int h0 (cs:=[c0]) (by simpa using g0)
    obtain⟨q,q0,-,-⟩:=zIr.trod_int h1 (cs:=[c1]) (by simpa using g1)
    simp only[iw,and_true] at p0 q0
    subst p0 q0
    exact⟨p,q,hcell 0 (by omega),hcell 1 (by omega)⟩
  let z:Nat->Int×Int:=λ i=>(zMm (W.cell? (a.add (i*2))),zMm (W.cell? (a.add (i*2+1))))
  have hz:∀i,i<cap->W.cell? (a.add (i*2))=ab (.int .i64 (z i).1)/\W.cell? (a.add (i*2+1))=ab (.int .i64 (z i).2):=by
   intro i hi
   obtain⟨p,q,h1,h2⟩:∃p q:Int,W.cell? ((a.add (i*2)).add 0)=ab (.int .i64 p)/\W.cell? ((a.add (i*2)).add 1)=ab (.int .i64 q):=by
    by_cases hil:i<len
    ·exact one _ (elems[i]'(by omega)) (by rw[hel i hil,aW])
    ·have:=hrr (i-len) (by omega)
     rw[show len+(i-len)=i by omega] at this
     exact one _ (rest[i-len]'(by omega)) (by rw[this,aW])
   rw[zqX,ey] at h1
   rw[zqX] at h2
   simp only[z,h1,h2,zMm,and_self]
  have zMh:(EL.bK ((oY cap).map z)).enc.length=cap*2:=by rw[EL.GW];simp[EL.len,EL.sz]
  refine⟨zLV (sz:=2) (xs:=(EL.bK ((oY cap).map z)).enc) (by decide) hl hm zMh (EL.tP _) (λ j hj=>?_) hR λ hn=>⟨(((oY cap).map z).take len:List (Int×Int)),λ w v hs=>?_⟩,trivial⟩
  ·rw[zMh] at hj
   have hi:j/2<cap:=by omega
   have hk:=zL5 ((oY cap).map z) (j/2) (by simpa using hi)
   have hzz:=hz (j/2) hi
   have hgd:((oY cap).map z).getD (j/2) (0,0)=z (j/2):=by simp[List.getD,hi]
   rw[hgd] at hk
   rcases Nat.mod_two_eq_zero_or_one j with h0|h1
   ·have:j=j/2*2:=by omega
    rw[this,hk.1]
    exact hzz.1
   ·have:j=j/2*2+1:=by omega
    rw[this,hk.2]
    exact hzz.2
  ·have hll:(EL.bK (((oY cap).map z).take len)).len=len:=by simp only[EL.len,dm,List.length_map,List.length_range];omega
   refine⟨?_,by rw[hll];exact bD hn (by decide)⟩
   rw[hll,show (EL.bK (((oY cap).map z).take len)).enc=(EL.bK ((oY cap).map z)).enc.take (len*2) from EL.Y6 (.bK ((oY cap).map z)) len]
   exact hs
def lay(P:aG):List Field->Nat->Option Nat
 |[],o=>ab o
 |f::r,o=>if f.offset=o then lay P r (o+P.cellsOf f.type) else ak
def zMl(enc:au×aj->H)(P:aG)(W:ai)(base:Nat)(held:Bool):List Field->List (List Sh)->Prop
 |[],[]=>True
 |f::fs,s::ss=>Reads enc P W base held f.type s/\zMl enc P W base held fs ss
 |_,_=>False
theorem zJp{cs:List aj}(hr:∀v∈cs,zL1 W v):∀(fs:List Field) (sss:List (List Sh)) (o:Nat),zMl enc P W base held fs sss->lay P fs o=ab cs.length->
  (∀f∈fs,∃n y,zIr.trod enc P W base (λ _=>ae) held n f.type ((cs.drop f.offset).take (P.cellsOf f.type))=ab y)->zH1 W sss.flatten (cs.drop o)
 |[],[],o,_,h,_=>by
  simp only[lay,aF] at h
  subst h
  simp[zH1]
 |f::fs,s::sss,o,⟨h1,h2⟩,h,hf=>by
  unfold lay at h
  split at h
  ·obtain⟨n,y,hy⟩:=hf f (by simp)
   have:=(h1 n _ y hy λ v hv=>hr v (List.mem_of_mem_drop (B9 hv))).append (zJp hr fs sss _ h2 h λ g hg=>hf g (by simp[hg]))
   rename_i ho
   rw[ho,<-List.drop_drop,List.take_append_drop] at this
   simpa using this
  ·cases h
theorem zHV{fs:Array Field}(ht:P.underlying t=ab (.struct fs))(sss:List (List Sh))(hc:lay P fs.toList 0=ab (P.cellsOf t))(hf:zMl enc P W base held fs.toList sss):Reads enc P W base held t sss.flatten:=λ n cs x h hr=>by
 obtain⟨xs,m,_,_,hl,hlen,zMn⟩:=zIr.trod_struct ht h
 have:=zJp hr fs.toList sss 0 hf (by rw[hc,hl]) λ f hfm=>by
  obtain⟨i,hi,rfl⟩:=List.mem_iff_getElem.1 hfm
  have hi2:i<fs.size:=by simpa using hi
  exact⟨m,xs[i]'(by omega),by rw[zMn i _ (by simp[hi2]),aW]⟩
 simpa using this
end
theorem zLX{P:aG}{w:ai}{r:Reach}{base:Nat}{t:au}{fs:Array Field}(ht:P.underlying t=ab (.struct fs)){cs:Array aj}(h:Value.okWide P w r base t (.agg cs)):∀v∈cs.toList,zL1 w v:=by
 rintro v hv a n c rfl
 simp only[Value.okWide,ht] at h
 obtain⟨kT,e,_,ts,_,_,h⟩:=h
 cases e
 obtain⟨i,hi,e⟩:=List.mem_iff_getElem.1 hv
 obtain⟨u,_,h⟩:=h i _ (by rw[ah];exact⟨by simpa using hi,by simpa using e⟩)
 unfold Cell.okWide Cell.ok at h
 cases hu:P.underlying u with
 |none=>simp[hu] at h
 |some U=>
  cases U<;>simp only[hu] at h
  obtain⟨_,_,_,h1,row,cells,h2,_⟩:=h
  refine⟨h1,?_⟩
  unfold World.shape? at h2
  split at h2
  ·exact⟨_,_,_,by assumption⟩
  ·cases h2
theorem zLC{cx:Cx}{β:List En}:∀{us:List aj},us.all (·.oneCell')=ae->jP cx β (us.map LV.v) us
 |[],_=>trivial
 |u::us,h=>by
  simp only[oF,aE] at h
  exact⟨⟨h.1,rfl⟩,zLC h.2⟩
abbrev shP:List Sh:=[.int,.int,.int,.int,.int,.int,.int,.bK,.bool,.int,.int,.ints,.int,.int,.bool,.bool,.bool,.bool]
abbrev shL:List Sh:=[.int,.int,.int,.int,.int,.int,.int,.bK,.bool,.int,.int,.ints,.int,.int,.bool,.bool,.bool,.bool,.ints,.ints,.int,.int,.int,.int,.int,.int,.int,.int,.int,.bK,.bool,.int,.int,.ints,.int,.int,.bool,.bool,.bool,.bool,.ints,.ints,.int,.int]
section
variable{H:Type}{enc:au×aj->H}{W:ai}{base:Nat}{held:Bool}
theorem zH9:Reads enc an W base held 3 [.int]:=zLY Tryz.underlying3
theorem zKo:Reads enc an W base held 4 [.bool]:=zLR Tryz.underlying4
theorem zLK:Reads enc an W base held 28 [.ints]:=zLT Tryz.underlying28 Tryz.underlying3 gK
theorem zMq:Reads enc an W base held 61 [.bK]:=zLS Tryz.underlying61 Tryz.underlying289 Tryz.underlying3 Tryz.underlying3 ⟨rfl,rfl,gK,gK⟩ gK
theorem zL8:Reads enc an W base held 60 [.int,.int,.int]:=zHV Tryz.underlying60 [[.int],[.int],[.int]] gK ⟨zH9,zH9,zH9,trivial⟩
theorem zLQ:Reads enc an W base held 63 [.int,.int,.bK,.bool,.int]:=zHV Tryz.underlying63 [[.int],[.int],[.bK],[.bool],[.int]] gK ⟨zH9,zH9,zMq,zKo,zH9,trivial⟩
theorem zL9:Reads enc an W base held 64 [.int,.ints,.int,.int]:=zHV Tryz.underlying64 [[.int],[.ints],[.int],[.int]] gK ⟨zH9,zLK,zH9,zH9,trivial⟩
theorem zMd:Reads enc an W base held 65 [.bool,.bool,.bool,.bool]:=zHV Tryz.underlying65 [[.bool],[.bool],[.bool],[.bool]] gK ⟨zKo,zKo,zKo,zKo,trivial⟩
theorem zMs:Reads enc an W base held 67 shP:=zHV Tryz.underlying67 [_,[.int],[.int],_,_,_] gK ⟨zL8,zH9,zH9,zLQ,zL9,zMd,trivial⟩
theorem zLD:Reads enc an W base held 69 (shP++[.ints,.ints,.int,.int]):=zHV Tryz.underlying69 [_,[.ints],[.ints],[.int],[.int]] gK ⟨zMs,zLK,zLK,zH9,zH9,trivial⟩
theorem zMr:Reads enc an W base held 71 shL:=zHV Tryz.underlying71 [_,_] gK ⟨zLD,zLD,trivial⟩
end
end
section
open Go.RowKit
open Ab
theorem zFy:ji al.prog 24 [qx,.inl .int] (λ⟨⟨fO,fW,cu,gC,gu,gL,gN,fP,gH,gE,fF,eM,fg,fC,gw,gy,cI,cK,lL,lJ,nc,m9,fN,fU,cq,gD,gv,gM,gP,fe,gJ,gG,fG,eQ,fH,fE,gx,gz,cJ,cL,ll,lM,ng,na,_⟩,t,_⟩ K=>∀x:SG,x=GJ ⟨⟨⟨⟨fO,fW,cu⟩,gC,gu,⟨gL,gN,fP,gH,gE⟩,⟨fF,eM,fg,fC⟩,⟨gw,gy,cI,cK⟩⟩,lL,lJ,nc,m9⟩,⟨⟨⟨fN,fU,cq⟩,gD,gv,⟨gM,gP,fe,gJ,gG⟩,⟨fG,eQ,fH,fE⟩,⟨gx,gz,cJ,cL⟩⟩,ll,lM,ng,na⟩⟩ t->K x.d):=by
 dsimp only[DA,HL,Sh.T]
 rintro⟨⟨fO,fW,cu,gC,gu,gL,gN,fP,gH,gE,fF,eM,fg,fC,gw,gy,cI,cK,lL,lJ,nc,m9,fN,fU,cq,gD,gv,gM,gP,fe,gJ,gG,fG,eQ,fH,fE,gx,gz,cJ,cL,ll,lM,ng,na,_⟩,t,_⟩ K hK w vs hr hg
 exact Tf (⟨fO,fW,cu,gC,gu,gL,gN,fP,gH,gE,fF,eM,fg,fC,gw,gy,cI,cK,lL,lJ,nc,m9,fN,fU,cq,gD,gv,gM,gP,fe,gJ,gG,fG,eQ,fH,fE,gx,gz,cJ,cL,ll,lM,ng,na,_⟩,t,()) K (hK _ rfl) w vs hr hg
def zFo:CS:=dn [qx,.inl .int] (λ⟨⟨fO,fW,cu,gC,gu,gL,gN,fP,gH,gE,fF,eM,fg,fC,gw,gy,cI,cK,lL,lJ,nc,m9,fN,fU,cq,gD,gv,gM,gP,fe,gJ,gG,fG,eQ,fH,fE,gx,gz,cJ,cL,ll,lM,ng,na,_⟩,t,_⟩ K=>∀x:SG,x=GJ ⟨⟨⟨⟨fO,fW,cu⟩,gC,gu,⟨gL,gN,fP,gH,gE⟩,⟨fF,eM,fg,fC⟩,⟨gw,gy,cI,cK⟩⟩,lL,lJ,nc,m9⟩,⟨⟨⟨fN,fU,cq⟩,gD,gv,⟨gM,gP,fe,gJ,gG⟩,⟨fG,eQ,fH,fE⟩,⟨gx,gz,cJ,cL⟩⟩,ll,lM,ng,na⟩⟩ t->K x.d)
theorem zFw:bW al.prog 24 zFo:=UE gK zFy
def zNu:Env:=[(31,zKt),(32,zKw),(24,zFo),(33,zKq),(34,zJe),(35,zJb)]
theorem zNs:bg al.prog zNu:=aC ⟨zK1,zK4,zFw,zKY,zJ5,zJ2,trivial⟩
def zNq:Nat->Tr:=λ n=>match n with
 |10=>.op 0 0 (.op 1 1 (.op 2 1 (.op 3 1 (.op 4 1 (.nil)))))
 |_=>.nil
def zNt:Env:=[(23,zFE)]
theorem zNr{P':aG}{Fin:aj->ai->Prop}(E:Rn.Env al.prog P' (Rn.lN al.prog) Fin):∀f c,(f,c)∈zNt->Jx al.prog (Rn.lN al.prog) Fin f c:=WV ⟨zhP E (zFA E),trivial⟩
theorem zNw:UD jV zNt zNu [] zNq Tryz.f11 [qx,.inl .int] (λ _ K=>K (.l (.v (.bool ae)))):=by
 refine ZL ?_
 dsimp only[DA,HL,Sh.T]
 rintro⟨⟨_,_,_,_,_,_,_,_,_,_,_,_,_,_,_,_,_,_,_,_,_,_,_,_,_,_,_,_,_,_,_,_,_,_,_,_,_,_,_,_,_,_,_,_,_⟩,t,_⟩ K hK ⟨⟨-,-,-,-,-,-,-,zMC,-,-,-,zME,-,-,-,-,-,-,zMy,zMA,-,-,-,-,-,-,-,-,-,zMD,-,-,-,zMF,-,-,-,-,-,-,zMz,zMB,-,-,-⟩,-⟩
 replace hK:K (.l (.v (.bool ae))):=hK
 replace zMC:=gl _ zMC
 replace zME:=gl _ zME
 replace zMy:=gl _ zMy
 replace zMA:=gl _ zMA
 replace zMD:=gl _ zMD
 replace zMF:=gl _ zMF
 replace zMz:=gl _ zMz
 replace zMB:=gl _ zMB
 repeat' ((conv=>whnf);(first|(refine az.mk (p:=(_:List (Int×Int))=_) ?_ ?_;focus (simp[vL,ya,EL.len,rvG,rvI];done))|(refine az.mk (p:=(_:List Int)=_) ?_ ?_;focus (simp[vL,ya,EL.len,rvG,rvI];done))|(refine az.mk ?_ ?_;focus (first|omega|with_reducible assumption|kernel_rfl|exact rfl|(with_reducible first|omega|exact Wf (by omega)|(and_intros<;>first|trivial|omega|exact Wf (by omega)))|(dsimp only[EL.len];with_reducible first|omega|exact Wf (by omega)|(and_intros<;>first|trivial|omega|exact Wf (by omega)))|with_reducible exact zzJ (by omega)|with_reducible exact Wf ⟨by decide,by decide⟩|exact⟨rfl,trivial⟩|exact⟨rfl,rfl,trivial⟩|exact⟨⟨rfl,rfl,rfl,rfl⟩,trivial⟩|(show (_:Int)<=_/\(_:Int)<=_;omega)|(show (_:Int)<=_;omega)|(simp only[EL.len,EL.sz,EL.take,EL.drop,pM,la,ln,lc,ld,lt,ls,lna];with_reducible first|omega|exact Wf (by omega)|(and_intros<;>first|trivial|omega|exact Wf (by omega)))|(simp only[EL.len,EL.sz,EL.take,EL.drop,pM,la,ln,lc,ld,lt,ls,lna] at *;with_reducible first|omega|exact Wf (by omega)|(and_intros<;>first|trivial|omega|exact Wf (by omega)))))|(refine Fork.mk ?_ ?_;(intro K' hF;(conv at hF=>whnf);(repeat ((first|(have hs:=WI hF;replace hF:=WJ hF)|(replace hF:=Wt hF)|((repeat ((conv=>whnf);(first|(refine az.mk ?_ ?_;focus (first|omega|with_reducible assumption|kernel_rfl|exact rfl|(with_reducible first|omega|exact Wf (by omega)|(and_intros<;>first|trivial|omega|exact Wf (by omega)))|(dsimp only[EL.len];with_reducible first|omega|exact Wf (by omega)|(and_intros<;>first|trivial|omega|exact Wf (by omega)))|with_reducible exact zzJ (by omega)|with_reducible exact Wf ⟨by decide,by decide⟩|exact⟨rfl,trivial⟩|exact⟨rfl,rfl,trivial⟩|exact⟨⟨rfl,rfl,rfl,rfl⟩,trivial⟩|(show (_:Int)<=_/\(_:Int)<=_;omega)|(show (_:Int)<=_;omega)|(simp only[EL.len,EL.sz,EL.take,EL.drop,pM,la,ln,lc,ld,lt,ls,lna];with_reducible first|omega|exact Wf (by omega)|(and_intros<;>first|trivial|omega|exact Wf (by omega)))|(simp only[EL.len,EL.sz,EL.take,EL.drop,pM,la,ln,lc,ld,lt,ls,lna] at *;with_reducible first|omega|exact Wf (by omega)|(and_intros<;>first|trivial|omega|exact Wf (by omega)))))|(refine Fork.mk ?_ ?_;focus (intro K' hF;(conv at hF=>whnf);(repeat ((first|(have hs:=WI hF;replace hF:=WJ hF)|(replace hF:=Wt hF)|((repeat ((conv=>whnf);(refine az.mk ?_ ?_;focus (first|omega|with_reducible assumption|kernel_rfl|exact rfl|(with_reducible first|omega|exact Wf (by omega)|(and_intros<;>first|trivial|omega|exact Wf (by omega)))|(dsimp only[EL.len];with_reducible first|omega|exact Wf (by omega)|(and_intros<;>first|trivial|omega|exact Wf (by omega)))|with_reducible exact zzJ (by omega)|with_reducible exact Wf ⟨by decide,by decide⟩|exact⟨rfl,trivial⟩|exact⟨rfl,rfl,trivial⟩|exact⟨⟨rfl,rfl,rfl,rfl⟩,trivial⟩|(show (_:Int)<=_/\(_:Int)<=_;omega)|(show (_:Int)<=_;omega)|(simp only[EL.len,EL.sz,EL.take,EL.drop,pM,la,ln,lc,ld,lt,ls,lna];with_reducible first|omega|exact Wf (by omega)|(and_intros<;>first|trivial|omega|exact Wf (by omega)))|(simp only[EL.len,EL.sz,EL.take,EL.drop,pM,la,ln,lc,ld,lt,ls,lna] at *;with_reducible first|omega|exact Wf (by omega)|(and_intros<;>first|trivial|omega|exact Wf (by omega)))))));(conv=>whnf);(refine λ(y:Int) (h0:0<=y) h1=>?_);replace hF:=hF y h0 h1));(conv at hF=>whnf)));replace hF:=zcT hF;(repeat' ((conv=>whnf);(first|(refine az.mk ?_ ?_;focus (first|omega|with_reducible assumption|kernel_rfl|exact rfl|(with_reducible first|omega|exact Wf (by omega)|(and_intros<;>first|trivial|omega|exact Wf (by omega)))|(dsimp only[EL.len];with_reducible first|omega|exact Wf (by omega)|(and_intros<;>first|trivial|omega|exact Wf (by omega)))|with_reducible exact zzJ (by omega)|with_reducible exact Wf ⟨by decide,by decide⟩|exact⟨rfl,trivial⟩|exact⟨rfl,rfl,trivial⟩|exact⟨⟨rfl,rfl,rfl,rfl⟩,trivial⟩|(show (_:Int)<=_/\(_:Int)<=_;omega)|(show (_:Int)<=_;omega)|(simp only[EL.len,EL.sz,EL.take,EL.drop,pM,la,ln,lc,ld,lt,ls,lna];with_reducible first|omega|exact Wf (by omega)|(and_intros<;>first|trivial|omega|exact Wf (by omega)))|(simp only[EL.len,EL.sz,EL.take,EL.drop,pM,la,ln,lc,ld,lt,ls,lna] at *;with_reducible first|omega|exact Wf (by omega)|(and_intros<;>first|trivial|omega|exact Wf (by omega)))))|(refine End.mk ?_;exact hF)|refine End.mk ?_|refine brT ?_|refine brF ?_|(refine vg ?_ ?_;focus with_reducible assumption)|(refine vf ?_ ?_;focus with_reducible assumption)|(refine Br.mk ?_ ?_<;>(intro hb;have h:=hb;(try simp only[decide_eq_true_eq,decide_eq_false_iff_not,kP,Bool.not_eq_false',Bool.not_eq_eq_eq_not,yc,yb,ge_iff_le,gt_iff_lt,aE,Bool.and_eq_false_iff,iv,Bool.or_eq_false_iff,beq_self_eq_true,not_true_eq_false,and_self,yd,ca,not_false_eq_true] at h);(try dsimp only[EL.len] at h);(try (exfalso;first|omega|exact bnF h (by with_reducible assumption)|exact bnT h (by with_reducible assumption)))))|refine λ(y:Int) (h0:0<=y) h1=>?_)));done)))));(conv=>whnf);(refine λ(y:Int) (h0:0<=y) h1=>?_);replace hF:=hF y h0 h1));(conv at hF=>whnf)));replace hF:=zcT hF))|(refine End.mk ?_;exact hF)|refine End.mk ?_|refine brT ?_|refine brF ?_|(refine vg ?_ ?_;focus with_reducible assumption)|(refine vf ?_ ?_;focus with_reducible assumption)|(refine vg ?_ ?_;focus (simp only[beq_self_eq_true,eq_self,and_self,yc,yb,bL,decide_true,decide_false,zHS,zHU,zHT,wJ,not_true_eq_false,not_false_eq_true,jm];done))|(refine vf ?_ ?_;focus (simp only[beq_self_eq_true,eq_self,and_self,yc,yb,bL,decide_true,decide_false,zHS,zHU,zHT,wJ,not_true_eq_false,not_false_eq_true,jm];done))  | (refine az.mk ?_ ?_;focus (simp only[rvG,rvI,EL.len,vL,ya];(try dsimp only);omega))|(refine az.mk ?_ ?_;focus (show (_:Int)<=_/\(_:Int)<=_;simp only[rvG,rvI,EL.len,vL,ya];(try dsimp only);omega))|(refine Br.mk ?_ ?_<;>(intro hb;have h:=hb;(try simp only[decide_eq_true_eq,decide_eq_false_iff_not,kP,Bool.not_eq_false',Bool.not_eq_eq_eq_not,yc,yb,ge_iff_le,gt_iff_lt,aE,Bool.and_eq_false_iff,iv,Bool.or_eq_false_iff,beq_self_eq_true,not_true_eq_false,and_self,yd,ca,not_false_eq_true] at h);(try dsimp only[EL.len] at h);(try (exfalso;first|omega|exact bnF h (by with_reducible assumption)|exact bnT h (by with_reducible assumption)))))|refine λ(y:Int) (h0:0<=y) h1=>?_))
 all_goals try ((refine gI hK ?_;repeat' first|exact gR|refine az.mk ?_ ?_);done)
 intro y hy
 have hl:zhW y.l:=by rw[hy];exact ziV _ _
 obtain⟨⟨⟨⟨⟨_,_,_⟩,_,_,⟨_,_,_,_,_⟩,⟨_,_,_,_⟩,⟨_,_,_,_⟩⟩,_,_,_,_⟩,⟨⟨⟨_,_,_⟩,_,_,⟨_,_,_,_,_⟩,⟨_,_,_,_⟩,⟨_,_,_,_⟩⟩,_,_,_,_⟩⟩,ok⟩:=y
 obtain⟨⟨c1,c2,c3,c4⟩,⟨d1,d2,d3,d4⟩⟩:=hl
 dsimp only at c1 c2 c3 c4 d1 d2 d3 d4
 repeat' ((conv=>whnf);(first|(refine az.mk (p:=(_:List (Int×Int))=_) ?_ ?_;focus (simp[vL,ya,EL.len,rvG,rvI];done))|(refine az.mk (p:=(_:List Int)=_) ?_ ?_;focus (simp[vL,ya,EL.len,rvG,rvI];done))|(refine az.mk ?_ ?_;focus (first|omega|with_reducible assumption|kernel_rfl|exact rfl|(with_reducible first|omega|exact Wf (by omega)|(and_intros<;>first|trivial|omega|exact Wf (by omega)))|(dsimp only[EL.len];with_reducible first|omega|exact Wf (by omega)|(and_intros<;>first|trivial|omega|exact Wf (by omega)))|with_reducible exact zzJ (by omega)|with_reducible exact Wf ⟨by decide,by decide⟩|exact⟨rfl,trivial⟩|exact⟨rfl,rfl,trivial⟩|exact⟨⟨rfl,rfl,rfl,rfl⟩,trivial⟩|(show (_:Int)<=_/\(_:Int)<=_;omega)|(show (_:Int)<=_;omega)|(simp only[EL.len,EL.sz,EL.take,EL.drop,pM,la,ln,lc,ld,lt,ls,lna];with_reducible first|omega|exact Wf (by omega)|(and_intros<;>first|trivial|omega|exact Wf (by omega)))|(simp only[EL.len,EL.sz,EL.take,EL.drop,pM,la,ln,lc,ld,lt,ls,lna] at *;with_reducible first|omega|exact Wf (by omega)|(and_intros<;>first|trivial|omega|exact Wf (by omega)))))|(refine Fork.mk ?_ ?_;(intro K' hF;(conv at hF=>whnf);(repeat ((first|(have hs:=WI hF;replace hF:=WJ hF)|(replace hF:=Wt hF)|((repeat ((conv=>whnf);(first|(refine az.mk ?_ ?_;focus (first|omega|with_reducible assumption|kernel_rfl|exact rfl|(with_reducible first|omega|exact Wf (by omega)|(and_intros<;>first|trivial|omega|exact Wf (by omega)))|(dsimp only[EL.len];with_reducible first|omega|exact Wf (by omega)|(and_intros<;>first|trivial|omega|exact Wf (by omega)))|with_reducible exact zzJ (by omega)|with_reducible exact Wf ⟨by decide,by decide⟩|exact⟨rfl,trivial⟩|exact⟨rfl,rfl,trivial⟩|exact⟨⟨rfl,rfl,rfl,rfl⟩,trivial⟩|(show (_:Int)<=_/\(_:Int)<=_;omega)|(show (_:Int)<=_;omega)|(simp only[EL.len,EL.sz,EL.take,EL.drop,pM,la,ln,lc,ld,lt,ls,lna];with_reducible first|omega|exact Wf (by omega)|(and_intros<;>first|trivial|omega|exact Wf (by omega)))|(simp only[EL.len,EL.sz,EL.take,EL.drop,pM,la,ln,lc,ld,lt,ls,lna] at *;with_reducible first|omega|exact Wf (by omega)|(and_intros<;>first|trivial|omega|exact Wf (by omega)))))|(refine Fork.mk ?_ ?_;focus (intro K' hF;(conv at hF=>whnf);(repeat ((first|(have hs:=WI hF;replace hF:=WJ hF)|(replace hF:=Wt hF)|((repeat ((conv=>whnf);(refine az.mk ?_ ?_;focus (first|omega|with_reducible assumption|kernel_rfl|exact rfl|(with_reducible first|omega|exact Wf (by omega)|(and_intros<;>first|trivial|omega|exact Wf (by omega)))|(dsimp only[EL.len];with_reducible first|omega|exact Wf (by omega)|(and_intros<;>first|trivial|omega|exact Wf (by omega)))|with_reducible exact zzJ (by omega)|with_reducible exact Wf ⟨by decide,by decide⟩|exact⟨rfl,trivial⟩|exact⟨rfl,rfl,trivial⟩|exact⟨⟨rfl,rfl,rfl,rfl⟩,trivial⟩|(show (_:Int)<=_/\(_:Int)<=_;omega)|(show (_:Int)<=_;omega)|(simp only[EL.len,EL.sz,EL.take,EL.drop,pM,la,ln,lc,ld,lt,ls,lna];with_reducible first|omega|exact Wf (by omega)|(and_intros<;>first|trivial|omega|exact Wf (by omega)))|(simp only[EL.len,EL.sz,EL.take,EL.drop,pM,la,ln,lc,ld,lt,ls,lna] at *;with_reducible first|omega|exact Wf (by omega)|(and_intros<;>first|trivial|omega|exact Wf (by omega)))))));(conv=>whnf);(refine λ(y:Int) (h0:0<=y) h1=>?_);replace hF:=hF y h0 h1));(conv at hF=>whnf)));replace hF:=zcT hF;(repeat' ((conv=>whnf);(first|(refine az.mk ?_ ?_;focus (first|omega|with_reducible assumption|kernel_rfl|exact rfl|(with_reducible first|omega|exact Wf (by omega)|(and_intros<;>first|trivial|omega|exact Wf (by omega)))|(dsimp only[EL.len];with_reducible first|omega|exact Wf (by omega)|(and_intros<;>first|trivial|omega|exact Wf (by omega)))|with_reducible exact zzJ (by omega)|with_reducible exact Wf ⟨by decide,by decide⟩|exact⟨rfl,trivial⟩|exact⟨rfl,rfl,trivial⟩|exact⟨⟨rfl,rfl,rfl,rfl⟩,trivial⟩|(show (_:Int)<=_/\(_:Int)<=_;omega)|(show (_:Int)<=_;omega)|(simp only[EL.len,EL.sz,EL.take,EL.drop,pM,la,ln,lc,ld,lt,ls,lna];with_reducible first|omega|exact Wf (by omega)|(and_intros<;>first|trivial|omega|exact Wf (by omega)))|(simp only[EL.len,EL.sz,EL.take,EL.drop,pM,la,ln,lc,ld,lt,ls,lna] at *;with_reducible first|omega|exact Wf (by omega)|(and_intros<;>first|trivial|omega|exact Wf (by omega)))))|(refine End.mk ?_;exact hF)|refine End.mk ?_|refine brT ?_|refine brF ?_|(refine vg ?_ ?_;focus with_reducible assumption)|(refine vf ?_ ?_;focus with_reducible assumption)|(refine Br.mk ?_ ?_<;>(intro hb;have h:=hb;(try simp only[decide_eq_true_eq,decide_eq_false_iff_not,kP,Bool.not_eq_false',Bool.not_eq_eq_eq_not,yc,yb,ge_iff_le,gt_iff_lt,aE,Bool.and_eq_false_iff,iv,Bool.or_eq_false_iff,beq_self_eq_true,not_true_eq_false,and_self,yd,ca,not_false_eq_true] at h);(try dsimp only[EL.len] at h);(try (exfalso;first|omega|exact bnF h (by with_reducible assumption)|exact bnT h (by with_reducible assumption)))))|refine λ(y:Int) (h0:0<=y) h1=>?_)));done)))));(conv=>whnf);(refine λ(y:Int) (h0:0<=y) h1=>?_);replace hF:=hF y h0 h1));(conv at hF=>whnf)));replace hF:=zcT hF))|(refine End.mk ?_;exact hF)|refine End.mk ?_|refine brT ?_|refine brF ?_|(refine vg ?_ ?_;focus with_reducible assumption)|(refine vf ?_ ?_;focus with_reducible assumption)|(refine vg ?_ ?_;focus (simp only[beq_self_eq_true,eq_self,and_self,yc,yb,bL,decide_true,decide_false,zHS,zHU,zHT,wJ,not_true_eq_false,not_false_eq_true,jm];done))|(refine vf ?_ ?_;focus (simp only[beq_self_eq_true,eq_self,and_self,yc,yb,bL,decide_true,decide_false,zHS,zHU,zHT,wJ,not_true_eq_false,not_false_eq_true,jm];done))  | (refine az.mk ?_ ?_;focus (simp only[rvG,rvI,EL.len,vL,ya];(try dsimp only);omega))|(refine az.mk ?_ ?_;focus (show (_:Int)<=_/\(_:Int)<=_;simp only[rvG,rvI,EL.len,vL,ya];(try dsimp only);omega))|(refine Br.mk ?_ ?_<;>(intro hb;have h:=hb;(try simp only[decide_eq_true_eq,decide_eq_false_iff_not,kP,Bool.not_eq_false',Bool.not_eq_eq_eq_not,yc,yb,ge_iff_le,gt_iff_lt,aE,Bool.and_eq_false_iff,iv,Bool.or_eq_false_iff,beq_self_eq_true,not_true_eq_false,and_self,yd,ca,not_false_eq_true] at h);(try dsimp only[EL.len] at h);(try (exfalso;first|omega|exact bnF h (by with_reducible assumption)|exact bnT h (by with_reducible assumption)))))|refine λ(y:Int) (h0:0<=y) h1=>?_))
 intro z hz
 replace hz:=hz.trans hy.symm
 subst hz
 repeat' ((conv=>whnf);(first|(refine az.mk (p:=(_:List (Int×Int))=_) ?_ ?_;focus (simp[vL,ya,EL.len,rvG,rvI];done))|(refine az.mk (p:=(_:List Int)=_) ?_ ?_;focus (simp[vL,ya,EL.len,rvG,rvI];done))|(refine az.mk ?_ ?_;focus (first|omega|with_reducible assumption|kernel_rfl|exact rfl|(with_reducible first|omega|exact Wf (by omega)|(and_intros<;>first|trivial|omega|exact Wf (by omega)))|(dsimp only[EL.len];with_reducible first|omega|exact Wf (by omega)|(and_intros<;>first|trivial|omega|exact Wf (by omega)))|with_reducible exact zzJ (by omega)|with_reducible exact Wf ⟨by decide,by decide⟩|exact⟨rfl,trivial⟩|exact⟨rfl,rfl,trivial⟩|exact⟨⟨rfl,rfl,rfl,rfl⟩,trivial⟩|(show (_:Int)<=_/\(_:Int)<=_;omega)|(show (_:Int)<=_;omega)|(simp only[EL.len,EL.sz,EL.take,EL.drop,pM,la,ln,lc,ld,lt,ls,lna];with_reducible first|omega|exact Wf (by omega)|(and_intros<;>first|trivial|omega|exact Wf (by omega)))|(simp only[EL.len,EL.sz,EL.take,EL.drop,pM,la,ln,lc,ld,lt,ls,lna] at *;with_reducible first|omega|exact Wf (by omega)|(and_intros<;>first|trivial|omega|exact Wf (by omega)))))|(refine Fork.mk ?_ ?_;(intro K' hF;(conv at hF=>whnf);(repeat ((first|(have hs:=WI hF;replace hF:=WJ hF)|(replace hF:=Wt hF)|((repeat ((conv=>whnf);(first|(refine az.mk ?_ ?_;focus (first|omega|with_reducible assumption|kernel_rfl|exact rfl|(with_reducible first|omega|exact Wf (by omega)|(and_intros<;>first|trivial|omega|exact Wf (by omega)))|(dsimp only[EL.len];with_reducible first|omega|exact Wf (by omega)|(and_intros<;>first|trivial|omega|exact Wf (by omega)))|with_reducible exact zzJ (by omega)|with_reducible exact Wf ⟨by decide,by decide⟩|exact⟨rfl,trivial⟩|exact⟨rfl,rfl,trivial⟩|exact⟨⟨rfl,rfl,rfl,rfl⟩,trivial⟩|(show (_:Int)<=_/\(_:Int)<=_;omega)|(show (_:Int)<=_;omega)|(simp only[EL.len,EL.sz,EL.take,EL.drop,pM,la,ln,lc,ld,lt,ls,lna];with_reducible first|omega|exact Wf (by omega)|(and_intros<;>first|trivial|omega|exact Wf (by omega)))|(simp only[EL.len,EL.sz,EL.take,EL.drop,pM,la,ln,lc,ld,lt,ls,lna] at *;with_reducible first|omega|exact Wf (by omega)|(and_intros<;>first|trivial|omega|exact Wf (by omega)))))|(refine Fork.mk ?_ ?_;focus (intro K' hF;(conv at hF=>whnf);(repeat ((first|(have hs:=WI hF;replace hF:=WJ hF)|(replace hF:=Wt hF)|((repeat ((conv=>whnf);(refine az.mk ?_ ?_;focus (first|omega|with_reducible assumption|kernel_rfl|exact rfl|(with_reducible first|omega|exact Wf (by omega)|(and_intros<;>first|trivial|omega|exact Wf (by omega)))|(dsimp only[EL.len];with_reducible first|omega|exact Wf (by omega)|(and_intros<;>first|trivial|omega|exact Wf (by omega)))|with_reducible exact zzJ (by omega)|with_reducible exact Wf ⟨by decide,by decide⟩|exact⟨rfl,trivial⟩|exact⟨rfl,rfl,trivial⟩|exact⟨⟨rfl,rfl,rfl,rfl⟩,trivial⟩|(show (_:Int)<=_/\(_:Int)<=_;omega)|(show (_:Int)<=_;omega)|(simp only[EL.len,EL.sz,EL.take,EL.drop,pM,la,ln,lc,ld,lt,ls,lna];with_reducible first|omega|exact Wf (by omega)|(and_intros<;>first|trivial|omega|exact Wf (by omega)))|(simp only[EL.len,EL.sz,EL.take,EL.drop,pM,la,ln,lc,ld,lt,ls,lna] at *;with_reducible first|omega|exact Wf (by omega)|(and_intros<;>first|trivial|omega|exact Wf (by omega)))))));(conv=>whnf);(refine λ(y:Int) (h0:0<=y) h1=>?_);replace hF:=hF y h0 h1));(conv at hF=>whnf)));replace hF:=zcT hF;(repeat' ((conv=>whnf);(first|(refine az.mk ?_ ?_;focus (first|omega|with_reducible assumption|kernel_rfl|exact rfl|(with_reducible first|omega|exact Wf (by omega)|(and_intros<;>first|trivial|omega|exact Wf (by omega)))|(dsimp only[EL.len];with_reducible first|omega|exact Wf (by omega)|(and_intros<;>first|trivial|omega|exact Wf (by omega)))|with_reducible exact zzJ (by omega)|with_reducible exact Wf ⟨by decide,by decide⟩|exact⟨rfl,trivial⟩|exact⟨rfl,rfl,trivial⟩|exact⟨⟨rfl,rfl,rfl,rfl⟩,trivial⟩|(show (_:Int)<=_/\(_:Int)<=_;omega)|(show (_:Int)<=_;omega)|(simp only[EL.len,EL.sz,EL.take,EL.drop,pM,la,ln,lc,ld,lt,ls,lna];with_reducible first|omega|exact Wf (by omega)|(and_intros<;>first|trivial|omega|exact Wf (by omega)))|(simp only[EL.len,EL.sz,EL.take,EL.drop,pM,la,ln,lc,ld,lt,ls,lna] at *;with_reducible first|omega|exact Wf (by omega)|(and_intros<;>first|trivial|omega|exact Wf (by omega)))))|(refine End.mk ?_;exact hF)|refine End.mk ?_|refine brT ?_|refine brF ?_|(refine vg ?_ ?_;focus with_reducible assumption)|(refine vf ?_ ?_;focus with_reducible assumption)|(refine Br.mk ?_ ?_<;>(intro hb;have h:=hb;(try simp only[decide_eq_true_eq,decide_eq_false_iff_not,kP,Bool.not_eq_false',Bool.not_eq_eq_eq_not,yc,yb,ge_iff_le,gt_iff_lt,aE,Bool.and_eq_false_iff,iv,Bool.or_eq_false_iff,beq_self_eq_true,not_true_eq_false,and_self,yd,ca,not_false_eq_true] at h);(try dsimp only[EL.len] at h);(try (exfalso;first|omega|exact bnF h (by with_reducible assumption)|exact bnT h (by with_reducible assumption)))))|refine λ(y:Int) (h0:0<=y) h1=>?_)));done)))));(conv=>whnf);(refine λ(y:Int) (h0:0<=y) h1=>?_);replace hF:=hF y h0 h1));(conv at hF=>whnf)));replace hF:=zcT hF))|(refine End.mk ?_;exact hF)|refine End.mk ?_|refine brT ?_|refine brF ?_|(refine vg ?_ ?_;focus with_reducible assumption)|(refine vf ?_ ?_;focus with_reducible assumption)|(refine vg ?_ ?_;focus (simp only[beq_self_eq_true,eq_self,and_self,yc,yb,bL,decide_true,decide_false,zHS,zHU,zHT,wJ,not_true_eq_false,not_false_eq_true,jm];done))|(refine vf ?_ ?_;focus (simp only[beq_self_eq_true,eq_self,and_self,yc,yb,bL,decide_true,decide_false,zHS,zHU,zHT,wJ,not_true_eq_false,not_false_eq_true,jm];done))  | (refine az.mk ?_ ?_;focus (simp only[rvG,rvI,EL.len,vL,ya];(try dsimp only);omega))|(refine az.mk ?_ ?_;focus (show (_:Int)<=_/\(_:Int)<=_;simp only[rvG,rvI,EL.len,vL,ya];(try dsimp only);omega))|(refine Br.mk ?_ ?_<;>(intro hb;have h:=hb;(try simp only[decide_eq_true_eq,decide_eq_false_iff_not,kP,Bool.not_eq_false',Bool.not_eq_eq_eq_not,yc,yb,ge_iff_le,gt_iff_lt,aE,Bool.and_eq_false_iff,iv,Bool.or_eq_false_iff,beq_self_eq_true,not_true_eq_false,and_self,yd,ca,not_false_eq_true] at h);(try dsimp only[EL.len] at h);(try (exfalso;first|omega|exact bnF h (by with_reducible assumption)|exact bnT h (by with_reducible assumption)))))|refine λ(y:Int) (h0:0<=y) h1=>?_))
 all_goals try (exfalso;simp[rvG,rvI,EL.len,vL,ya] at h;done)
 intro u hu
 replace hu:=hu.trans hy.symm
 subst hu
 repeat' ((conv=>whnf);(first|(refine az.mk (p:=(_:List (Int×Int))=_) ?_ ?_;focus (simp[vL,ya,EL.len,rvG,rvI];done))|(refine az.mk (p:=(_:List Int)=_) ?_ ?_;focus (simp[vL,ya,EL.len,rvG,rvI];done))|(refine az.mk ?_ ?_;focus (first|omega|with_reducible assumption|kernel_rfl|exact rfl|(with_reducible first|omega|exact Wf (by omega)|(and_intros<;>first|trivial|omega|exact Wf (by omega)))|(dsimp only[EL.len];with_reducible first|omega|exact Wf (by omega)|(and_intros<;>first|trivial|omega|exact Wf (by omega)))|with_reducible exact zzJ (by omega)|with_reducible exact Wf ⟨by decide,by decide⟩|exact⟨rfl,trivial⟩|exact⟨rfl,rfl,trivial⟩|exact⟨⟨rfl,rfl,rfl,rfl⟩,trivial⟩|(show (_:Int)<=_/\(_:Int)<=_;omega)|(show (_:Int)<=_;omega)|(simp only[EL.len,EL.sz,EL.take,EL.drop,pM,la,ln,lc,ld,lt,ls,lna];with_reducible first|omega|exact Wf (by omega)|(and_intros<;>first|trivial|omega|exact Wf (by omega)))|(simp only[EL.len,EL.sz,EL.take,EL.drop,pM,la,ln,lc,ld,lt,ls,lna] at *;with_reducible first|omega|exact Wf (by omega)|(and_intros<;>first|trivial|omega|exact Wf (by omega)))))|(refine Fork.mk ?_ ?_;(intro K' hF;(conv at hF=>whnf);(repeat ((first|(have hs:=WI hF;replace hF:=WJ hF)|(replace hF:=Wt hF)|((repeat ((conv=>whnf);(first|(refine az.mk ?_ ?_;focus (first|omega|with_reducible assumption|kernel_rfl|exact rfl|(with_reducible first|omega|exact Wf (by omega)|(and_intros<;>first|trivial|omega|exact Wf (by omega)))|(dsimp only[EL.len];with_reducible first|omega|exact Wf (by omega)|(and_intros<;>first|trivial|omega|exact Wf (by omega)))|with_reducible exact zzJ (by omega)|with_reducible exact Wf ⟨by decide,by decide⟩|exact⟨rfl,trivial⟩|exact⟨rfl,rfl,trivial⟩|exact⟨⟨rfl,rfl,rfl,rfl⟩,trivial⟩|(show (_:Int)<=_/\(_:Int)<=_;omega)|(show (_:Int)<=_;omega)|(simp only[EL.len,EL.sz,EL.take,EL.drop,pM,la,ln,lc,ld,lt,ls,lna];with_reducible first|omega|exact Wf (by omega)|(and_intros<;>first|trivial|omega|exact Wf (by omega)))|(simp only[EL.len,EL.sz,EL.take,EL.drop,pM,la,ln,lc,ld,lt,ls,lna] at *;with_reducible first|omega|exact Wf (by omega)|(and_intros<;>first|trivial|omega|exact Wf (by omega)))))|(refine Fork.mk ?_ ?_;focus (intro K' hF;(conv at hF=>whnf);(repeat ((first|(have hs:=WI hF;replace hF:=WJ hF)|(replace hF:=Wt hF)|((repeat ((conv=>whnf);(refine az.mk ?_ ?_;focus (first|omega|with_reducible assumption|kernel_rfl|exact rfl|(with_reducible first|omega|exact Wf (by omega)|(and_intros<;>first|trivial|omega|exact Wf (by omega)))|(dsimp only[EL.len];with_reducible first|omega|exact Wf (by omega)|(and_intros<;>first|trivial|omega|exact Wf (by omega)))|with_reducible exact zzJ (by omega)|with_reducible exact Wf ⟨by decide,by decide⟩|exact⟨rfl,trivial⟩|exact⟨rfl,rfl,trivial⟩|exact⟨⟨rfl,rfl,rfl,rfl⟩,trivial⟩|(show (_:Int)<=_/\(_:Int)<=_;omega)|(show (_:Int)<=_;omega)|(simp only[EL.len,EL.sz,EL.take,EL.drop,pM,la,ln,lc,ld,lt,ls,lna];with_reducible first|omega|exact Wf (by omega)|(and_intros<;>first|trivial|omega|exact Wf (by omega)))|(simp only[EL.len,EL.sz,EL.take,EL.drop,pM,la,ln,lc,ld,lt,ls,lna] at *;with_reducible first|omega|exact Wf (by omega)|(and_intros<;>first|trivial|omega|exact Wf (by omega)))))));(conv=>whnf);(refine λ(y:Int) (h0:0<=y) h1=>?_);replace hF:=hF y h0 h1));(conv at hF=>whnf)));replace hF:=zcT hF;(repeat' ((conv=>whnf);(first|(refine az.mk ?_ ?_;focus (first|omega|with_reducible assumption|kernel_rfl|exact rfl|(with_reducible first|omega|exact Wf (by omega)|(and_intros<;>first|trivial|omega|exact Wf (by omega)))|(dsimp only[EL.len];with_reducible first|omega|exact Wf (by omega)|(and_intros<;>first|trivial|omega|exact Wf (by omega)))|with_reducible exact zzJ (by omega)|with_reducible exact Wf ⟨by decide,by decide⟩|exact⟨rfl,trivial⟩|exact⟨rfl,rfl,trivial⟩|exact⟨⟨rfl,rfl,rfl,rfl⟩,trivial⟩|(show (_:Int)<=_/\(_:Int)<=_;omega)|(show (_:Int)<=_;omega)|(simp only[EL.len,EL.sz,EL.take,EL.drop,pM,la,ln,lc,ld,lt,ls,lna];with_reducible first|omega|exact Wf (by omega)|(and_intros<;>first|trivial|omega|exact Wf (by omega)))|(simp only[EL.len,EL.sz,EL.take,EL.drop,pM,la,ln,lc,ld,lt,ls,lna] at *;with_reducible first|omega|exact Wf (by omega)|(and_intros<;>first|trivial|omega|exact Wf (by omega)))))|(refine End.mk ?_;exact hF)|refine End.mk ?_|refine brT ?_|refine brF ?_|(refine vg ?_ ?_;focus with_reducible assumption)|(refine vf ?_ ?_;focus with_reducible assumption)|(refine Br.mk ?_ ?_<;>(intro hb;have h:=hb;(try simp only[decide_eq_true_eq,decide_eq_false_iff_not,kP,Bool.not_eq_false',Bool.not_eq_eq_eq_not,yc,yb,ge_iff_le,gt_iff_lt,aE,Bool.and_eq_false_iff,iv,Bool.or_eq_false_iff,beq_self_eq_true,not_true_eq_false,and_self,yd,ca,not_false_eq_true] at h);(try dsimp only[EL.len] at h);(try (exfalso;first|omega|exact bnF h (by with_reducible assumption)|exact bnT h (by with_reducible assumption)))))|refine λ(y:Int) (h0:0<=y) h1=>?_)));done)))));(conv=>whnf);(refine λ(y:Int) (h0:0<=y) h1=>?_);replace hF:=hF y h0 h1));(conv at hF=>whnf)));replace hF:=zcT hF))|(refine End.mk ?_;exact hF)|refine End.mk ?_|refine brT ?_|refine brF ?_|(refine vg ?_ ?_;focus with_reducible assumption)|(refine vf ?_ ?_;focus with_reducible assumption)|(refine vg ?_ ?_;focus (simp only[beq_self_eq_true,eq_self,and_self,yc,yb,bL,decide_true,decide_false,zHS,zHU,zHT,wJ,not_true_eq_false,not_false_eq_true,jm];done))|(refine vf ?_ ?_;focus (simp only[beq_self_eq_true,eq_self,and_self,yc,yb,bL,decide_true,decide_false,zHS,zHU,zHT,wJ,not_true_eq_false,not_false_eq_true,jm];done))  | (refine az.mk ?_ ?_;focus (simp only[rvG,rvI,EL.len,vL,ya];(try dsimp only);omega))|(refine az.mk ?_ ?_;focus (show (_:Int)<=_/\(_:Int)<=_;simp only[rvG,rvI,EL.len,vL,ya];(try dsimp only);omega))|(refine Br.mk ?_ ?_<;>(intro hb;have h:=hb;(try simp only[decide_eq_true_eq,decide_eq_false_iff_not,kP,Bool.not_eq_false',Bool.not_eq_eq_eq_not,yc,yb,ge_iff_le,gt_iff_lt,aE,Bool.and_eq_false_iff,iv,Bool.or_eq_false_iff,beq_self_eq_true,not_true_eq_false,and_self,yd,ca,not_false_eq_true] at h);(try dsimp only[EL.len] at h);(try (exfalso;first|omega|exact bnF h (by with_reducible assumption)|exact bnT h (by with_reducible assumption)))))|refine λ(y:Int) (h0:0<=y) h1=>?_))
 all_goals first
  |((refine gI hK ?_;repeat' first|exact gR|refine az.mk ?_ ?_);done)
  |(exfalso;simp[rvG,rvI,EL.len,vL,ya] at h;done)
theorem zNv{P':aG}(E:Rn.Env al.prog P' (Rn.lN al.prog) MS){us:CvL shL}{w:ai}{t:Int}(hb:cvb shL us)(hs:cvB shL us\/∃x:HL shL,VV w shL x (cvs shL us))(hrel:Rn.Rel al.prog ⟨aU al.prog 11 #[.agg ⟨cvs shL us⟩,.int .i64 t] .normal,[],w⟩):Rn.Tree al.prog (Rn.lN al.prog) MS (aU al.prog 11 #[.agg ⟨cvs shL us⟩,.int .i64 t] .normal) [] w:=by
 rcases hs with hs|⟨x,hx⟩
 ·obtain⟨_,_,_,_,_,_,_,⟨_,_,_⟩,_,_,_,⟨_,_,_⟩,_,_,_,_,_,_,⟨_,_,_⟩,⟨_,_,_⟩,_,_,_,_,_,_,_,_,_,⟨_,_,_⟩,_,_,_,⟨_,_,_⟩,_,_,_,_,_,_,⟨_,_,_⟩,⟨_,_,_⟩,_,_,_⟩:=us
  refine znb E aS aH zNs (zNr E) (Rn.fM Tryz.func11) (TR:=zNq) gK trivial (xs:=[.a (List.map LV.v _),.l (.v (.int .i64 t))]) (vs:=#[_,.int .i64 t]) ⟨⟨_,rfl,zLC gK⟩,⟨rfl,rfl⟩,trivial⟩ gK ?_ hrel
  clear hrel
  simp only[cvb,cvB,cvn,or_false,and_true] at hb hs
  dsimp only[cvs,cv1,List.map]
  repeat' (conv=>whnf);first|refine az.mk ?_ ?_;exact gS|refine Fork.mk ?_ ?_;exact ER|refine End.mk ?_|apply gU;exact gA|refine gB ?_ ?_<;>intro hb h<;>try exact c8|refine λ(y:Int) (h0:0<=y) h1=>?_
  all_goals first|exact rfl|(exfalso;omega)
 ·exact ziQ E aS aH zNs (zNr E) (Rn.fM Tryz.func11) (sig:=[qx,.inl .int]) (TR:=zNq) gK gK zNw (x:=(x,t,())) rfl (vs:=#[.agg ⟨cvs shL us⟩,.int .i64 t]) ⟨⟨_,rfl,hx⟩,rfl,trivial⟩ trivial hrel
end
section
open Go Go.Conc Go.ConcM
section
variable{H:Type}{enc:au×aj->H}
variable{s:ChangeSpec}{apart:Bool}
theorem Z6{P:aG}{f:fI}{F:Stop.Interp}{fresh handsOn:Bool}{W W':ai}{args:Array aj}{v:aj}
  (h:s.post enc P f apart fresh handsOn aa W args v { W' with os:=W.os,tape:=W.tape }) (hos:OsLater W.os W'.os):(m8 s).postWith enc P f F (outsideKept [.timePasses]) apart fresh handsOn W args v W':=by
 obtain⟨ds,gs,before,pr,pa,pv,h1,h2,h3,h4,h5,_⟩:=h
 exact⟨ds,gs,before,pr,pa,pv,h1,h2.of_heap (by rfl),h3.of_heap (by rfl),h4.of_heap (by rfl),leftAs_later hos,h5.2⟩
theorem Cp{a:Assume}{C:Checked}{os:Os}{f:ck}{fn:fI}{F:Stop.Interp}{conds:List PathCond}{fresh handsOn:Bool}{X:ai->Array aj->Prop}
  (hX:∀(w w':ai) (args:Array aj),w.heap=w'.heap->X w args->X w' args)
  (own:ownKnob C.prog.godebug=ak) (started:os.Started) (hfn:C.prog.funcs[f]?=ab fn)
  (witness:∃(w:ai) (tape:Tape) (i:Input),w.os=os/\(w.forCall tape i).Shaped C.prog/\i.vars=[]/\Input.okWide C.prog (w.forCall tape i) .any w.heap.size f i/\
   ((s.pre enc C.prog fn conds apart (w.forCall tape i).memory i.args/\X (w.forCall tape i).memory i.args)/\sizedMet enc C.prog fn (m8 s) apart (w.forCall tape i).memory i.args)/\a.holds C.prog (lone (aU C.prog f i.args .normal) [] (w.forCall tape i)))
  (runs:∀(W:ai) (base:Nat) (args:Array aj) (ds gs:List (zIr H)) (before:List MemPlace),
   (∀(j:Nat) t v,fn.params[j]?=ab t->args[j]?=ab v->Value.okWide C.prog W .any base t v)->
   DataW.Whole enc C.prog fn.params.toList s.vars apart W args.toList ds gs before->X W args->
   ∃M last o w' t',runNT C.prog (M+1) (solo (G (aU C.prog f args .normal) []) W) #[]=(.ended o w',t')/\runN C.prog M (solo (G (aU C.prog f args .normal) []) W)=.next last/\
    step C.prog last=.ended o w'/\Conc.Good C.prog (λ v W'=>s.post enc C.prog fn apart fresh handsOn aa W args v { W' with os:=W.os,tape:=W.tape }/\OsLater W.os W'.os) last o w' t'):
  ReturnsInLeavingWide a C os f .any (λ w args=>(s.pre enc C.prog fn conds apart w args/\X w args)/\sizedMet enc C.prog fn (m8 s) apart w args) ((m8 s).postWith enc C.prog fn F (outsideKept [.timePasses]) apart fresh handsOn):=by
 refine returnsInLeavingWide_of_good own started witness ?_
 intro w tape i _ _ _ fc zq6 _
 obtain⟨_,_,_,fn',zzc,_,_,_,_,hval⟩:=fc
 have e:fn'=fn:=fS (zzc.symm.trans hfn)
 subst e
 obtain⟨⟨⟨ds,gs,before,hw,_⟩,hx⟩,_⟩:=zq6
 have hw':=DataW.Whole.of_heap (w':=w.forCall tape i) (by rfl) hw
 obtain⟨M,last,o,w',t',h1,h2,h3,h4⟩:=runs (w.forCall tape i) w.heap.size i.args ds gs before hval hw' (hX _ _ _ (by rfl) hx)
 obtain⟨v,e,hp,r1,r2,r3,r4⟩:=h4
 exact⟨M,last,o,w',t',h1,h2,h3,v,e,postWith_blind (Z6 hp.1 hp.2),r1,r2,r3,r4⟩
theorem X2{C:Checked}{os:Os}{f:ck}{fn:fI}{conds:List PathCond}{X:ai->Array aj->Prop}(w0:ai)(args:Array aj)(fuel:Nat)(hos:w0.os=os)
  (DC:(w0.forCall (λ _ _=>0) ⟨#[],args,[]⟩).Shaped C.prog)
  (fc:Input.okWideB C.prog (w0.forCall (λ _ _=>0) ⟨#[],args,[]⟩) f ⟨#[],args,[]⟩=ae)
  (zq6:s.preB enc C.prog fn conds apart (w0.forCall (λ _ _=>0) ⟨#[],args,[]⟩).memory args fuel=ae)
  (hsz:s.sizedB enc C.prog fn apart (w0.forCall (λ _ _=>0) ⟨#[],args,[]⟩).memory args fuel=ae)
  (hx:X (w0.forCall (λ _ _=>0) ⟨#[],args,[]⟩).memory args):
  ∃(w:ai) (tape:Tape) (i:Input),w.os=os/\(w.forCall tape i).Shaped C.prog/\i.vars=[]/\Input.okWide C.prog (w.forCall tape i) .any w.heap.size f i/\
   ((s.pre enc C.prog fn conds apart (w.forCall tape i).memory i.args/\X (w.forCall tape i).memory i.args)/\sizedMet enc C.prog fn (m8 s) apart (w.forCall tape i).memory i.args)/\({ calm:=ae }:Assume).holds C.prog (lone (aU C.prog f i.args .normal) [] (w.forCall tape i)):=
 ⟨w0,λ _ _=>0,⟨#[],args,[]⟩,hos,DC,(ym (base:=0) fc).1,(ym fc).2,⟨⟨ChangeSpec.pre_of_preB zq6,hx⟩,sizedMet_of_sizedB hsz⟩,by
  simp only[Assume.holds]
  exact⟨by simp,λ _ _ _ _=>rfl,by simp,by simp,by simp⟩⟩
end
theorem Ou(Lk:Looks){p:Pinned}{s:OpenSpec}{c:OpenClaim}(kinds:List LaidKind)(zhv:Bool)(har:Bool×String)(lk:Bool)
  (hc:c.holds p s) (hw:c.wfByText s=ae) (zzs:c.laidByTextAt Lk p kinds zhv)
  (dz:c.start=.entering) (hnb:c.noBlocks=aa/\c.again=aa) (hm:p.checked.prog.mainIs=ab (har.1,har.2.toList)) (hn:(!har.1 && har.2.isEmpty && !lk)=aa)
  (hl:∀f fn,p.checked.prog.funcNamed c.func=ab f->p.checked.prog.funcs[f]?=ab fn->lk=p.checked.prog.looks []/\∀(j:Nat) t,fn.params[j]?=ab t->p.checked.prog.wantsStandIn t=aa)
  (hg:ae=c.goesBy p.checked.prog):
  Claim7.holds p (.plain s) { stood:={ row:=c,standIns:=[],harness:=har,looks:=lk },kinds:=[],alts:=[],goes:=ae,laidByText:=ae,laidKinds:=kinds,laidTests:=zhv,laidLooks:=Lk }:=by
 have h6:∀r:OpenClaim,Claim7.isSixth { stood:={ row:=r,standIns:=[],harness:=har,looks:=lk },kinds:=[] }=aa:=λ r=>by simpa [Claim7.isSixth] using hn
 exact⟨Claim7.tied_new_at Lk kinds zhv (Claim7.new_of_sixth hc har lk dz hnb hm (h6 c) hl) hw,λ D hD=>(by cases hD),zzs,(λ h=>by cases h),hg⟩
end
section
open Go Go.Conc
theorem AI:∀(f:ck) (fn:fI),al.prog.funcs[f]?=ab fn->fn.body.isSome=ae->an.inits.idxOf? f=ak:=by
 have key:((oY al.prog.funcs.size).all λ f=>((al.prog.funcs[f]?).all λ fn=>!fn.body.isSome) || (an.inits.idxOf? f).isNone)=ae:=by kernel_rfl
 intro f fn h hb
 have cj:f<al.prog.funcs.size:=(ah.1 h).1
 have:=ef.1 key f (List.mem_range.2 cj)
 rw[h] at this
 simp only[Option.all_some,hb,yc,wJ] at this
 exact Option.isNone_iff_eq_none.1 this
theorem zyO:Rn.Env al.prog an (Rn.lN al.prog) Ab.MS:=⟨Rn.pg,Rn.gp,Rn.zrr,λ _ _ _ _ h=>h⟩
theorem av2{R:Rn.BR}{v v' u u':aj}(h:Rn.VR R v v')(k:Rn.VR R u u'):Rn.AV R #[v,u] #[v',u']:=by
 refine⟨rfl,λ i x x' a b=>?_⟩
 match i with
 |0=>
  simp only[dG,bE,aF] at a b
  subst a b
  exact h
 |1=>
  simp only[dG,List.getElem?_cons_succ,bE,aF] at a b
  subst a b
  exact k
 |i+2=>simp at a
end
end Go.Proofs.YtdpfknhenjngcaaGreatDoor
