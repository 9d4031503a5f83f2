/-
  Walks over the tree (part 12). No condition.
-/
import Derived.Test.YtelohkknmgaacaaGreatDoorZ9
import Derived.Test.YtelohkknmgaacaaGreatDoorZ1
import Derived.Test.YtelohkknmgaacaaGreatDoorZ7
import Derived.Test.YtelohkknmgaacaaGreatDoorZ10
import Derived.Test.YtelohkknmgaacaaGreatDoorZ11
import Derived.Conc.HoldsTime
import Derived.LaidMore
import Derived.Stop.Joined
import Derived.OpenVars
import Derived.ChangeVars
import Derived.SevenTiedAt
import Derived.WideShapes
import Derived.Test.YtelohkknmgaacaaGreatDoorZ2
import Derived.Lib.LaidTab
import Derived.Test.YtelohkknmgaacaaGreatDoorRows
set_option linter.unusedSimpArgs false
set_option linter.unusedVariables false
set_option linter.unusedSectionVars false
set_option linter.defProp false
set_option maxRecDepth 100000
set_option maxHeartbeats 2000000
open Array renaming all_eq_true_iff_forall_mem→aQ,mem_of_getElem?→dk,getD_eq_getD_getElem?→cE,replicate→aK,toList→G3,getElem?_modify→bh,getElem?_push→bx,getElem?_eq_some_iff→ab,length_toList→cv
open Bool renaming and_eq_true→aj,false_or→vS,noConfusion→dO,eq_false_iff→bV,or_eq_false_iff→gC
open Go renaming Question→c6,Value→Y,World→V,Program→al,Oper→bU,Code→eF,Func→dH,Operand→aU,Frame→ag,PanicEntry→fX,FuncId→bu,execOp→aG,Frame.at→lW,Frame.enter→aF,TypeId→ah,FrameMode→xm,Addr→bX
open Go.Act renaming eval→a8
open Go.Calls renaming mono→b9
open Go.Deferred renaming ofValue→ey
open Go.Frame renaming finish_at→dJ
open Go.Input renaming okWide_of_okWideB→xL
open Go.Next renaming value→dU
open Go.OpenSpec renaming ofChange→lF
open Go.Oper renaming wp_mono→yo
open Go.Region renaming wanted→ar,Mode→n7,ready→bE,schedule→rT
open Go.Region.linearise renaming go→mW
open Go.Value renaming int→cL
open Int renaming toNat→aC
open List renaming all_cons→fh,mem_toArray→ez,mem_cons→bq,not_mem_nil→cV,all_eq_true→dQ,length_cons→aW,mem_of_getElem?→fb,replicate→aP,getElem?_set_ne→bW,getElem?_map→lD,getElem?_eq_some_iff→bQ,length_take→da,mem_append→za,getElem?_toArray→dV,getElem?_cons_zero→bz,getD_cons_zero→ca,getD_cons_succ→cU,take_add_one→cW,getElem?_eq_getElem→aN,length_pos_iff→mV,count_le_length→mh,take_of_length_le→aM,take_zero→cT,length_append→bJ,getD_eq_getElem?_getD→bA,length_nil→fN,mem_singleton→dC,range→ku
open Nat renaming beq→bD,eq_of_beq_eq_true→aE,le_refl→ao,sub_self→yn,add_zero→dA,ble→eI,ne_of_lt→sI,zero_le→a7,le_trans→bw,blt→lA
open Option renaming map_eq_some_iff→ak,map_some→cG
open Option.some renaming injEq→ay,inj→fO
open Prod.mk renaming injEq→aX
open UInt8 renaming ofNat→gz
open Bool renaming true→E,false→H
open Option renaming some→C,none→U
namespace Go.Proofs.YtelohkknmgaacaaGreatDoor
open Go.Proofs.Tryz
section
open Go.RowKit
namespace Ab
open Rn(World.on)
abbrev Cx.on(cx:Cx)(T:Nat->c6->Nat)(d:Nat):Cx:=⟨World.on cx.w0 T d,cx.M⟩
section
variable{cx:Cx}{β:List En}{hp:Hp}{w w' w0:V}{β0:List En}{hp0:Hp}{T:Nat->c6->Nat}{d:Nat}
def LC.on{x:LV}{v:Y}(h:LC cx β x v):LC (cx.on T d) β x v:=by cases x<;>exact h
def gi.on:∀{x:List LV}{v:List Y},gi cx β x v->gi (cx.on T d) β x v|[],[],_=>trivial|_::_,_::_,h=>⟨h.1.on,gi.on h.2⟩|[],_::_,h=>h|_::_,[],h=>h
def Wd.on:∀{x:List (LV⊕List LV)}{v:List Y},Wd cx β x v->Wd (cx.on T d) β x v|[],[],_=>trivial|.inl _::_,_::_,h=>⟨h.1.on,Wd.on h.2⟩|.inr _::_,_::_,h=>⟨let⟨u,e,k⟩:=h.1;⟨u,e,k.on⟩,Wd.on h.2⟩|[],_::_,h=>h|.inl _::_,[],h=>h|.inr _::_,[],h=>h
def AC.on{x:AV}{v:Y}(h:AC cx β x v):AC (cx.on T d) β x v:=by cases x with|l x=>exact LC.on h|a cs=>have⟨u,e,k⟩:=h;exact⟨u,e,k.on⟩|t xs=>have⟨u,e,k⟩:=h;exact⟨u,e,k.on⟩|j=>trivial
def IL.on:∀{x:List AV}{v:List Y},IL cx β x v->IL (cx.on T d) β x v|[],[],_=>trivial|_::_,_::_,h=>⟨h.1.on,IL.on h.2⟩|[],_::_,h=>h|_::_,[],h=>h
def FR.on{fr:Fr}{t:Array Y}(h:FR cx β fr t):FR (cx.on T d) β fr t:=⟨h.1,λi x a=>(h.2 i x a).on⟩
def HOk.on{x:HB}{e:En}{f:Nat}(h:HOk cx β w x e):HOk (cx.on T d) β (World.on w T f) x e:=by
 cases x<;>cases e<;>first|exact h|skip
 have⟨a,u,b,c⟩:=h;exact⟨a,u,b,c.on⟩
def uO.on{S:Nat->Prop}{w w':V}{d d':Nat}(h:uO S w w'):uO S (World.on w T d) (World.on w' T d'):=⟨h.os,rfl,h.output,h.size,h.block,h.rows⟩
def ki.on{d':Nat}(h:ki cx β hp w):ki (cx.on T d) β hp (World.on w T d'):=⟨h.kp.on,h.len,λk x e a b=>(h.Ds k x e a b).on,h.dis⟩
def kF.on{S:Nat->Prop}{bR:List En}{p:Hp}{d1 d2:Nat}(h:kF cx β hp w S bR p w'):kF (cx.on T d) β hp (World.on w T d1) S bR p (World.on w' T d2):=⟨h.mI.on,h.ext,h.om,h.size,h.len,h.own,h.sb⟩
def Ad.on{P:al}{G:bK}(h:Ad P G cx):Ad P G (cx.on T d):=⟨h.1,h.2.imp id λk=>⟨(by exact k.1),k.2⟩⟩
def SlP(s:Option (Nat×Y))(a:Act):Prop:=match s with|none=>True|some (t,v)=>a.tmps.getD t undef=v
def AtJ(cx:Cx)(β0:List En)(hp0:Hp)(w0:V)(d:List Deferred)(s:Option (Nat×Y))(f:Fr)(hp:Hp)(a:Act)(w:V):Prop:=At cx β0 hp0 w0 d f hp a (World.on w cx.w0.tape 0)/\SlP s a
end
end Ab
end
section
open Go.RowKit
namespace Ab
def IK:Nat:=1000000
def trO(o:bU):bU:=match o.op with|.panic x=>{o with op:=.call {callee:=.value (.func IK),args:=#[x],argTypes:=#[]}}|_=>o
def trC:eF->eF|.region id ops d=>.region id ⟨ops.toList.map trO⟩ d|.seq a b=>.seq (trC a) (trC b)|.cond c a b=>.cond c (trC a) (trC b)|.block id c=>.block id (trC c)|.loop c=>.loop (trC c)|c=>c
def trF(fn:dH):dH:={fn with body:=fn.body.map trC}
def CX(o:bU):Option (Nat×Array aU):=match o.op with|.call c=>(match c.callee with|.value (.func f)=>if bD f IK then U else C (f,c.args)|_=>U)|.panic x=>C (IK,#[x])|_=>U
def noJ(J:bK)(o:bU):Bool:=match o.op with|.call c=>(match c.callee with|.builtin _=>E|.value (.func f)=>J.all λp=>!Nat.beq p.1 f|_=>H)|_=>E
def zel{J G:bK}{f:Nat}{K:CS->Prop}:(J.all λp=>!Nat.beq p.1 f)=E->csK (J++G) f K=csK G f K:=by induction J with|nil=>simp_all|cons p r i=>intro h;rw[fh,aj]at h;have⟨b,c⟩:=p;have a:bD b f=H:=Y7;show csK ((b,c)::(r++G)) f K=_;simp only[csK,a];exact i h.2
def zri{J G:bK}{f:Nat}{K:CS->Prop}:(J.any λp=>bD p.1 f)=E->csK (J++G) f K->∃c,(f,c)∈J/\K c:=by induction J with|nil=>intro h;cases h|cons p r i=>intro h k;have⟨g,c⟩:=p;simp[csK]at k;cases a:bD g f with|true=>rw[a]at k;obtain rfl:=aE a;simp_all|false=>rw[a]at k;rw[List.any_cons,a,vS]at h;have⟨b,d,e⟩:=i h k;grind
section
variable{T:lJ}{J G:bK}{W:Option (Nat×List Nat)}{rsv:Option Nat}{fr:Fr}{hp:Hp}{K:Fr->Hp->Prop}
def zm0{o:bU}(h:noJ J o=E):zbC T (J++G) W rsv fr hp o K=zbC T G W rsv fr hp o K:=by have⟨e,op,t,p,d,g⟩:=o;cases op with
 |call c=>have⟨a,args,i⟩:=c;cases a with |builtin b=>cases b<;>rfl|invoke r n=>cases h|value x=>cases x with |func f=>exact zel h|_=>cases h
 |_=>rfl
end
end Ab
open Go.RowKit
namespace Ab
open Rn(World.on)
def S5(s:ByteArray):Y:=.iface 75 (.agg #[.string s])
def YI(N:al)(O:ag->List ag->V->(ag->List ag->V->Prop)->Prop)(Fin:Y->V->Prop)(f:Nat)(b:Array Y)(w:V)(R:Y->V->Prop)(P:List fX->V->Prop):Prop:=∀(ops:Array bU)(i:Nat)(r:List Nat)(o:bU)(a:Act)(Q:Exit->Act->V->Prop)(args:Array aU),ops[i]?=C o->ar o (yielded ops a.tmps)=E->CX o=C (f,args)->(∀x∈args,Rn.oC x=E)->args.map a.eval=b->(∀v w1,R v w1->Rn.uQ N O Fin ops Q r (a.put o.dst v) w1)->(∀c w1,P c w1->Q (.panic c) a w1)->Rn.uQ N O Fin ops Q (i::r) a w
def zqn(cx:Cx)(β:List En)(h:Hp)(w:V)(Jp:ByteArray->Hp->Prop)(c:List fX)(w1:V):Prop:=∃s p bR S,Jp s p/\c=[{v:=S5 s,recovered:=H}]/\kF cx β h (World.on w cx.w0.tape 0) S bR p (World.on w1 cx.w0.tape 0)
structure mO(N:al)(O:ag->List ag->V->(ag->List ag->V->Prop)->Prop)(Fin:Y->V->Prop)(Jp:ByteArray->Hp->Prop)(f:bu)(c:CS):Prop where snd:∀as1 hp K,c.S as1 hp K->∀(cx:Cx)(β:List En)(w:V)(vs:Array Y),ki cx β hp (World.on w cx.w0.tape 0)->(Gw cx.w0/\Gm cx.M)->IL cx β as1 vs.toList->YI N O Fin f vs w (λv w1=>∃r dF bR,K r dF/\AC cx bR r v/\kF cx β hp (World.on w cx.w0.tape 0) (ST (c.sb as1)) bR dF (World.on w1 cx.w0.tape 0)) (zqn cx β hp w Jp)
def IS(P:al)(s:Sem Next):Prop:=∀w n w1,s.run P w=.ok n w1->(∃v,n=.value v)\/n=.skip
variable{P:al}
def IS.bind{α:Type}{s:Sem α}{f:α->Sem Next}(h:∀a,IS P (f a)):IS P (s>>=f):=λw n w1 r=>by rw[Sem.run_bind]at r;cases b:s.run P w with|ok a w2=>rw[b]at r;exact h a w2 n w1 r|halt x w2=>rw[b]at r;cases r
def xX(v:Y):IS P (pure (.value v)):=λw n w1 h=>by cases h;simp_all
def zse:IS P (pure .skip):=λw n w1 h=>Y7
def CK{s:Sem Next}(h:uP P s):IS P s:=λw n w1 e=>absurd e h.Eu
def zdW(o:bU):Bool:=match o.op with|.move _|.assign _|.pick ..|.alloc _|.box ..|.build ..|.buildSlice ..|.load ..|.store ..|.nilCheck _|.binOp ..|.unOp ..|.convert ..|.makeInterface ..|.makeMap ..|.makeSlice ..|.slice ..|.fieldAddr ..|.field ..|.indexAddr ..|.index ..|.lookup ..|.mapUpdate ..|.insert ..|.typeAssert ..|.extract ..=>E|.call c=>(match c.callee with|.builtin .append|.builtin .len|.builtin .min=>E|_=>H)|_=>H
variable{o:bU}
def zkd(h:zdW o=E)(ρ:aU→Y):IS P (aG ρ o):=by
  have⟨f,op,t,p,e,g⟩:=o;cases op<;>first|(cases h;done)|(exact xX _)|(exact .bind fun _=>xX _)|(exact .bind fun _=>zse)|skip
  case nilCheck x=>
    unfold aG;simp;split;.exact CK (gH _)
    .exact CK (gH _)
    .exact CK (gH _)
    . split;.exact CK (gH _)
      .exact .bind fun _=>.bind fun _=>by split<;>first|exact xX _|exact .bind fun _=>xX _
      .exact xX _
    .exact xX _
  case call c=>
    have⟨a,args,d⟩:=c;cases a<;>first|(cases h;done)|skip
    rename_i b;cases b<;>first|(cases h;done)|skip
    .exact(IS.bind fun _=>xX _:IS P (do pure (dU (←Builtin.append_ d t (args.map ρ)))))
    .exact(IS.bind fun _=>xX _:IS P (do pure (dU (←Builtin.len_ d t (args.map ρ)))))
    .exact(IS.bind fun _=>xX _:IS P (do pure (dU (←Builtin.min_ d t (args.map ρ)))))
def jO(J:bK)(o:bU):Bool:=match o.op with|.panic x=>Rn.oC x&&J.any λp=>bD p.1 IK|.call c=>(match c.callee with|.value (.func f)=>!Nat.beq f IK|_=>zdW o)|_=>zdW o
def jC(J:bK):eF->Bool|.region _ ops _=>ops.all (jO J)|.seq a b=>jC J a&&jC J b|.cond _ a b=>jC J a&&jC J b|.block _ c=>jC J c|.loop c=>jC J c|_=>E
def AtP(cx:Cx)(β0:List En)(hp0:Hp)(w0:V)(d0:List Deferred)(sl:Option (Nat×Y))(p:Hp)(a:Act)(w:V):Prop:=(∃β,ki cx β p (World.on w cx.w0.tape 0)/\a.defers=d0/\Lk β0 hp0 w0 β p (World.on w cx.w0.tape 0))/\SlP sl a
def slT(t:Nat):eF->Bool|.region _ ops draw=>!draw&&ops.all λo=>(o.dst !=C t)|.seq a b=>slT t a&&slT t b|.cond _ a b=>slT t a&&slT t b|.block _ c=>slT t c|.loop c=>slT t c|_=>E
def slC:Option (Nat×Y)->eF->Bool|none,_=>E|some (t,_),c=>slT t c
abbrev SD(ops:Array bU):Array bU:=⟨ops.toList.map trO⟩
def O3{ops:Array bU}(i:Nat):(SD ops)[i]?=(ops[i]?).map trO:=Y1
def vf(o:bU):(trO o).dst=o.dst/\(trO o).guard=o.guard/\(trO o).after=o.after:=by unfold trO;split<;>simp_all
def E2(ops:Array bU)(t:Array Y):yielded (SD ops) t=yielded ops t:=by funext j;unfold yielded;rw[O3];cases ops[j]? with|none=>rfl|some o=>simp[(vf o).1]
def sX(o:bU)(ops:Array bU)(t:Array Y):ar (trO o) (yielded (SD ops) t)=ar o (yielded ops t):=by unfold ar;rw[(vf o).2.1,E2]
def oH(o:bU):Bool:=match o.op with|.panic _=>E|_=>H
def xf(h:oH o=H):trO o=o:=by unfold trO oH at*;split<;>simp_all
def znG{b:ag}{a:Act}{ops:Array bU}{l:List Nat}{k:List Item}{L:List ag}{w:V}(h:Rn.ou P ⟨b.at a (.inRegion ops l::k),L,w⟩){i:Nat}(j:ops[i]?=C o){f:Nat}{args:Array aU}(d:CX o=C (f,args))(p:oH o=H):∀x∈args,Rn.oC x=E:=by
 have⟨R,m,r,W,g,_⟩:=h;have:=g.ok (.inRegion ops l) (by simp[lW]);simp only[Rn.pO,aQ]at this;have e:=this o (dk j);unfold CX at d;split at d
 .rename_i c n;split at d
  .split at d;.cases d
   cases d;rw[n]at e;simp only[Rn.MD,Rn.W3,aj,aQ]at e;exact e.1
  .cases d
 .rename_i x q;rw[oH,q]at p;cases p
 .cases d
section
variable{N P':al}{O:ag->List ag->V->(ag->List ag->V->Prop)->Prop}{Fin:Y->V->Prop}{cx:Cx}{β0:List En}{hp0:Hp}{w0:V}{d0:List Deferred}{T:lJ}{G J:bK}{Jp:ByteArray->Hp->Prop}{sl:Option (Nat×Y)}{ops:Array bU}{Q:Exit->Act->V->Prop}
def OpJ(N:al)(O:ag->List ag->V->(ag->List ag->V->Prop)->Prop)(Fin:Y->V->Prop)(sl:Option (Nat×Y))(T0:Nat->c6->Nat)(ops:Array bU)(Q:Exit->Act->V->Prop)(i:Nat)(K:Act->V->Prop)(a:Act)(w:V):Prop:=∃o,ops[i]?=C o/\((ar o (yielded ops a.tmps)=H/\K (a.put o.dst undef) w)\/(ar o (yielded ops a.tmps)=E/\((oH o=H/\(∀T d,o.wp N a (World.on w T d) (λb e=>K b (World.on e T0 0)) λ_ _ _=>False)/\∀T d n w1,(aG a.eval o).run N (World.on w T d)=.ok n w1->(∃v,n=.value v)\/n=.skip)\/∃f args R P,CX o=C (f,args)/\(oH o=E->∀x∈args,Rn.oC x=E)/\YI N O Fin f (args.map a.eval) w R P/\(∀v w1,R v w1->K (a.put o.dst v) (World.on w1 T0 0))/\∀c w1,P c w1->∀b,b.defers=a.defers->SlP sl b->Q (.panic c) b w1)))
variable{T0:Nat->c6->Nat}
variable{i:Nat}{a:Act}{w:V}
def zae(j:Rn.bK N P' O Fin){r:List Nat}(s:SlP sl a)(h:OpJ N O Fin sl T0 ops Q i (λq l=>Rn.uQ N O Fin ops Q r q l) a w):Rn.uQ N O Fin ops Q (i::r) a w:=by
 obtain⟨o,m,⟨n,h⟩|⟨n,⟨_,e,g⟩|⟨f,args,R,P,d,F,u,y,z⟩⟩⟩:=h;.apply Rn.zgc j Y7;rw[m];exact h
 .exact Rn.zke j m n e g λq l h=>Rn.Gi j h l.tape l.drawn
 .intro b k L t A;refine u ops i r o a Q args m n d (λx c=>?_) rfl (λv w1 B=>Rn.Gi j (y v w1 B) w1.tape w1.drawn) (λD w1 h=>z D w1 h a rfl s) b k L t A;cases p:oH o with|true=>simp_all|false=>exact znG t m d p x c
def zcP(a:Act)(d:Option Tmp)(v:Y):(a.put d v).defers=a.defers:=by cases d<;>rfl
def zvB(hP:N.funcs[IK]?=U):Wop N (SD ops) (λw=>w=World.on w T0 0) (OpJ N O Fin sl T0 ops Q):=by
 refine⟨λ{i K P a w}hn h⟨o,ho,k⟩=>⟨o,ho,?_⟩,λ{i o v a w p K}ho l hn h=>?_,λ{j e oj v a w p K}hj m t s l h=>?_⟩
 .rcases k with⟨Z,k⟩|⟨Z,⟨hp,k1,q⟩|⟨f,args,R,D,b,hx,hs,k1,q⟩⟩;.exact .inl ⟨Z,h _ _ hn k⟩
  .exact .inr ⟨Z,.inl ⟨hp,λT d=>yo (λa w=>h a _ rfl) (k1 T d),q⟩⟩
  .exact .inr ⟨Z,.inr ⟨f,args,R,D,b,hx,hs,λv w1 hv=>h _ _ rfl (k1 v w1 hv),q⟩⟩
 .rw[O3]at ho;obtain⟨o1,g,rfl⟩:=ak.1 ho;refine⟨o1,g,?_⟩;rcases l with⟨Z,hv⟩|⟨Z,rfl⟩
  .rw[sX]at Z;cases hp:oH o1 with|true=>
    have:=hv w (Ex.refl _ _);have⟨dst,op,ty,pos,after,guard⟩:=o1;cases op<;>first|(cases hp;done)|skip
    simp[trO,aG,resolve,a8,ey,invoke,callFunc,hP,stuck]at this|false=>
    rw[xf hp]at hv h;refine .inr ⟨Z,.inl ⟨rfl,λT d=>?_,λT d n w1 hr=>?_⟩⟩;.unfold Oper.wp;rw[hv (World.on w T d) ⟨ao _,λ_ _ _=>rfl⟩];show K _ (World.on w T0 0);rw[<-hn];exact h
    .rw[hv (World.on w T d) ⟨ao _,λ_ _ _=>rfl⟩]at hr;cases hr;exact .inl ⟨v,rfl⟩
  .rw[sX]at Z;rw[(vf o1).1]at h;exact .inl ⟨Z,h⟩
 .rw[O3]at hj;obtain⟨o1,g,rfl⟩:=ak.1 hj;have⟨S,M,L⟩:=Oper.apart_spec m;have⟨o2,z,k⟩:=h;rw[g]at z;cases z;refine⟨o1,g,?_⟩;have s4:∀(a':Act)u,YieldsIf N (SD ops) (Ex p w) e v a'->YieldsIf N (SD ops) (Ex p w) e v (a'.put o1.dst u):=λa' u l=>by rw[<-(vf o1).1];exact l.of_same (execOp_put e t a' _ u L) (wanted_put e a' _ u L)
  have A:ar o1 (yielded ops (a.put e.dst v).tmps)=ar o1 (yielded ops a.tmps):=by have h:=wanted_put (trO o1) a e.dst v S;rwa[sX,sX]at h
  have B:∀u,(a.put o1.dst u).put e.dst v=(a.put e.dst v).put o1.dst u:=λu=>by rw[<-(vf o1).1];exact(Act.put_comm a v u M).symm
  rw[A]at k;rcases k with⟨Z,k⟩|⟨Z,⟨hp,k1,q⟩|⟨f,args,R,D,b,hx,hs,k1,q⟩⟩;.exact .inl ⟨Z,s4 a undef l,by rw[B];exact k⟩
  .refine .inr ⟨Z,.inl ⟨hp,λT d=>?_,λT d n w1 hr=>q T d n w1 ?_⟩⟩
   .have r:(SD ops)[j]?=C o1:=by rw[O3,g];simp[xf hp]
    have W:ar o1 (yielded (SD ops) a.tmps)=E:=by rw[E2];exact Z
    have F:ar o1 (yielded (SD ops) (a.put e.dst v).tmps)=E:=by rw[E2,A];exact Z
    rw[xf hp]at m s;have G:=wpOp_putIf r m t s (λ_ _ _ h=>h) l (by unfold wpOp;simp[r,F,if_true];exact .inl (k1 T d));unfold wpOp at G;simp[r,W,if_true]at G;exact G.resolve_right λ⟨_,_,_,h⟩=>h
   .rw[xf hp]at S s;rw[execOp_put o1 s a e.dst v S];exact hr
  .have X:args.map (a8 (a.put e.dst v))=args.map a.eval:=by
    refine Array.map_congr_left λx hx=>Act.eval_put λd hd I=>S d hd ?_;subst I;refine List.mem_append_left _ (List.mem_filterMap.2 ⟨.tmp d,?_,rfl⟩);unfold CX at b;split at b
    .rename_i c hc;split at b
     .split at b;.cases b
      cases b;have J:oH o1=H:=by unfold oH;rw[hc]
      rw[xf J,hc];simp[Op.operands,Call.operands,hx]
     .cases b
    .rename_i y l;cases b;have:(trO o1).op=.call {callee:=.value (.func IK),args:=#[y],argTypes:=#[]}:=by unfold trO;rw[l]
     rw[this];simp[ez,bq,cV,or_false]at hx;subst hx;simp[Op.operands,Call.operands]
    .cases b
   rw[X]at hs;refine .inr ⟨Z,.inr ⟨f,args,R,D,b,hx,hs,λu w1 hv=>⟨s4 a u l,by rw[B];exact k1 u w1 hv⟩,λch w1 h a' ha hs=>q ch w1 h a' (ha.trans (zcP a _ _).symm) hs⟩⟩
def PD{K c:Act->V->Prop}(h:∀a w,K a w->c a w):OpJ N O Fin sl T0 ops Q i K a w->OpJ N O Fin sl T0 ops Q i c a w:=by
 rintro⟨o,j,⟨g,k⟩|⟨g,⟨p,l,b⟩|⟨f,args,R,P,e,x,s,l,b⟩⟩⟩;.exact⟨o,j,.inl ⟨g,h _ _ k⟩⟩
 .exact⟨o,j,.inr ⟨g,.inl ⟨p,λT d=>yo (λa w=>h a _) (l T d),b⟩⟩⟩
 .exact⟨o,j,.inr ⟨g,.inr ⟨f,args,R,P,e,x,s,λv w1 m=>h _ _ (l v w1 m),b⟩⟩⟩
def Xu{β bR:List En}{f p:Hp}{S:Nat->Prop}{w1:V}{T:Nat->c6->Nat}{d e:Nat}(t:w.tape=cx.w0.tape)(h:kF (cx.on T d) β f (World.on w T e) S bR p w1):kF cx β f w S bR p (World.on w1 cx.w0.tape 0):=by
 have a:=h.on (T:=cx.w0.tape) (d:=cx.w0.drawn) (d1:=w.drawn) (d2:=0);have b:World.on (World.on w T e) cx.w0.tape w.drawn=w:=by rw[<-t];rfl
 have c:(cx.on T d).on cx.w0.tape cx.w0.drawn=cx:=rfl;rw[b,c]at a;exact a
variable{args:Array aU}
def ZB{f:bu}{o:bU}(h:(N.funcs[f]?).map (λe=>(e.name== "runtime.NumGoroutine",e.body.isNone))=C (H,H))(k:CX o=C (f,args))(p:oH o=H)(w:V):(aG a.eval o).run N w=.ok (.enter f (args.map a.eval)) w:=by
 have⟨i,op,t,j,d,g⟩:=o;cases op<;>first|(cases k;done)|(cases p;done)|skip
 rename_i c;have⟨b,m,l⟩:=c;cases b<;>first|(cases k;done)|skip
 rename_i x;cases x<;>first|(cases k;done)|skip
 simp only[CX]at k;split at k;.cases k
 cases k;simp[aG,resolve,a8,ey,invoke,oX h]
def Cu{o:bU}{f:Nat}(k:CX o=C (f,args))(p:oH o=H):∃a,o.op=.call {callee:=.value (.func f),args,argTypes:=a}:=by
 have⟨d,op,t,e,b,g⟩:=o;cases op<;>first|(cases k;done)|(cases p;done)|skip
 rename_i c;have⟨callee,h,a⟩:=c;cases callee<;>first|(cases k;done)|skip
 rename_i x;cases x<;>first|(cases k;done)|skip
 simp only[CX]at k;split at k;.cases k
 cases k;simp_all
def Ja{o:bU}{f:Nat}(k:CX o=C (f,args))(h:f≠IK):oH o=H:=by cases p:oH o with|false=>rfl|true=>
 unfold oH at p;unfold CX at k;split at p;.simp_all
 .cases p
def zkf(g:Rn.bK N P' O Fin){f:bu}(b:(N.funcs[f]?).map (λj=>(j.name== "runtime.NumGoroutine",j.body.isNone))=C (H,H)){l:Array Y}{R:Y->V->Prop}{Pn:List fX->V->Prop}(B:∀v w T d,R v w->R v (World.on w T d))(c:f≠IK)(h:∀T d,Calls N f l (World.on w T d) λe w1=>∃v,e=.returned v/\R v w1):YI N O Fin f l w R Pn:=by intro ops i r o a Q args m n k x p q s;refine Rn.VA g m n (λT d=>by rw[<-p];exact ZB b k (Ja k c) _) (Rn.Sq g B h) q s
def zrq(Q0:Rn.bK N P' O Fin)(hP:N.funcs[IK]?=U)(hT:eV N T)(hG:Ad N G cx)(hJ:∀f c,(f,c)∈J->mO N O Fin Jp f c)(hg:Gw cx.w0/\Gm cx.M)(P:∀o∈ops.toList,jO J o=E)(hQ:∀s hp a w,Jp s hp->AtP cx β0 hp0 w0 d0 sl hp a w->Q (.panic [{v:=S5 s,recovered:=H}]) a w):zhx T (J++G) cx β0 hp0 w0 d0 (SD ops) (OpJ N O Fin sl cx.w0.tape ops Q):=by
 refine⟨λh k=>PD h k,λ{i o K a w}ho hw h=>?_,λ{i o' a w β fr hp W rsv K}ho hw hI A Q1 L hr h=>?_⟩
 .rw[O3]at ho;obtain⟨o1,u,rfl⟩:=ak.1 ho;rw[sX]at hw;rw[(vf o1).1]at h;exact⟨o1,u,.inl ⟨hw,h⟩⟩
 .rw[O3]at ho;obtain⟨o,u,rfl⟩:=ak.1 ho;rw[sX]at hw;have B:o∈ops.toList:=by have:=dk u;simpa using this
  have j:=P o B;have ht:=hI.kp.tape;refine⟨o,u,.inr ⟨hw,?_⟩⟩;have asks:∀f args,CX o=C (f,args)->(oH o=E->∀x∈args,Rn.oC x=E)->(J.any λp=>bD p.1 f)=E->(csK (J++G) f λQ2=>SP fr args.toList λm=>af (Es W (Q2.sb m)=E)<|Q2.S m hp λr dF=>mj fr o.dst r λcm=>K cm dF)->∃f args R Pn,CX o=C (f,args)/\(oH o=E->∀x∈args,Rn.oC x=E)/\YI N O Fin f (args.map a.eval) w R Pn/\(∀v w1,R v w1->∃cm dF bR,K cm dF/\FR cx bR cm (a.put o.dst v).tmps/\(a.put o.dst v).defers=a.defers/\kF cx β hp w (SW W) bR dF (World.on w1 cx.w0.tape 0))/\∀ch w1,Pn ch w1->∀a',a'.defers=a.defers->SlP sl a'->Q (.panic ch) a' w1:=by
   intro f args l hx wR X;have⟨c,hc,Q3⟩:=zri wR X;have⟨rs,Z,h4⟩:=oQ A Q3;have⟨q,h5⟩:=aH.1 Z;refine⟨f,args,_,_,l,hx,(hJ f c hc).snd rs hp _ h5 cx β w (args.map a.eval) (hI.on (T:=cx.w0.tape) (d:=cx.w0.drawn) (d':=0)) hg (by simpa using h4),λv w1⟨r1,dF,bR,l,t,g⟩=>?_,λch w1⟨s,dF,bR,S,hs,e,g⟩a' ha hsl=>?_⟩;.have⟨cm,g1,g2,g3⟩:=de l (A.ext g.ext) t;exact⟨cm,dF,bR,g1,g2,g3,(Xu ht g).mono λk l=>oc q k l⟩
   .subst e;exact hQ s dF a' w1 hs ⟨⟨bR,g.mI,ha.trans Q1,Lk.out (w:=World.on w cx.w0.tape 0) ⟨L.ext,L.om,L.size,L.len,L.sb⟩ g⟩,hsl⟩
  have lone:oH o=H->zdW o=E->noJ J o=E->(oH o=H/\(∀T d,o.wp N a (World.on w T d) (λa' w'=>∃cm dF bR,K cm dF/\FR cx bR cm a'.tmps/\a'.defers=a.defers/\kF cx β hp w (SW W) bR dF (World.on w' cx.w0.tape 0)) λ_ _ _=>False)/\∀T d n w1,(aG a.eval o).run N (World.on w T d)=.ok n w1->(∃v,n=.value v)\/n=.skip):=by intro D hv hn;rw[xf D,zm0 hn]at h;refine⟨D,λF d=>yo ?_ (Pl (cx:=cx.on F cx.w0.drawn) hT hG.on hI.on (A.on) hr h),λT d n w1 hr=>zkd hv _ _ _ _ hr⟩;rintro a' w'⟨cm,dF,bR,l,hf',Q4,g⟩;exact⟨cm,dF,bR,l,hf'.on,Q4,Xu ht g⟩
  obtain⟨dst,op,ty,pos,after,guard⟩:=o;cases op;case panic x=>simp only[jO,aj]at j;exact .inr (asks IK #[x] rfl (λ_ y hy=>by simp[ez,bq,cV,or_false]at hy;subst hy;exact j.1) j.2 h)
  case call c=>
   have⟨callee,args,SJ⟩:=c;cases callee;case value x=>
    cases x;case func f=>
     have I:CX {dst,op:=.call {callee:=.value (.func f),args,argTypes:=SJ},type:=ty,pos,after,guard}=C (f,args):=by
      have hb:bD f IK=H:=by simpa[jO]using j
      simp[CX,hb]
     cases wR:J.any λp=>bD p.1 f with|true=>exact .inr (asks f args I Y9 wR h)|false=>
      have hn:(J.all λp=>!Nat.beq p.1 f)=E:=by rw[dQ];rw[List.any_eq_false]at wR;intro p hp;have:=wR p hp;cases hb:bD p.1 f with|true=>cases this hb|false=>rfl
      have X:csK G f λQ2=>SP fr args.toList λm=>af (Es W (Q2.sb m)=E)<|Q2.S m hp λr dF=>mj fr dst r λcm=>K cm dF:=by rw[<-zel hn];exact h
      have⟨c,hc,Q3⟩:=GF X;have⟨rs,Z,h4⟩:=oQ A Q3;have⟨q,h5⟩:=aH.1 Z;have z:=hG.1 f c hc;refine .inr ⟨f,args,λv w1=>∃r1 dF bR,(mj fr dst r1 λcm=>K cm dF)/\AC cx bR r1 v/\kF cx β hp w (ST (c.sb rs)) bR dF (World.on w1 cx.w0.tape 0),λ_ _=>False,I,Y9,zkf Q0 z.fn (λv w T d h=>h) (λe=>by subst e;have:=z.fn;rw[hP]at this;cases this) λF d=>?_,λv w1⟨r1,dF,bR,l,t,g⟩=>?_,λ_ _ h=>h.elim⟩
      .apply b9 (z.snd rs hp _ h5 (cx.on F cx.w0.drawn) β (World.on w F d) (args.map a.eval) hI.on hg (by simpa using h4.on));rintro e w1⟨v,r1,dF,bR,rfl,l,t,g⟩;exact⟨v,rfl,r1,dF,bR,l,t.on,Xu ht g⟩
      .have⟨cm,g1,g2,g3⟩:=de l (A.ext g.ext) t;exact⟨cm,dF,bR,g1,g2,g3,g.mono λk l=>oc q k l⟩
    all_goals cases j
   case builtin b=>exact .inl (lone rfl j (by cases b<;>rfl))
   all_goals cases j
  all_goals first|(cases j;done)|exact .inl (lone rfl rfl rfl)
def ziG{c:Fr}{p:Hp}(h:At cx β0 hp0 w0 d0 c p a w)(s:SlP sl a):AtJ cx β0 hp0 w0 d0 sl c p a w:=by obtain⟨β,I,f,b,L⟩:=h;exact⟨⟨β,I.on,f,b,⟨L.ext,L.om,L.size,L.len,L.sb⟩⟩,s⟩
def znu{o:bU}{K:Act->V->Prop}(l:ops[i]?=C o)(h:OpJ N O Fin sl T0 ops Q i K a w):OpJ N O Fin sl T0 ops Q i (λm s=>K m s/\∃v,m=a.put o.dst v) a w:=by
 have⟨j,c,k⟩:=h;rw[l]at c;cases c;refine⟨o,l,?_⟩;rcases k with⟨p,k⟩|⟨p,⟨t,q,e⟩|⟨f,args,R,P,g,u,y,q,e⟩⟩;.grind
 .refine .inr ⟨p,.inl ⟨t,λT d=>?_,e⟩⟩;have b:=q T d;unfold Oper.wp at b⊢;cases r:(aG a.eval o).run N (World.on w T d)with|halt x w1=>rw[r]at b;cases x<;>cases b|ok n w1=>
  rw[r]at b;rcases e T d n w1 r with⟨v,rfl⟩|rfl;.exact⟨b,v,rfl⟩
  .exact⟨b,_,rfl⟩
 .grind
def zjj{o:bU}(h:∀t v,sl=C (t,v)->o.dst≠C t)(s:SlP sl a)(v:Y):SlP sl (a.put o.dst v):=by cases sl with|none=>trivial|some p=>have⟨t,u⟩:=p;have n:=h t u rfl;unfold SlP at*;simp  at*;cases hd:o.dst with|none=>exact s|some d=>have b:d≠t:=Y7;simp[Act.put,cE,Array.getElem?_setIfInBounds_ne b]at s⊢;exact s
def zgn(u:Rn.bK N P' O Fin)(s:∀o∈ops.toList,∀t v,sl=C (t,v)->o.dst≠C t)(x:zhx T (J++G) cx β0 hp0 w0 d0 (SD ops) (OpJ N O Fin sl cx.w0.tape ops Q)){K:Fr->Hp->Prop}(S:∀z y a w,K z y->AtJ cx β0 hp0 w0 d0 sl z y a w->Q .normal a w):∀(r:List bU)(i:Nat)(z:Fr)(y:Hp)(a:Act)(w:V),(SD ops).toList.drop i=r->At cx β0 hp0 w0 d0 z y a w->SlP sl a->Wu T (J++G) (SD ops).toList r z y K->Rn.uQ N O Fin ops Q (List.range' i r.length) a w:=by intro r;induction r with|nil=>intro i z y a w _ D B h;exact Rn.Ps u (S z y a w h (ziG D B))|cons o r p=>
 intro i z y a w M D B h;have P:(SD ops)[i]?=C o:=by have:=congrArg (λl=>l[0]?) M;simpa using this
 have e:(SD ops).toList.drop (i+1)=r:=by have:=congrArg List.tail M;simpa using this
 rw[aW,List.range'_succ];obtain⟨β,R,j,c,L⟩:=D;have⟨o1,g,q⟩:∃o1,ops[i]?=C o1/\trO o1=o:=by simp_all
 have m:o1∈ops.toList:=by grind
 apply zae u B;rcases sY j h with⟨F,k⟩|⟨F,k⟩
 .refine PD ?_ (znu g (x.Mx (W:=U) P F R j c L (λ_ _=>trivial) k));rintro Z X⟨⟨A,I,bR,n,f,d,b⟩,v,rfl⟩;exact p (i+1) A I _ X e ⟨bR,b.mI,f,d.trans c,L.out b⟩ (zjj (s o1 m) B v) n
 .have⟨A,n,f,d⟩:=de k j ⟨#[],rfl,aA⟩;exact x.skip P F (p (i+1) A y _ w e ⟨β,R,f,d.trans c,L⟩ (by rw[<-q,(vf o1).1];exact zjj (s o1 m) B _) n)
def zkO(m:n7)(l:Array Bool):bE m (SD ops) l=bE m ops l:=by unfold bE;have s:(SD ops).size=ops.size:=Y1;rw[s];refine List.filter_congr λi _=>?_;rw[O3];cases ops[i]? with|none=>rfl|some o=>simp[(vf o).2.2]
def zci(e:Rn.bK N P' O Fin)(s:∀a,SlP sl a){m:n7}{p:Nat->Prop}{j:Nat->Bool}:∀(g t:Nat)(f:Array Bool)(a:Act)(w:V),Jf (OpJ N O Fin sl T0 ops Q) m (SD ops) Q p j g f a w->Rn.uQ N O Fin ops Q (mW m ops g t f []) a w:=by intro g;induction g with |zero=>intro t f a w h;simpa[mW]using Rn.Ps e h.2|succ g d=>intro t f a w h;have⟨b,c⟩:=h;rw[zkO]at b c;simp only[mW];change Rn.uQ N O Fin ops Q (match(bE m ops f)[t%(bE m ops f).length]? with |some i=>mW m ops g (t/(bE m ops f).length) (f.setIfInBounds i E) [i]|none=>[].reverse) a w;cases k:(bE m ops f)[t%(bE m ops f).length]? with
 |none=>
  have n:bE m ops f=[]:=by cases r:bE m ops f with|nil=>rfl|cons x xs=>rw[r]at k;have l:t%(x::xs).length<(x::xs).length:=Nat.mod_lt _ Y1;simp at k;simp at l;omega
  simpa using Rn.Ps e (b n)|some i=>simp[];rw[linearise_go_acc,List.reverse_singleton,List.singleton_append];exact zae e (s a) (PD (λo q x=>d _ _ o q x.2) (c i (fb k)))
def zkh(e:Rn.bK N P' O Fin)(h:∀t,Rn.uQ N O Fin ops Q (rT (N.follows .mixedOrders) ops t) a w):Rn.Oz N O Fin (.region i ops E) Q a w:=by
 intro b k L j c;have st:∀T d,Rn.dc N (b.at a (.code (.region i ops E)::k)) L (World.on w T d)=.next (b.at a (.inRegion ops (rT (N.follows .mixedOrders) ops (Question.cut (.order b.fn i) (T d (.order b.fn i))))::k)) L (World.on w T (d+1)) #[] []:=λT d=>by simp[Rn.dc,Rn.zJ,lW,choose,Sem.run,Question.forced,World.on]
 refine .mk (λT d=>.inr ⟨_,_,_,_,_,st T d⟩) λT d l m w1 n f s=>?_;have r:=(j.next e.g e.gp s).1;rw[st T d]at s;simp[Rn.LR.next.injEq]at s;obtain⟨rfl,rfl,rfl,_,_⟩:=s;exact(h _ b k L (r.on' w.tape w.drawn) c).on e.ask T (d+1)
def Qh(Q0:Rn.bK N P' O Fin)(hP:N.funcs[IK]?=U)(hT:eV N T)(hG:Ad N G cx)(hJ:∀f c,(f,c)∈J->mO N O Fin Jp f c)(hg:Gw cx.w0/\Gm cx.M)(hM:N.follows .mixedOrders=E){W0:List Nat}{TR:Nat->Tr}:∀(c:eF)(K:Xt->Fr->Hp->Prop)(Q:Exit->Act->V->Prop)(fr:Fr)(hp:Hp)(a:Act)(w:V),jC J c=E->slC sl c=E->(∀e fr hp a w,K e fr hp->AtJ cx β0 hp0 w0 d0 sl fr hp a w->Q (zhF e) a w)->(∀s hp a w,Jp s hp->AtP cx β0 hp0 w0 d0 sl hp a w->Q (.panic [{v:=S5 s,recovered:=H}]) a w)->AtJ cx β0 hp0 w0 d0 sl fr hp a w->exec T (J++G) hp0.length W0 TR (trC c) fr hp K->Rn.Oz N O Fin c Q a w:=by intro c;induction c with
 |skip=>intro K Q fr hp a w _ _ hQ b hA h;exact Rn.zkk Q0 (hQ .n fr hp a w h hA)|region id ops draw=>
  intro K Q fr hp a w hj l hQ b hA h;have Q1:∀o∈ops.toList,jO J o=E:=λo ho=>by simp only[jC]at hj;rw[aQ]at hj;exact hj o (by simpa using ho)
  have hV:=zrq Q0 hP hT hG hJ hg Q1 b;have hq:=λfr hp a w k hA=>hQ .n fr hp a w k hA
  cases draw with |false=>
   apply Rn.zcH Q0;have Q2:∀o∈ops.toList,∀t v,sl=C (t,v)->o.dst≠C t:=λo ho t v e=>by subst e;simp only[slC,slT,aj]at l;have:=l.2;rw[aQ]at this;simpa using this o (by simpa using ho)
   have:=zgn Q0 Q2 hV hq (SD ops).toList 0 fr hp a (World.on w cx.w0.tape 0) rfl hA.1 hA.2 h;have e:(SD ops).toList.length=ops.size:=Y1;rw[e,<-List.range_eq_range']at this;exact Rn.Gi Q0 this w.tape w.drawn|true=>
   have hs:∀a,SlP sl a:=λa=>by cases sl with|none=>trivial|some p=>simp[slC,slT]at l
   have⟨o1,o2,o3,o4,W⟩:=Vn hT hV (λfr hp a w k hA=>hq fr hp a w k (ziG hA (hs a))) hA.1 h;have⟨p,W⟩:=W 0;have hx:=D8 (zvB hP) (TR id).pv o2 o3 (TR id) (aK (SD ops).size H) a (World.on w cx.w0.tape 0) rfl (L6 _) (λx hx=>hx) o4 W;have e:(SD ops).size=ops.size:=Y1;rw[o1,e]at hx;refine zkh Q0 λt=>?_;simp[rT,hM,Bool.true_or,if_true];exact Rn.Gi Q0 (zci Q0 hs ops.size t _ a _ hx) w.tape w.drawn
 |seq x y Q3 D=>
  intro K Q fr hp a w hj l hQ b hA h;simp[jC,aj]at hj;have l:slC sl x=E/\slC sl y=E:=by cases sl with |none=>exact⟨rfl,rfl⟩|some p=>simpa[slC,slT]using l
  refine Rn.znh Q0 (Q3 _ _ fr hp a w hj.1 l.1 ?_ b hA h);intro e cm dF a' w' k A;cases e with |n=>exact D K Q cm dF a' w' hj.2 l.2 hQ b A k|x id=>exact hQ (.x id) cm dF a' w' k A|r=>exact hQ .r cm dF a' w' k A
 |cond c x y Q3 D=>
  intro K Q fr hp a w hj l hQ b hA h;simp[jC,aj]at hj;have l:slC sl x=E/\slC sl y=E:=by cases sl with|none=>exact⟨rfl,rfl⟩|some p=>simpa[slC,slT]using l
  obtain⟨β,hI,X,P,hL⟩:=id hA.1;have⟨r,q,j⟩:=cH X h;split at q;.rename_i t;rw[I0]at q;apply Rn.zkg Q0 j.2;cases t with|true=>exact Q3 K Q fr hp a w hj.1 l.1 hQ b hA (q.1 rfl)|false=>exact D K Q fr hp a w hj.2 l.2 hQ b hA (q.2 rfl)
  .cases q|block id c L=>
  intro K Q fr hp a w hj l hQ b hA h;have l:slC sl c=E:=by cases sl with|none=>rfl|some p=>exact l
  refine Rn.zgd Q0 (L _ _ fr hp a w hj l ?_ b hA h);intro e cm dF a' w' k A;cases e with |n=>exact hQ .n cm dF a' w' k A|r=>exact hQ .r cm dF a' w' k A|x B=>
   show(if B=id then Q .normal a' w' else Q (.exit B) a' w')
   cases R:bD B id with |true=>simp[R]at k;rw[if_pos (aE R)];exact hQ .n cm dF a' w' k A|false=>simp[R]at k;rw[if_neg (λe=>by rw[e]at R;simp at R)];exact hQ (.x B) cm dF a' w' k A
 |loop c L=>
  intro K Q fr hp a w hj l hQ b hA h;have hj:=hj;have l:slC sl c=E:=by cases sl with |none=>rfl|some p=>exact l
  have cover:∀{fr cm:Fr}{hp dF:Hp}{ρ:List Nat}{a:Act}{w:V},cov hp0.length ρ fr hp cm dF->AtJ cx β0 hp0 w0 d0 sl cm dF a w->AtJ cx β0 hp0 w0 d0 sl fr hp a w:=λj⟨⟨β,hI,X,P,hL⟩,hs⟩=>by obtain⟨bR,g1,g2,g3⟩:=AD j hI X hL;exact⟨⟨bR,g1,g2,P,g3⟩,hs⟩
  have key:∀(fr:Fr)(hp:Hp)(a:Act)(w:V),AtJ cx β0 hp0 w0 d0 sl fr hp a w->Lc hp0.length (exec T (J++G) hp0.length W0 TR (trC c)) (wrs (trC c)) fr hp K->Rn.JIn N O Fin c Q a w:=by intro fr hp a w hA h;cases h with
   |it n h=>apply Rn.zim Q0 (λn a w=>∃fr hp,AtJ cx β0 hp0 w0 d0 sl fr hp a w/\Zn (exec T (J++G) hp0.length W0 TR (trC c)) n fr hp K) id n ⟨fr,hp,hA,h⟩;rintro n a w⟨fr,hp,hA,h⟩;cases n with|zero=>cases h|succ n=>refine L _ _ fr hp a w hj l ?_ b hA h;intro e cm dF a' w' k A;cases e with|n=>exact⟨n,⟨cm,dF,A,k⟩,Nat.lt_succ_self n⟩|x id=>exact hQ (.x id) cm dF a' w' k A|r=>exact hQ .r cm dF a' w' k A
   |mI σ u v μ x0 ρ S h=>
    apply Rn.zim Q0 (λx a w=>∃z ht,UR (wrs (trC c)) fr hp (u x) (v x)=C (z,ht)/\AtJ cx β0 hp0 w0 d0 sl z ht a w) μ x0;.have⟨z,ht,q,j⟩:=jc.1 S;exact⟨z,ht,q,cover j hA⟩
    .rintro x a w⟨z,ht,q,A⟩;have⟨Q4,Z,j,h3⟩:=jc.1 (h x);rw[q]at j;simp[ay,aX]at j;obtain⟨rfl,rfl⟩:=j;refine L _ _ z ht a w hj l ?_ b A h3;intro e cm dF a' w' k i
     cases e with |n=>obtain⟨x',ρ',F,h4⟩:=k;have⟨Q5,I,h5,h6⟩:=jc.1 h4;exact⟨x',⟨Q5,I,h5,cover h6 i⟩,F⟩|x id=>exact hQ (.x id) cm dF a' w' k i|r=>exact hQ .r cm dF a' w' k i
   |zhK m σ u v μ x0 ρ S h=>
    have hA:AtJ cx β0 hp0 w0 d0 sl fr (hp++aP m .d) a w:=⟨zbQ m hA.1,hA.2⟩;simp only[PK]at S h;apply Rn.zim Q0 (λx a w=>∃z ht,UR (wrs (trC c)) fr (hp++aP m .d) (u x) (v x)=C (z,ht)/\AtJ cx β0 hp0 w0 d0 sl z ht a w) μ x0;.have⟨z,ht,q,j⟩:=jc.1 S;exact⟨z,ht,q,cover j hA⟩
    .rintro x a w⟨z,ht,q,A⟩;have⟨Q4,Z,j,h3⟩:=jc.1 (h x);rw[q]at j;simp[ay,aX]at j;obtain⟨rfl,rfl⟩:=j;refine L _ _ z ht a w hj l ?_ b A h3;intro e cm dF a' w' k i
     cases e with |n=>obtain⟨x',ρ',F,h4⟩:=k;have⟨Q5,I,h5,h6⟩:=jc.1 h4;exact⟨x',⟨Q5,I,h5,cover h6 i⟩,F⟩|x id=>exact hQ (.x id) cm dF a' w' k i|r=>exact hQ .r cm dF a' w' k i
  apply Rn.zkj Q0;cases h with |g h=>exact key fr hp a w hA h|un n h=>induction n generalizing fr hp a w with |zero=>exact key fr hp a w hA h|succ n ihn=>refine Rn.Z1 Q0 (L _ _ fr hp a w hj l ?_ b hA h);intro e cm dF a' w' k A;cases e with |n=>exact ihn cm dF a' w' A k|x id=>exact hQ (.x id) cm dF a' w' k A|r=>exact hQ .r cm dF a' w' k A
 |exit id=>intro K Q fr hp a w _ _ hQ b hA h;exact Rn.zki Q0 (hQ (.x id) fr hp a w h hA)|ret=>intro K Q fr hp a w _ _ hQ b hA h;exact Rn.zng Q0 (hQ .r fr hp a w h hA)|_=>intro K Q fr hp a w _ _ hQ b hA h;cases h
end
end Ab
end
namespace Rn
open Go Go.Conc
section
variable{P P':al}{O:ag->List ag->V->(ag->List ag->V->Prop)->Prop}{Fin:Y->V->Prop}
def O4(P:al)(f:dH)(R:Y->V->Prop)(b:List fX->V->Prop):Exit->Act->V->Prop|.normal,a,w|.ret,a,w=>a.defers=[]/\∃v T d,(results f a.tmps).run P (World.on w T d)=.ok v (World.on w T d)/\R v w|.panic ch,a,w=>a.defers=[]/\b ch w|_,_,_=>False
def Un(D:bK P P' O Fin){f:bu}{fn:dH}{c:eF}{args:Array Y}{R:Y->V->Prop}{Pn:List fX->V->Prop}{w:V}(x:P.funcs[f]?=C fn)(A:fn.body=C c)(h:Oz P O Fin c (O4 P fn R Pn) {tmps:=args++aK (fn.ntmps-args.size) undef,defers:=[]} w):zh0 P O Fin f args w R Pn:=by
 intro k L Q B t;let b:ag:={(default:ag)with fn:=f,kind:=.normal};have m:aF P f args .normal=b.at {tmps:=args++aK (fn.ntmps-args.size) undef,defers:=[]} [.code c]:=by simp[aF,lW,x,A,b]
 have J:∀(a:Act)(w:V)(F:List Item),(a.defers=[]/\∃v G I,(results fn a.tmps).run P (World.on w G I)=.ok v (World.on w G I)/\R v w)->ou P ⟨{b.at a F with mode:=.returning},k::L,w⟩->fG P O Fin {b.at a F with mode:=.returning} (k::L) w:=by
  intro a w F⟨n,v,G,I,o,u⟩r;have W:(results fn a.tmps).runT P (World.on w G I) #[]=(.ok v (World.on w G I),(results fn a.tmps).events P (World.on w G I) #[]):=by rw[Sem.runT_eq,o]
  have e:∀(K:ag),K.mode=.returning->K.defers=[]->K.fn=f->K.tmps=a.tmps->dc P K (k::L) (World.on w G I)=.next (k.finish v) L (World.on w G I) (seen P f ((results fn a.tmps).events P (World.on w G I) #[])) []:=by intro K n o u p;simp only[dc,pC,n,o,u,p,x,W]
  have s:=e {b.at a F with mode:=.returning} rfl n rfl rfl;have⟨R0,X,L',w',M,y,k3,_⟩:=r.on' G I;refine QR D r (λT d=>?_) λi=>B v w u i;have p:=(YY D.g M k3 (by rw[s];simp)).2 T d;rw[s]at p;have z:=p (λj q Z=>absurd Z (by simp[LR.drawn]));simp[LR.drawn,yn,dA]at z;exact⟨_,z⟩
 rw[m]at Q⊢;refine h b [] (k::L) Q ⟨λa w q r=>?_,λid a w q=>q.elim,λa w F q r=>J a w F q r,λl a w q=>q,λch a w F⟨n,o⟩r=>?_,λa w q=>q⟩;.exact fW D r (λT d=>rfl) λi=>J a w [] q i
 .have⟨S,M,y⟩:=D.pop {b.at a F with mode:=.panicking ch} k L w ch rfl n;refine .ask S M λN L1 w1 hs i=>?_;obtain⟨rfl,rfl,rfl⟩:=y N L1 w1 hs;exact t ch _ o i
end
end Rn
section
open Go.RowKit
namespace Ab
open Rn(World.on)
def RtK(w:V)(K:DV->Prop)(v:Y)(w1:V):Prop:=∃d,K d/\Below w.heap.size w (World.on w1 w.tape w.drawn)/\∃b,frV (World.on w1 w.tape w.drawn) w.heap.size d v b/\b.Nodup
def YL(N:al)(O:ag->List ag->V->(ag->List ag->V->Prop)->Prop)(Fin:Y->V->Prop)(f:bu)(s:List (Sh⊕List Sh))(S:DA s->(DV->Prop)->Prop):Prop:=∀(x:DA s)(K:DV->Prop),S x K->∀(w:V)(v:Array Y),rdA w s x v.toList->Gw w->YI N O Fin f v w (RtK w K) λ_ _=>False
section
variable{N P':al}{O:ag->List ag->V->(ag->List ag->V->Prop)->Prop}{Fin:Y->V->Prop}{T:lJ}{G J:bK}{Jp:ByteArray->Hp->Prop}
variable{w:V}{R:Y->V->Prop}
def YI.mono{f:Nat}{vs:Array Y}{q:Y->V->Prop}{P Pn':List fX->V->Prop}(h:YI N O Fin f vs w R P)(b:∀v w,R v w->q v w)(s:∀c w,P c w->Pn' c w):YI N O Fin f vs w q Pn':=λp i r o a Q args d e g j l m n=>h p i r o a Q args d e g j l (λv w1 k=>m v w1 (b v w1 k)) λc w1 k=>n c w1 (s c w1 k)
def YI.off(m:Rn.bK N P' O Fin){f:Nat}{v:Array Y}{Pn:List fX->V->Prop}{T:Nat->c6->Nat}{d:Nat}(h:YI N O Fin f v (World.on w T d) R Pn):YI N O Fin f v w R Pn:=λn i r o a Q args b c e g j k l=>Rn.Gi m (h n i r o a Q args b c e g j k l) w.tape w.drawn
variable{f:bu}
def WL(o:Rn.bK N P' O Fin){s:List (Sh⊕List Sh)}{S:DA s->(DV->Prop)->Prop}(h:YL N O Fin f s S):mO N O Fin Jp f (cz s S):=by refine⟨λa u K b y β w q I gl t=>?_⟩;have⟨x,c,e⟩:=Lf I t b;refine YI.off o ((h x _ c _ q e (gl.1.s4 gl.2 I.kp)).mono (λv w1⟨d,g,i,z,j,k⟩=>?_) λ_ _ h=>h.elim);obtain⟨r,p,bR,l,m,n⟩:=zdU I i j k g;exact⟨r,p,bR,l,m,n.on⟩
variable{β:List En}
def Ap{c:Cx}{bR:List En}{d p:Hp}{w':V}(f:ki c β d w)(I:ki c bR p w')(L:Lk β d w bR p w'):kF c β d w (λ_=>True) bR p w':=⟨I,λk e a=>L.ext k e (by rw[<-f.len];grind) a,λk b h=>(L.om k b h).imp And.right id,L.size,L.len,λk _ n=>(n trivial).elim,λb h n=>L.sb b h λk=>n k trivial⟩
variable{TR:Nat->Tr}
def GM(p:Rn.bK N P' O Fin)(hP:N.funcs[IK]?=U)(X:eV N T)(hM:N.follows .mixedOrders=E)(hG:aR N G)(y:∀f c,(f,c)∈J->mO N O Fin Jp f c){W0:List Nat}{Q:dH}{c:eF}(hc:Q.body=C c)(hj:jC J c=E){F:Cx}{R:Hp}(S:ki F β R (World.on w F.w0.tape 0))(q:Gw F.w0/\Gm F.M){W:List AV}{P:Array Y}{K:AV->Hp->Prop}(Z:IL F β W P.toList)(hn:W.length<=Q.ntmps)(hx:FX T (J++G) R.length W0 TR (trF Q) W R K):Rn.Oz N O Fin c (Rn.O4 N Q (λv w1=>∃r D bR,K r D/\AC F bR r v/\kF F β R (World.on w F.w0.tape 0) (λ_=>True) bR D (World.on w1 F.w0.tape 0)) (zqn F β R w Jp)) {tmps:=P++aK (Q.ntmps-P.size) undef,defers:=[]} w:=by
 simp[trF,hc,cG]at hx;have B:W.length=P.size:=by rw[Z.length];simp
 refine Qh (sl:=U) p hP X ⟨hG,.inr q⟩ y q hM c _ _ _ R _ w hj rfl ?_ (λs D a w' hs⟨⟨bR,I,d,L⟩,_⟩=>⟨d,s,D,bR,_,hs,rfl,Ap S I L⟩) ⟨⟨β,S,⟨?_,λi x hi=>?_⟩,rfl,⟨λk e m t=>?_,λk b u=>?_,ao _,ao _,λ_ _ _=>rfl⟩⟩,aA⟩ hx
 .intro e fr D a w' m⟨⟨bR,I,g,d,L⟩,_⟩
  cases e with|n=>have⟨r,j,v,h,l⟩:=xb X I g m;exact⟨d,v,_,_,l,r,D,bR,j,h,Ap S I L⟩|r=>have⟨r,j,v,h,l⟩:=xb X I g m;exact⟨d,v,_,_,l,r,D,bR,j,h,Ap S I L⟩|x id=>cases m
 .rw[Gp _ _ hn];simp;omega
 .rcases Gn _ _ i x hi with j|rfl
  .have⟨v,h,l⟩:=Z.get j;have o:i<P.size:=by grind
   have:(P++aK (Q.ntmps-P.size) undef).getD i undef=v:=by have z:P[i]?=C v:=Y7;simp[cE,Array.getElem?_append_left o,z]
   rw[this];exact l
  .trivial
 .grind
 .have⟨x,e,A,_,_⟩:=ix u;grind
def Pt(e:Rn.bK N P' O Fin)(P:N.funcs[IK]?=U){l:dH}{c:eF}(b:N.funcs[f]?=C l)(m:l.body=C c)(g:(N.funcs[f]?).map (λl=>(l.name== "runtime.NumGoroutine",l.body.isNone))=C (H,H)){v:Array Y}{Pn:List fX->V->Prop}(h:Rn.Oz N O Fin c (Rn.O4 N l R Pn) {tmps:=v++aK (l.ntmps-v.size) undef,defers:=[]} w):YI N O Fin f v w R Pn:=by intro n i r o a Q args p q k x s t u;have j:f≠IK:=Y8;refine Rn.VA e p q (λT d=>by rw[<-s];exact ZB g k (Ja k j) _) (Rn.Un e b m h) t u
def Wo(T:lJ)(J G:bK)(W:List Nat)(a:Nat->Tr)(f:dH):CS:={S:=λx p K=>af (eI x.length f.ntmps=E)<|CY (IV p) λn=>s8 T (J++G) n W a (trF f) x p K,sb:=λ_=>U}
def u7(i:Rn.bK N P' O Fin)(P:N.funcs[IK]?=U)(n:eV N T)(M:N.follows .mixedOrders=E)(q:aR N G)(d:∀f c,(f,c)∈J->mO N O Fin Jp f c){W:List Nat}{s:Nat->Tr}{j:dH}(b:N.funcs[f]?=C j)(o:(N.funcs[f]?).map (λj=>(j.name== "runtime.NumGoroutine",j.body.isNone))=C (H,H))(m:j.body.all (jC J)=E):mO N O Fin Jp f (Wo T J G W s j):=by refine⟨λx y K S z β w A I gl t=>?_⟩;have⟨e,g⟩:=aH.1 S;have a:=lY.1 g;rw[vd,qS]at a;cases l:j.body with|none=>rw[trF,l]at a;cases a|some c=>rw[l]at m;exact(Pt i P b l o (GM i P n M q d l m I gl t Y7 a)).mono (λv w1⟨r,p,bR,u,k,k3⟩=>⟨r,p,bR,u,k,k3⟩) λ_ _ h=>h
def wU(T:lJ)(J G:bK)(W:List Nat)(a:Nat->Tr)(f:dH)(s:List (Sh⊕List Sh))(S:DA s->(DV->Prop)->Prop):Prop:=∀(x:DA s)(K:DV->Prop),S x K->bdA s x->ta s x λv=>FX T (J++G) 0 W a f v [] λr p=>∃d,MC p r d/\K d
abbrev noP:ByteArray->Hp->Prop:=λ_ _=>False
def zb4{a:Cx}{p:Hp}(c:List fX)(w1:V)(h:zqn a β p w noP c w1):False:=let⟨_,_,_,_,h,_⟩:=h;h
def Xl(w:V):ki ⟨w,[]⟩ [] [] (World.on w w.tape 0):=⟨⟨rfl,rfl,rfl,ao _,λ_ _ _=>rfl,λ_ h=>h⟩,rfl,λk t e h=>by simp at h,λi k b h=>by simp[cN]at h⟩
def Z3(t:Rn.bK N P' O Fin)(Q:N.funcs[IK]?=U)(R:eV N T)(W:N.follows .mixedOrders=E)(X:aR N G)(k:∀f c,(f,c)∈J->mO N O Fin noP f c){Z:List Nat}{y A:dH}{u:List (Sh⊕List Sh)}{S:DA u->(DV->Prop)->Prop}(hn:eI u.length y.ntmps=E)(P:y.body.all (jC J)=E)(ht:trF y=A)(h:wU T J G Z TR A u S){x:DA u}{K:DV->Prop}(l:S x K){w:V}{B:Array Y}(hr:rdA w u x B.toList)(m:Gw w):∃c,y.body=C c/\Rn.Oz N O Fin c (Rn.O4 N y (RtK w K) λ_ _=>False) {tmps:=B++aK (y.ntmps-B.size) undef,defers:=[]} w:=by have⟨j,ha⟩:=vc (β:=[]) hr;have D:=mm.1 (h x K l j);subst ht;cases F:y.body with|none=>rw[trF,F]at D;cases D|some c=>
 rw[F]at P;refine⟨c,rfl,Rn.Pu (GM t Q R W X k F P (Xl w) ⟨m,Gm.nil⟩ ha (by rw[oR];simpa using hn) D) ?_⟩;have fin:∀{v:Y}{w':V},(∃r z bR,(∃d,MC z r d/\K d)/\AC ⟨w,[]⟩ bR r v/\kF ⟨w,[]⟩ [] [] (World.on w w.tape 0) (λ_=>True) bR z (World.on w' w.tape 0))->RtK w K v w':=by intro v w'⟨r,z,bR,⟨d,g,i⟩,n,o⟩;have I:=o.mI.on (T:=w.tape) (d:=w.drawn) (d':=w.drawn);have⟨bs,p,s⟩:=UX I (n.on) g;exact⟨d,i,⟨I.kp.os,I.kp.tape,I.kp.output,I.kp.size,λb j=>I.kp.block b j Y1⟩,bs,p,s⟩
 intro e a w' q;cases e with|normal=>exact⟨q.1,let⟨v,L,M,g,i⟩:=q.2;⟨v,L,M,g,fin i⟩⟩|ret=>exact⟨q.1,let⟨v,L,M,g,i⟩:=q.2;⟨v,L,M,g,fin i⟩⟩|panic ch=>exact⟨q.1,zb4 _ _ q.2⟩|_=>cases q
def Xh(e:Rn.bK N P' O Fin)(P:N.funcs[IK]?=U)(k:eV N T)(M:N.follows .mixedOrders=E)(l:aR N G)(b:∀f c,(f,c)∈J->mO N O Fin noP f c){W0:List Nat}{i fn':dH}{s:List (Sh⊕List Sh)}{S:DA s->(DV->Prop)->Prop}(a:N.funcs[f]?=C i)(n:eI s.length i.ntmps=E)(o:(N.funcs[f]?).map (λi=>(i.name== "runtime.NumGoroutine",i.body.isNone))=C (H,H))(m:i.body.all (jC J)=E)(t:trF i=fn')(h:wU T J G W0 TR fn' s S):YL N O Fin f s S:=by intro x K d w v r g;have⟨c,p,j⟩:=Z3 e P k M l b n m t h d r g;exact Pt e P a p o j
end
end Ab
end
section
open Go.RowKit
namespace Ab
open Rn(World.on)
def zqV(v:Y)(K:ByteArray->Prop):Prop:=match v with|.iface t (.agg ⟨[.string s]⟩)=>af (bD t 75=E)<|K s|_=>False
def zgu{v:Y}{K:ByteArray->Prop}(h:zqV v K):∃s,v=S5 s/\K s:=by
 unfold zqV at h;split at h
 .have⟨a,b⟩:=aH.1 h;obtain rfl:=aE a;exact⟨_,rfl,b⟩
 .cases h
def D9(Jp:ByteArray→Hp→Prop):CS:={S:=fun x hp _=>(match x with|[.l (.v v)]=>zqV v fun s=>Jp s hp|_=>False),sb:=fun _=>U}
def Xr{l:List Y}{cx:Cx}{β:List En}{x:AV}(h:IL cx β [x] l):∃v,l=[v]/\AC cx β x v:=by match l,h with|[v],h=>exact⟨v,rfl,h.1⟩
section
variable{N P':al}{O:ag->List ag->V->(ag->List ag->V->Prop)->Prop}{Fin:Y->V->Prop}{Jp:ByteArray->Hp->Prop}{cx:Cx}{β:List En}{hp:Hp}{w:V}{S:Nat->Prop}
def ziS(b:Rn.bK N P' O Fin):mO N O Fin Jp IK (D9 Jp):=by refine⟨λj hp K S cx β w G I gl m=>?_⟩;match j,S with
 |[.l (.v v)],S=>
 obtain⟨s,rfl,n⟩:=zgu S;obtain⟨u,J,_,rfl⟩:=Xr m;intro q i r o a Q args t z k A L M p;obtain⟨x,h,rfl⟩:∃x,o.op=.panic x/\args=#[x]:=by
  have⟨B,op,P,D,f,g⟩:=o;cases op<;>first|(cases k;done)|skip
  .rename_i c;have⟨d,R,F⟩:=c;cases d<;>first|(cases k;done)|skip
   rename_i y;cases y<;>first|(cases k;done)|skip
   simp only[CX]at k;split at k;.cases k
   .simp_all
  .cases k;simp_all
 have e:a.eval x=S5 s:=by grind
 apply Rn.zcG b t z h (A x Y1) (by rw[e];rfl);rw[e];exact p _ w ⟨s,hp,β,λ_=>True,n,rfl,kF.refl I⟩
def Ol(I:ki cx β hp w){k n:Nat}{q cs':List LV}{T:ah}(d:hp[k]?=C (.b q T))(f:β[k]?=C (.b n)){w':V}{us':Array Y}(m:w'.heap[n]?=C (.cells us' T (0,0)))(s:w.heap.size<=w'.heap.size)(p:∀b,b<w.heap.size->b≠n->w'.heap[b]?=w.heap[b]?)(h:w'.os=w.os/\w'.tape=w.tape/\w'.output=w.output)(g:gi cx β cs' us'.toList)(l:S k):kF cx β hp w S β (hp.set k (.b cs' T)) w':=by
 have⟨r,u,a,_⟩:=I.Ds k _ _ d f;have o:cN hp β k=C n:=by rw[dK d f];rfl
 refine kF.upd (h':=.b cs' T) I l ⟨h.1,h.2.1,h.2.2,s,λb a j=>p b a (λe=>j (by rw[o,e])),λc g=>?_⟩ (λi t=>⟨bW (cA t),rfl⟩) Y8 f (by simp[I.len]) Y1 (uZ.refl _) ⟨r,us',m,g⟩ (λb a=>.inl (by rw[o];exact a));by_cases e:c=n;.subst e;exact⟨_,_,_,m⟩
 .exact g.same (p c g.lt e)
end
def zqw:CS:={S:=fun x hp K=>(match x with|[.l (.p k off)]=>af (bD off 0=E)<|py hp k fun h=>(match h with|.b [a,s] T=>af (bD T 55=E)<|(match a with|.v (.pointer U)=>uV hp k (.b [.p k 0,s] T) fun c=>K .j c|.p d o=>af (bD d k=E)<|af (bD o 0=E)<|K .j hp|_=>False)|_=>False)|_=>False),sb:=fun _=>U}
section
variable{N:al}{Fin:Y->V->Prop}{Jp:ByteArray->Hp->Prop}
def zmS(g:Rn.PG N Rn.PR):mO N (Rn.Ask N) Fin Jp Rn.ccF zqw:=by refine⟨λxs hp K S cx β w vs hI gl ha=>?_⟩;match xs,S with|[.l (.p k off)],S=>obtain⟨u,hu,_,n,hn,rfl⟩:=Xr ha;simp only[zqw]at S;have⟨Z,f⟩:=aH.1 S;obtain rfl:=aE Z;have⟨h,A,S⟩:=dX.1 f;match h,S with|.b [D,Q0] T,S=>have⟨Q1,m⟩:=aH.1 S;obtain rfl:=aE Q1;have⟨B,us,F,hc⟩:=hI.Ds k _ _ A hn;have⟨l⟩:=us;match l,hc with
 |[v0,v1],⟨c,t,_⟩=>
 have q:w.heap[n]?=C (.cells #[v0,v1] 55 (0,0)):=F;intro ops i rest o a Q args ho hw d hx hv x _;have⟨SJ,oz⟩:=Cu d (Ja d Y5);obtain⟨x0,rfl,y⟩:∃x0,args=#[x0]/\a.eval x0=Rn.bp n:=by have⟨l⟩:=args;have:=congrArg G3 hv;rw[hu]at this;cases l with |nil=>simp at this|cons x0 l=>cases l with |nil=>grind|cons=>simp at this
 have key:∀(W:V),((v0=.pointer U/\W=w.setCell _ (Rn.bp n))\/(v0=Rn.bp n/\W=w))->(∃dF bR,K .j dF/\kF cx β hp (World.on w cx.w0.tape 0) (λ_=>True) bR dF (World.on W cx.w0.tape 0))->Rn.uQ N (Rn.Ask N) Fin ops Q (i::rest) a w:=λW G⟨dF,bR,hK,O⟩=>by refine Rn.Z2 ho (R:=λ_ w1=>w1=W) (λb k L=>⟨_,.inr (Rn.zk0 g ho hw oz (hx x0 Y1) y q G),λfr1 L1 w1⟨Q2,I,J⟩=>⟨I,_,Q2,J⟩⟩) λv w1 e=>x v w1 ?_;subst e;exact⟨.j,dF,bR,hK,aA,O⟩
 match D,m,c with
 |.v (.pointer U),S,c=>
  have⟨M,hK⟩:=hX.1 S;refine key _ (.inl ⟨c.2,rfl⟩) ⟨_,β,hK,Ol hI A hn (us':=#[Rn.bp n,v1]) ?_ ?_ (λb _ z=>Rn.VP z) ⟨rfl,rfl,rfl⟩ ⟨⟨rfl,n,hn,rfl⟩,t,aA⟩ trivial⟩
  .show(w.setCell _ (Rn.bp n)).heap[n]?=_;simp[World.setCell,bh,q]
  .show w.heap.size<=(w.setCell _ (Rn.bp n)).heap.size;simp[World.setCell]|.p k' X,S,c=>have⟨P,r⟩:=aH.1 S;have⟨Q3,hK⟩:=aH.1 r;obtain rfl:=aE P;obtain rfl:=aE Q3;have⟨_,Q4,s,e⟩:=c;rw[hn]at s;cases s;exact key _ (.inr ⟨e,rfl⟩) ⟨hp,β,hK,kF.refl hI⟩
end
def zh8:CS:={S:=fun f hp K=>(match f with|[.l (.p k off)]=>af (bD off 0=E)<|py hp k fun h=>(match h with|.b [_,.s c a] T=>af (bD T 55=E)<|py hp c fun y=>(match y with|.r v d (.bytes (x::l))=>af (bD d 5=E)<|af (bD v a=E)<|uV hp c (.x fun _=>True) fun e=>K (.l (.str (x::l))) e|_=>False)|_=>False)|_=>False),sb:=fun _=>U}
section
variable{N:al}{Fin:Y->V->Prop}{Jp:ByteArray->Hp->Prop}
def zjK(g:Rn.PG N Rn.PR):mO N (Rn.Ask N) Fin Jp Rn.stF zh8:=by refine⟨λxs hp K S cx β w vs hI gl ha=>?_⟩;match xs,S with|[.l (.p k off)],S=>obtain⟨u,hu,_,n,hn,rfl⟩:=Xr ha;simp only[zh8]at S;have⟨h0,q⟩:=aH.1 S;obtain rfl:=aE h0;have⟨h,hk,S⟩:=dX.1 q;match h,S with|.b [p0,.s J ver] T,S=>have⟨h1,t⟩:=aH.1 S;obtain rfl:=aE h1;have⟨h2,z,S⟩:=dX.1 t;match h2,S with|.r zfC Z (.bytes (x::l)),S=>have⟨h3,A⟩:=aH.1 S;have⟨h4,M⟩:=aH.1 A;obtain rfl:=aE h3;obtain rfl:=aE h4;have⟨O,hK⟩:=hX.1 M;have⟨zmv,us,Q0,hc⟩:=hI.Ds k _ _ hk hn;have⟨us⟩:=us;match us,hc with
 |[v0,v1],⟨hv0,⟨_,u1,zDk,f,hle,P⟩,_⟩=>
 have⟨Q1,⟨he,hr⟩,hm⟩:=hI.Ds J _ _ z f;subst Q1;obtain rfl:=P rfl;obtain⟨gb,cap,cur,rfl,Q2,W,X,hcm,hcs,Q3⟩:=hr.resolve_left (λh=>by have:=h.2;simp[EL.len]at this);obtain⟨cap,rfl⟩:∃c,cap=c+1:=⟨cap-1,by simp[EL.len]at X;omega⟩;have B:w.heap[gb]?=C (.cells cur 5 (0,0)):=W;intro ops i rest o a Q args ho hw d hx hv hnx _;have⟨SJ,oz⟩:=Cu d (Ja d Y5);obtain⟨x0,rfl,hev⟩:∃x0,args=#[x0]/\a.eval x0=Rn.bp n:=by have⟨l⟩:=args;have:=congrArg G3 hv;rw[hu]at this;cases l with|nil=>simp at this|cons x0 l=>cases l with|nil=>exact⟨x0,rfl,by simp at this;exact this⟩|cons=>simp at this
 refine Rn.Z2 ho (R:=λv w1=>v=.string ⟨(x::l).toArray⟩/\w1=w.freeze ⟨gb,0,U⟩ (x::l).length) (λb k L=>⟨_,.inr (Rn.zcY g ho hw oz (hx x0 Y1) hev Q0 B (λj y hj=>?_) Y1 ?_),λfr1 L1 w1⟨e1,e2,e3⟩=>⟨e2,_,e1,rfl,e3⟩⟩) λv w1⟨e1,e2⟩=>hnx v w1 ?_
 .have I:(cur.toList.take ((EL.bytes (x::l)).len*(EL.bytes (x::l)).sz))[j]?=C (.int .u8 y.toNat):=by rw[Q3];simp only[EL.di,lD,hj,cG]
  rw[List.getElem?_take]at I;split at I;.simpa using I
  .cases I
 .simp only[EL.len,lH]at hm;omega
 .subst e1 e2;have Q4:∀b,b≠gb->(w.freeze ⟨gb,0,U⟩ (x::l).length).heap[b]?=w.heap[b]?:=λb m=>by
   unfold World.freeze;split;.rfl
   .simp[bh,cA m]
  have D:∀b,iA w b->iA (w.freeze ⟨gb,0,U⟩ (x::l).length) b:=λb hr=>by
   by_cases e:b=gb
   .rw[e];refine⟨cur,5,(0,0+(x::l).length),?_⟩;unfold World.freeze;rw[if_neg Y1];rw[bh,if_pos rfl,B];rfl
   .exact hr.same (Q4 b e)
  have YF:(w.freeze ⟨gb,0,U⟩ (x::l).length).heap.size=w.heap.size:=by unfold World.freeze;split<;>simp
  have F:(w.freeze ⟨gb,0,U⟩ (x::l).length).os=w.os/\(w.freeze ⟨gb,0,U⟩ (x::l).length).output=w.output:=by unfold World.freeze;split<;>exact⟨rfl,rfl⟩
  have G:cN hp β J=C gb:=by rw[dK z f];rfl
  refine⟨_,_,β,hK,⟨rfl,rfl⟩,kF.upd (h':=.x λ_=>True) hI trivial ⟨F.1,rfl,F.2,by show _<=(w.freeze _ (x::l).length).heap.size;rw[YF];exact ao _,λb Q0 m=>Q4 b λe=>m (by rw[G,e]),D⟩ (λi hi=>⟨bW (cA hi),rfl⟩) (by simp[O]) f (by simp[hI.len]) Y1 (uZ.refl _) trivial (λb Q0=>by cases Q0)⟩
end
end Ab
end
section
open Go.RowKit
namespace Ab
open Rn(World.on)
def Ec(p:Hp)(k:Nat)(K:AV->Hp->Prop):Prop:=py p k λh=>match h with|.b [.str s] T=>af (bD T 9=E)<|K (.l (.str s)) p|_=>False
def zqU(a:Hp)(k:Nat)(s:ByteArray)(K:AV->Hp->Prop):Prop:=py a k λh=>match h with|.b [_] T=>uV a k (.b [.str s.data.toList] T) λp=>K (.l (.str s.data.toList)) p|_=>False
def Pb(x y:AV)(k:Nat):Fr:=x::y::.j::.j::.l (.p k 0)::aP 34 .j
def csL(T:lJ)(J:(ByteArray→Hp→Prop)→bK)(G:bK)(W:List Nat)(a:Nat→Tr)(c:eF):CS:={S:=fun d f K=>(match d with|[x,y]=>OL U f (.b [.str []] 9) fun k h=>CY (IV h) fun n=>exec T (J (fun s p=>zqU p k s K)++G) n W a c (Pb x y k) h fun e _ p=>(match e with|.x _=>False|_=>Ec p k K)|_=>False),sb:=fun _=>U}
def Vf{hp:Hp}{k:Nat}{K:AV->Hp->Prop}(h:Ec hp k K):∃s,hp[k]?=C (.b [.str s] 9)/\K (.l (.str s)) hp:=by
 have⟨x,c,a⟩:=dX.1 h;split at a
 .have⟨d,e⟩:=aH.1 a;obtain rfl:=aE d;simp_all
 .cases a
def zgt{p:Hp}{k:Nat}{s:ByteArray}{K:AV->Hp->Prop}(h:zqU p k s K):∃y T,p[k]?=C (.b [y] T)/\K (.l (.str s.data.toList)) (p.set k (.b [.str s.data.toList] T)):=by
 have⟨x,c,a⟩:=dX.1 h;split at a;.exact⟨_,_,c,(hX.1 a).2⟩
 .cases a
def Oi{β:List En}{p:Hp}{w:V}:Lk β p w β p w:=by
 refine⟨λk e f h=>?_,λk b c=>?_,ao _,ao _,λ_ _ _=>rfl⟩;.grind
 .have⟨x,e,d,_,_⟩:=ix c;grind
def zdm(w:V)(T:Nat->c6->Nat):Below w.heap.size (World.on w T 0) (World.on (Rn.WC w) T 0):=⟨rfl,rfl,rfl,by show w.heap.size<=(w.heap.push _).size;simp,λb h=>by show(w.heap.push _)[b]?=w.heap[b]?;simp[bx,sI h]⟩
def zn9(w:V):(Rn.WC w).heap[w.heap.size]?=C (.cells #[.string .empty] 9 (0,0)):=by show(w.heap.push (Rn.zqs (.string .empty)))[w.heap.size]?=_;simp[Rn.zqs]
def ztW(c:Cx)(lL:List En)(h:Hp)(w1:V)(q:Y)(k:Nat)(K:AV->Hp->Prop)(m:xm)(a:Act)(w2:V):Prop:=∃s p sP,ki c sP p (World.on w2 c.w0.tape 0)/\Lk lL h w1 sP p (World.on w2 c.w0.tape 0)/\a.defers=[⟨.nil,#[q]⟩]/\a.tmps.getD 4 undef=q/\((m=.returning/\∃s,p[k]?=C (.b [.str s] 9)/\K (.l (.str s)) p)\/(m=.panicking [{v:=S5 s,recovered:=H}]/\∃y T,p[k]?=C (.b [y] T)/\K (.l (.str s.data.toList)) (p.set k (.b [.str s.data.toList] T))))
def LQ(X:xm->Act->V->Prop):Exit->Act->V->Prop|.normal,a,w|.ret,a,w=>X .returning a w|.panic ch,a,w=>X (.panicking ch) a w|_,_,_=>False
def zoa{w:V}{r:Nat}{s:ByteArray}{z:Y}{T:ah}(h:w.heap[r]?=C (.cells #[z] T (0,0))):(Rn.WE w r s).heap[r]?=C (.cells #[.string s] T (0,0))/\w.heap.size<=(Rn.WE w r s).heap.size/\∀b,b<w.heap.size->b≠r->(Rn.WE w r s).heap[b]?=w.heap[b]?:=by
 have c:=(ab.1 h).1;refine⟨?_,?_,λb a n=>?_⟩;.simp[Rn.WE,World.setCell,bh,bx,h,sI c,cA (sI c)]
 .simp[Rn.WE,World.setCell]
 .simp[Rn.WE,World.setCell,bh,bx,sI a,cA (sI a),cA n]
section
variable{N P':al}{Fin:Y->V->Prop}{T:lJ}{G:bK}{J:(ByteArray->Hp->Prop)->bK}{Jp:ByteArray->Hp->Prop}
def zrj(g:Rn.PG N Rn.PR)(Q0:Rn.bK N P' (Rn.Ask N) Fin)(hP:N.funcs[IK]?=U)(hN:∃fn,N.funcs[Rn.UO]?=C fn)(Q1:Rn.ll N Rn.Lg=E)(hT:eV N T)(hM:N.follows .mixedOrders=E)(hG:aR N G)(hJ:∀Jp f c,(f,c)∈J Jp->mO N (Rn.Ask N) Fin Jp f c){W0:List Nat}{TR:Nat->Tr}{c:eF}(hc:trC Rn.Lg=c)(hj:∀Jp,jC (J Jp) Rn.Lg=E)(Z:∀v,slC (C (4,v)) Rn.Lg=E):mO N (Rn.Ask N) Fin Jp Rn.UO (csL T J G W0 TR c):=by refine⟨λxs hp K hS cx β w vs hI gl ha=>?_⟩;subst hc;match xs,hS with|[x,y],hS=>have⟨vs⟩:=vs;match vs,ha with
 |[u,v],⟨hu,hv,_⟩=>
 obtain⟨k,B,lL,hx,Q2,O⟩:=AJ (rsv:=U) (S:=λ_=>True) (w':=World.on (Rn.WC w) cx.w0.tape 0) hI hS (.b w.heap.size) (λ_ _=>trivial) (zdm w cx.w0.tape) (λb hb=>by cases hb;exact ao _) (λbR _=>⟨.inl hI.kp.size,#[.string .empty],zn9 w,⟨rfl,rfl⟩,aA⟩);rw[lY,vd]at hx;intro ops i rest o a Q args ho hw F Q3 hev hnx _;have⟨SJ,oz⟩:=Cu F (Ja F Y5);obtain⟨a0,a1,rfl,e0,e1⟩:∃a0 a1,args=#[a0,a1]/\a.eval a0=u/\a.eval a1=v:=by have⟨l⟩:=args;have:=congrArg G3 hev;match l,this with |[a0,a1],this=>grind|[],this=>simp at this|[_],this=>simp at this|_::_::_::_,this=>simp at this
 intro b kk L hr hcn;have Q4:∀v,(b.at a (.inRegion ops (i::rest)::kk)).finish v=b.at (a.put o.dst v) (.inRegion ops rest::kk):=by intro v;rw[dJ,ho];rfl
 refine .ask _ (.inr (Rn.zk1 g hN Q1 ho hw oz (Q3 a0 Y1) (Q3 a1 Y1) e0 e1)) λfr1 L1 w1⟨f1,f2,f3⟩hr1=>?_;subst f1 f2 f3;have Q5:=O.mI;have tail:∀(s:ByteArray)(p:Hp)(sP:List En)(w2:V),K (.l (.str s.data.toList)) p->kF cx β hp (World.on w cx.w0.tape 0) (λ_=>True) sP p (World.on w2 cx.w0.tape 0)->Rn.ou N ⟨(b.at a (.inRegion ops (i::rest)::kk)).finish (.string s),L,w2⟩->Rn.fG N (Rn.Ask N) Fin ((b.at a (.inRegion ops (i::rest)::kk)).finish (.string s)) L w2:=λs p sP w2 hK hO j=>by rw[Q4]at j⊢;exact hnx _ w2 ⟨_,p,sP,hK,⟨rfl,rfl⟩,hO⟩ b kk L j hcn
 have fin:∀(a':Act)(w2:V)(m:xm)(todo:List Item),ztW cx lL B (World.on (Rn.WC w) cx.w0.tape 0) (Rn.OF w) k K m a' w2->Rn.ou N ⟨⟨Rn.UO,a'.tmps,todo,a'.defers,m,.normal,U⟩,b.at a (.inRegion ops (i::rest)::kk)::L,w2⟩->Rn.fG N (Rn.Ask N) Fin ⟨Rn.UO,a'.tmps,todo,a'.defers,m,.normal,U⟩ (b.at a (.inRegion ops (i::rest)::kk)::L) w2:=by
  intro a' w2 m todo⟨s,p,sP,I,t,hd,M,hm⟩j;have P:sP[k]?=C (.b w.heap.size):=by have:=t.ext k _ (by rw[<-Q5.len];grind) Q2;exact this
  rcases hm with⟨rfl,s,g1,hK⟩|⟨rfl,y,T1,g1,hK⟩;.have⟨_,⟨us⟩,g2,g3⟩:=I.Ds k _ _ g1 P;match us,g3 with|[z],⟨⟨_,g4⟩,_⟩=>have hz:=g4;subst hz;have D:w2.heap[w.heap.size]?=C (.cells #[.string _] 9 (0,0)):=g2;refine .ask _ (.inr (Rn.znU (r:=w.heap.size) (s:=⟨s.toArray⟩) g ⟨rfl,rfl,hd,M⟩ (by simp[World.cell?,D]))) λfr1 L1 w1⟨f1,f2,f3⟩A=>?_;subst f1 f2 f3;exact tail ⟨s.toArray⟩ p sP _ hK (Ap hI I ((Oi.out O).out (Ap Q5 I t))) A
  .have⟨_,⟨us⟩,g2,g3⟩:=I.Ds k _ _ g1 P;match us,g3 with|[z],_=>have D:=g2;refine .ask _ (.inr (Rn.znT (s:=s) g ⟨rfl,rfl,hd,M⟩ D)) λfr1 L1 w1⟨f1,f2,f3⟩A=>?_;subst f1 f2 f3;have⟨q1,q2,q3⟩:=zoa (s:=s) D;have W:=Ol (S:=λ_=>True) (cs':=[.str s.data.toList]) I g1 P (us':=#[.string s]) q1 q2 q3 ⟨rfl,rfl,rfl⟩ ⟨⟨rfl,rfl⟩,aA⟩ trivial;exact tail s _ sP _ hK (Ap hI W.mI (((Oi.out O).out (Ap Q5 I t)).out W)) A
 have R:=Qh (β0:=lL) (hp0:=B) (w0:=World.on (Rn.WC w) cx.w0.tape 0) (d0:=[⟨.nil,#[Rn.OF w]⟩]) (sl:=C (4,Rn.OF w)) Q0 hP hT ⟨hG,.inr gl⟩ (λf c h=>hJ _ f c h) gl hM Rn.Lg _ (LQ (ztW cx lL B (World.on (Rn.WC w) cx.w0.tape 0) (Rn.OF w) k K)) (Pb x y k) B ⟨Rn.wV u v (Rn.OF w),[⟨.nil,#[Rn.OF w]⟩]⟩ (Rn.WC w) (hj _) (Z _) ?_ ?_ ?_ hx;.refine R ⟨Rn.UO,#[],[],[],.run,.normal,U⟩ [] _ hr1 ⟨λa' w2 q j=>?_,λid a' w2 q=>q.elim,λa' w2 todo q j=>fin a' w2 _ _ q j,λl a' w2 q=>q,λch a' w2 todo q j=>fin a' w2 _ _ q j,λa' w2 q=>q⟩;exact Rn.fW Q0 j (λT d=>rfl) λA=>fin a' w2 _ _ q A
 .intro e fr p a' w2 X⟨⟨sP,I,_,hd,t⟩,M⟩;cases e with |x id=>cases X|n=>have⟨s,g1,g2⟩:=Vf X;exact⟨⟨s.toArray⟩,p,sP,I,t,hd,M,.inl ⟨rfl,s,g1,g2⟩⟩|r=>have⟨s,g1,g2⟩:=Vf X;exact⟨⟨s.toArray⟩,p,sP,I,t,hd,M,.inl ⟨rfl,s,g1,g2⟩⟩
 .intro s p a' w2 X⟨⟨sP,I,hd,t⟩,M⟩;have⟨y,T1,g1,g2⟩:=zgt X;exact⟨s,p,sP,I,t,hd,M,.inr ⟨rfl,y,T1,g1,g2⟩⟩
 .refine⟨⟨lL,Q5,⟨?_,λi z hi=>?_⟩,rfl,Oi⟩,?_⟩;.simp[Pb,Rn.wV]
  .have hv1:=hv.ext O.ext;match i,hi with
   |0,hi=>cases hi;simpa[Rn.wV]using hu.ext O.ext|1,hi=>cases hi;simpa[Rn.wV]using hv1|2,hi=>cases hi;trivial|3,hi=>cases hi;trivial|4,hi=>cases hi;exact⟨by simp[Rn.wV,Rn.OF,Value.oneCell'],_,Q2,by simp[Rn.wV,Rn.OF]⟩|n+5,hi=>
    simp only[Pb,List.getElem?_cons_succ,List.getElem?_replicate]at hi;split at hi;.cases hi;trivial
    .cases hi
  .simp[SlP,Rn.wV]
end
end Ab
end
section
open Go.RowKit
namespace Ab
open Rn(World.on)
def zyS(s:List UInt8)(c:List fX):Prop:=c=[{v:=S5 ⟨s.toArray⟩,recovered:=H}]
def zhX(N:al)(O:ag->List ag->V->(ag->List ag->V->Prop)->Prop)(Fin:Y->V->Prop)(f:bu)(b:List (Sh⊕List Sh))(S:DA b->(DV->Prop)->(List UInt8->Prop)->Prop):Prop:=∀(x:DA b)(K:DV->Prop)(a:List UInt8->Prop),S x K a->∀(w:V)(v:Array Y),rdA w b x v.toList->Gw w->YI N O Fin f v w (RtK w K) λc w1=>∃s,a s/\zyS s c/\Below w.heap.size w (World.on w1 w.tape w.drawn)
def zt0(a:List (Sh⊕List Sh))(S:DA a->(DV->Prop)->(List UInt8->Prop)->Prop)(Jp:ByteArray->Hp->Prop):CS:={S:=λb hp K=>Ae hp a b λx=>S x (λd=>zhJ hp d K) λs=>Jp ⟨s.toArray⟩ hp,sb:=λ_=>C []}
section
variable{N P':al}{O:ag->List ag->V->(ag->List ag->V->Prop)->Prop}{Fin:Y->V->Prop}{T:lJ}{G:bK}{J:(ByteArray->Hp->Prop)->bK}{Jp:ByteArray->Hp->Prop}
def zmV(t:Rn.bK N P' O Fin){f:bu}{u:List (Sh⊕List Sh)}{S:DA u->(DV->Prop)->(List UInt8->Prop)->Prop}(h:zhX N O Fin f u S):mO N O Fin Jp f (zt0 u S Jp):=by
 refine⟨λi hp K j cx β w z I gl A=>?_⟩;have⟨x,k,l⟩:=Lf I A j;refine YI.off t ((h x _ _ k _ z l (gl.1.s4 gl.2 I.kp)).mono (λv w1⟨d,c,a,B,e,m⟩=>?_) λD w1⟨s,c,e,a⟩=>?_)
 .obtain⟨r,y,bR,n,o,p⟩:=zdU I a e m c;exact⟨r,y,bR,n,o,p.on⟩
 .have q:kF cx β hp (World.on w cx.w0.tape 0) (λ_=>True) β hp (World.on w1 cx.w0.tape 0):=⟨I.zfB a,uZ.refl _,λ_ _ h=>.inl h,a.size,ao _,λ_ _ _=>rfl,λb g _=>a.block b g⟩;exact⟨_,hp,β,_,c,e,q⟩
def zjJ(z:Rn.bK N P' O Fin)(P:N.funcs[IK]?=U)(Q:eV N T)(R:N.follows .mixedOrders=E)(W:aR N G)(m:∀Jp f c,(f,c)∈J Jp->mO N O Fin Jp f c){W0:List Nat}{TR:Nat->Tr}{f:bu}{B fn':dH}{A:List (Sh⊕List Sh)}{S:DA A->(DV->Prop)->(List UInt8->Prop)->Prop}(g:N.funcs[f]?=C B)(X:eI A.length B.ntmps=E)(o:(N.funcs[f]?).map (λB=>(B.name== "runtime.NumGoroutine",B.body.isNone))=C (H,H))(D:∀Jp,B.body.all (jC (J Jp))=E)(Z:trF B=fn')(h:∀(x:DA A)(K:DV->Prop)(a:List UInt8->Prop),S x K a->bdA A x->ta A x λi=>s8 T (J (λs _=>a s.data.toList)++G) 0 W0 TR fn' i [] λr hp=>∃d,MC hp r d/\K d):zhX N O Fin f A S:=by intro x K a n w vs hr p;have⟨e,ha⟩:=vc (β:=[]) hr;have F:=mm.1 (h x K a n e);rw[qS]at F;subst Z;cases L:B.body with|none=>rw[trF,L]at F;cases F|some c=>
 have D:=D (λs _=>a s.data.toList);rw[L]at D;refine(Pt z P g L o (GM z P Q R W (m _) L D (Xl w) ⟨p,Gm.nil⟩ ha (by rw[oR];simpa using X) F)).mono (λv w'⟨r,M,bR,⟨d,j,k⟩,q,l⟩=>?_) λch w'⟨s,M,bR,y,j,k,l⟩=>?_
 .have I:=l.mI.on (T:=w.tape) (d:=w.drawn) (d':=w.drawn);have⟨bs,t,u⟩:=UX I (q.on) j;exact⟨d,k,⟨I.kp.os,I.kp.tape,I.kp.output,I.kp.size,λb e=>I.kp.block b e Y1⟩,bs,t,u⟩
 .have I:=l.mI.on (T:=w.tape) (d:=w.drawn) (d':=w.drawn);exact⟨s.data.toList,j,k,⟨I.kp.os,I.kp.tape,I.kp.output,I.kp.size,λb e=>I.kp.block b e Y1⟩⟩
end
def MtK(w:V)(n:Nat)(a:Array Y)(T:ah)(K:List (Option DL)->List UInt8->Prop)(v:Y)(w1:V):Prop:=∃d s u,K d s/\v=fR s/\uO (.∈[n]) w (World.on w1 w.tape w.drawn)/\(World.on w1 w.tape w.drawn).heap[n]?=C (.cells u T (0,0))/\∃b,frO (World.on w1 w.tape w.drawn) w.heap.size d a.toList u.toList b/\b.Nodup
def zqj(N:al)(O:ag->List ag->V->(ag->List ag->V->Prop)->Prop)(Fin:Y->V->Prop)(f:bu)(T:ah)(s:List Sh)(S:HL s->List UInt8->(List (Option DL)->List UInt8->Prop)->Prop):Prop:=∀(x:HL s)(y:List UInt8)(K:List (Option DL)->List UInt8->Prop),S x y K->∀(w:V)(n:Nat)(a:Array Y),w.heap[n]?=C (.cells a T (0,0))->SC w s x a.toList->(∀u∈a.toList,∀b,u.ownBlock=C b->b≠n)->Gw w->YI N O Fin f #[.pointer (C ⟨n,0,U⟩),fR y] w (MtK w n a T K) λ_ _=>False
def okM:LV->Bool|.v (.int _ _)|.v (.bool _)|.s _ _=>E|_=>H
def csM(i:ah)(g:List Sh)(S:HL g→List UInt8→(List (Option DL)→List UInt8→Prop)→Prop):CS:={S:=fun m hp K=>(match m with|[.l (.p k off),.l (.str y)]=>af (bD off 0=E)<|py hp k fun h=>(match h with|.b cs T=>af (bD T i=E)<|af (cs.all okM=E)<|zbB hp g cs fun x=>S x y fun d s=>uV hp k (.b (d.map fun _=>.j) T) fun e=>zhI e d cs fun f a=>uV a k (.b f T) fun c=>K (.l (.str s)) c|_=>False)|_=>False),sb:=fun _=>U}
def Gm.ses{w:V}(h:Gw w){r:Nat}{u:Array Y}{T:ah}{f:Nat×Nat}(b:w.heap[r]?=C (.cells u T f))(n:u.size≠20):Gm [r]:=by
 have⟨a,c,e⟩:=h;have:r≠1:=by rintro rfl;rw[e]at b;cases b;exact n rfl
 simp[Gm];omega
section
variable{cx:Cx}{β:List En}{hp:Hp}{w:V}
def zrP(I:ki cx β hp w){t n:Nat}{z:List LV}{T:ah}(f:hp[t]?=C (.b z T))(j:β[t]?=C (.b n)){s:Sh}{x:LV}{v:Y}{K:s.T->Prop}(u:LC cx β x v)(y:okM x=E)(h:zhE hp s x K):∀b,v.ownBlock=C b->b≠n:=by
 intro b a e;subst e;unfold okM at y;split at y
 .obtain rfl:=u.2;cases a
 .obtain rfl:=u.2;cases a
 .rename_i k d;have r:∀(g:EK)(K:EL->Prop),U4 hp g (.l (.s k d)) K->False:=λg K h=>by
   obtain⟨q,l,c,-⟩:=dM h;obtain⟨A,i,p,-⟩:=iT I c;rw[F3 u i]at a;have m:cN hp β k=C b:=by rw[dK c i];exact a
   have o:cN hp β t=C b:=by rw[dK f j];rfl
   obtain rfl:=I.dis _ _ _ m o;rw[f]at c;cases c
  cases s with|int=>cases h|bool=>cases h|str=>cases h|bn=>exact r .bn _ h|bC=>exact r .bC _ h|bytes=>exact r .bytes _ h|strs=>exact r .strs _ h
 .cases y
def zoy(I:ki cx β hp w){A n:Nat}{c:List LV}{T:ah}(d:hp[A]?=C (.b c T))(e:β[A]?=C (.b n)):∀{p:List Sh}{q:List LV}{o:List Y}{K:HL p->Prop},gi cx β q o->q.all okM=E->zbB hp p q K->∃y,K y/\SC w p y o/\(∀u∈o,∀b,u.ownBlock=C b->b≠n)/\o.length=p.length
 |[],[],[],K,_,_,h=>⟨(),h,aA,λ_ h=>by(cases h),rfl⟩|s::r,x::q,v::o,K,f,t,h=>by rw[fh,aj]at t;have⟨a,g,i⟩:=zh9 I f.1 h;have⟨b,j,k,l,m⟩:=zoy I d e f.2 t.2 g;exact⟨(a,b),j,⟨i,k⟩,λu z=>by
  rcases bq.1 z with rfl|z;.exact zrP I d e f.1 t.1 h
  .exact l u z,by simp[m]⟩|[],[],_::_,_,f,_,_=>f.elim|_::_,_::_,[],_,f,_,_=>f.elim|[],_::_,_,_,_,_,h=>h.elim|_::_,[],_,_,_,_,h=>h.elim
end
section
variable{N P':al}{Fin:Y->V->Prop}{O:ag->List ag->V->(ag->List ag->V->Prop)->Prop}{Jp:ByteArray->Hp->Prop}
def zm9{w:V}{B:Nat}{d:DL}{v:Y}{b:List Nat}(h:frL w B d v b):v.oneCell'=E:=by cases d with|v x=>obtain⟨rfl,h,_⟩:=h;exact h|str l=>obtain⟨rfl,_⟩:=h;rfl|s a l=>have⟨h,_⟩:=h;obtain⟨_,_,rfl⟩:=sS h;rfl
def zig{cx:Cx}{β:List En}{w:V}{B:Nat}:∀{c:List (Option DL)}{e f:List Y}{g:List Nat},frO w B c e f g->(∀u∈e,u.oneCell'=E)->gi cx β (c.map λ_=>.j) f|[],_,[],_,_,_=>trivial|none::c,u::e,v::f,g,h,o=>⟨⟨h.1▸o u Y1,aA⟩,zig h.2 λu h=>o u (by simp[h])⟩|some d::c,u::e,v::f,g,⟨_,_,_,a,b⟩,o=>⟨⟨zm9 a,aA⟩,zig b λu h=>o u (by simp[h])⟩|[],_,_::_,_,h,_=>h.elim|none::_,[],_,_,h,_=>h.elim|some _::_,[],_,_,h,_=>h.elim|none::_,_::_,[],_,h,_=>h.elim|some _::_,_::_,[],_,h,_=>h.elim
def zeD{cx:Cx}{β:List En}:∀{b:List LV}{a:List Y},gi cx β b a->∀u∈a,u.oneCell'=E
 |[],[],_,_,h=>by cases h|_::_,v::d,c,u,h=>by
  rcases bq.1 h with rfl|h;.exact c.1.1
  .exact zeD c.2 u h|[],_::_,c,_,_=>c.elim|_::_,[],c,_,_=>c.elim
def zrk(d:Rn.bK N P' O Fin){f:bu}{T0:ah}{ss:List Sh}{S:HL ss->List UInt8->(List (Option DL)->List UInt8->Prop)->Prop}(h:zqj N O Fin f T0 ss S):mO N O Fin Jp f (csM T0 ss S):=by refine⟨λxs hp K c cx β w vs hI gl ha=>?_⟩;match xs,c with|[.l (.p k off),.l (.str y)],c=>have⟨l⟩:=vs;match l,ha with|[v0,v1],⟨⟨_,n,hn,B⟩,⟨_,Q0⟩,_⟩=>have⟨ho,q⟩:=aH.1 c;obtain rfl:=aE ho;subst B Q0;have⟨b,z,c⟩:=dX.1 q;match b,c with
 |.b cs T,c=>
 have⟨g1,r⟩:=aH.1 c;have⟨g2,D⟩:=aH.1 r;obtain rfl:=aE g1;have⟨M,us,a,hc⟩:=hI.Ds k _ _ z hn;obtain⟨x,Q,R,Q1,-⟩:=zoy hI z hn hc g2 D;refine YI.off d ((h x y _ Q (World.on w cx.w0.tape 0) n us a R Q1 (gl.1.s4 gl.2 hI.kp)).mono (λv w1⟨m,s,F,Q2,e,ht,o,bs,G,W⟩=>?_) λ_ _ h=>h.elim);subst e;have⟨g,X⟩:=hX.1 Q2;have A:kF cx β hp (World.on w cx.w0.tape 0) (λ_=>True) β (hp.set k (.b (m.map λ_=>.j) T)) (World.on w1 cx.w0.tape 0):=Ol hI z hn o ht.size (λb a Q3=>ht.block b a Y7) ⟨ht.os,rfl,ht.output⟩ (zig G (zeD hc)) trivial;have I:∀i b,cN (hp.set k (.b (m.map λ_=>.j) T)) β i=C b->b<w.heap.size:=by
  intro i b a;by_cases t:i=k;.subst t;rw[dK (x:=.b (m.map λ_=>.j) T) (by simp[g]) hn]at a;cases a;exact(hI.lt (show cN hp β i=C n by rw[dK z hn];rfl)).1
  .have:cN hp β i=C b:=by unfold cN at a⊢;rw[bW (cA t)]at a;exact a
   exact(hI.lt this).1
 have B:Oy cx w.heap.size (World.on w1 cx.w0.tape 0) β (hp.set k (.b (m.map λ_=>.j) T)) [] β (hp.set k (.b (m.map λ_=>.j) T)):=⟨A.mI,ao _,λ_ _=>⟨rfl,rfl⟩,λ_ _ h=>.inl h⟩;obtain⟨xs,u,lL,k1,Q4,k3,Z⟩:=zdT I hI.kp.size B hc G W (λ_ _ h=>by cases h) X;have⟨P,k5⟩:=hX.1 k1;have hM:kF cx β hp (World.on w cx.w0.tape 0) (λ_=>True) lL u (World.on w1 cx.w0.tape 0):=⟨k3.mI,Z,λi b a=>(k3.own i b a).elim (A.om i b) λh=>.inr h.1,A.size,by have:=k3.len;simpa using this,λ_ _ hn=>(hn trivial).elim,A.sb⟩;have J:u[k]?=C (.b (m.map λ_=>.j) T):=by rw[(k3.pre k Y7).1];simp[g]
 have L:lL[k]?=C (.b n):=by rw[(k3.pre k Y7).2];exact hn
 have hF:=Ol (S:=λ_=>True) k3.mI J L o (ao _) (λ_ _ _=>rfl) ⟨rfl,rfl,rfl⟩ Q4 trivial;exact⟨_,_,lL,k5,⟨rfl,rfl⟩,Ap hI hF.mI ((Oi.out hM).out hF)⟩
def zx5(hp:Hp)(r:AV)(a:List LV)(d:List (Option DL))(s:List UInt8)(e:ah):Prop:=match hp with|.b c T::_=>af (bD T e=E)<|(match r with|.l (.str f)=>SY hp a c d [] λ_=>af (f=s) True|_=>False)|_=>False
def zoz{w:V}{n:Nat}{β bR:List En}:∀{g:List LV}{i:List Y},g.all Wp=E->gi ⟨w,[]⟩ β g i->(∀u∈i,∀b,u.ownBlock=C b->b≠n)->gi ⟨w,[n]⟩ bR g i
 |[],[],_,_,_=>trivial|c::g,u::i,hd,f,o=>by
  rw[fh,aj]at hd;refine⟨?_,zoz hd.2 f.2 λu h=>o u (by simp[h])⟩;have⟨d,a⟩:=f.1;cases c<;>first|(cases hd.1;done)|skip
  .exact⟨d,a⟩
  .exact⟨d,a.1,a.2.1,a.2.2.1,λ_ b e m=>o u Y1 b e Y7⟩|[],_::_,_,f,_=>f.elim|_::_,[],_,f,_=>f.elim
def zmQ{f:bu}{T0:ah}{ss:List Sh}{S:HL ss->List UInt8->(List (Option DL)->List UInt8->Prop)->Prop}{D:CS}(L:mO N O Fin noP f D)(c:bD ss.length 20=H)(h:∀(x:HL ss)(y:List UInt8)(K:List (Option DL)->List UInt8->Prop),S x y K->∀u:Nat->Y,OU u 0 ss x λcs=>bds ss x->D.S [.l (.p 0 0),.l (.str y)] [.b cs T0] λr hp=>∃ds s,zx5 hp r cs ds s T0/\K ds s):zqj N O Fin f T0 ss S:=by
 intro x y K J w n us t hr o F;have⟨cs,k1,G,k3,M⟩:=UQ (β:=[]) (u:=λi=>us.toList.getD i undef) (λj v hj=>Y7) hr (h x y K J _);have hlen:∀{ss:List Sh}{x:HL ss}{vs:List Y},SC w ss x vs->vs.length=ss.length:=by intro ss;induction ss with
  |nil=>intro x vs h;cases vs with |nil=>rfl|cons=>cases h
  |cons s ss P=>intro x vs h;cases vs with |nil=>cases h|cons v vs=>simp[P h.2]
 have q:us.size≠20:=λe=>by have:=hlen hr;rw[cv,e]at this;rw[<-this]at c;cases c
 have hc:gi ⟨w,[n]⟩ [.b n] cs us.toList:=zoz G k3 o;have hI:ki ⟨w,[n]⟩ [.b n] [.b cs T0] (World.on w w.tape 0):=by
  refine⟨⟨rfl,rfl,rfl,ao _,λ_ _ _=>rfl,λ_ h=>h⟩,rfl,λk h e a g=>?_,λi k b a g=>?_⟩
  .cases k with |zero=>cases a;cases g;exact⟨.inr Y1,us,t,hc⟩|succ=>simp at a
  .have⟨_,_,m,_⟩:=ix a;have⟨_,_,Q,_⟩:=ix g;have:=(bQ.1 m).1;have:=(bQ.1 Q).1;simp at*;omega
 have ha:IL ⟨w,[n]⟩ [.b n] [.l (.p 0 0),.l (.str y)] (#[Value.pointer (C ⟨n,0,U⟩),fR y]:Array Y).toList:=⟨⟨rfl,n,rfl,rfl⟩,⟨rfl,rfl⟩,aA⟩;refine(L.snd _ _ _ (k1 M) ⟨w,[n]⟩ [.b n] w #[.pointer (C ⟨n,0,U⟩),fR y] hI ⟨F,Gm.ses F t q⟩ ha).mono (λv w1⟨r,dF,bR,⟨ds,s,a,g⟩,m,X⟩=>?_) λch w1 h=>zb4 _ _ h;have I:=X.mI.on (T:=w.tape) (d:=w.drawn) (d':=w.drawn);match dF,a,I with|.b cs' T::rest,a,I=>have⟨R,z⟩:=aH.1 a;obtain rfl:=aE R;match r,z,m with|.l (.str s'),z,m=>have⟨_,A,B,Z⟩:=I.Ds 0 _ _ rfl (X.ext 0 _ rfl);have⟨_,Q0,bs,Q1,W,_⟩:=Zp I G hc Z z;obtain⟨rfl,_⟩:=aH.1 Q0;exact⟨ds,s',A,g,m.2,I.kp,B,bs,Q1,W.1⟩
end
end Ab
end
namespace Rn
open Go Go.Conc Go.RowKit Go.Proofs.YtelohkknmgaacaaGreatDoor.Ab
section
variable{N P:al}{f0:ag}{L0:List ag}{w0 w:V}{fr:ag}{L:List ag}{Fin:Y->V->Prop}
def zlk(h:fG N (λ_ _ _ _=>False) Fin f0 L0 w0)(p:Pth N f0 L0 w0 fr L w):fG N (λ_ _ _ _=>False) Fin fr L w:=by induction p with|nil=>exact h|zfA _ s i=>cases i with|mk ok n=>grind|ask S h _=>cases h
def V1{v:Y}{w1:V}(h:fG N (λ_ _ _ _=>False) Fin f0 [] w0)(p:Wh N f0 w0 v w1):Fin v w1:=by have⟨fr,w,T,d,i,b,s⟩:=p;cases zlk h b with
 |mk ok n=>
  rcases ok T d with⟨j,w2,e,a,c⟩|⟨g,L,w2,e,f,a⟩;.simp_all
  .simp_all|ask S h _=>cases h
def znz(g:PG N P)(gp:GP N){R:BR}{f:ag}{L0':List ag}{A:V}(h:u2 N R f0 f)(e:IJ N R L0 L0')(i:HR R w0 A)(z:GlF w0)(p:Pth N f0 L0 w0 fr L w):∃a y B W,u2 N a fr y/\IJ N a L B/\HR a w W/\R.le a/\GlF w:=by induction p with|nil=>exact⟨R,f,L0',A,h,e,i,BR.le_refl R,z⟩|@zfA fr J L S w w1 T d es D _ K k=>have⟨a,y,B,W,F,m,k3,o,t⟩:=k;have s:=sim g gp F m (w:=World.on w T d) (w':=World.on W T d) ⟨k3.inj,k3.obj,k3.kinds⟩ (λn j q _=>rfl);rw[K]at s;have⟨b,c,u,_,_,v,_,M,O,Q,G,_⟩:=s;exact⟨v,b,c,u,M,O,Q,BR.le_trans o G.le,λx I=>let⟨l,r,_⟩:=F.gl x I;qw G r (t x I)⟩
def zkE(g:PG N P)(gp:GP N){R:BR}{f:ag}{A:V}(h:u2 N R f0 f)(b:HR R w0 A)(z:GlF w0){v:Y}{w1:V}(p:Wh N f0 w0 v w1):∃a W,HR a w1 W/\R.le a/\GlF w1:=by have⟨fr,w,T,d,G,c,B⟩:=p;have⟨a,D,I,W,t,k,k3,e,i⟩:=znz (L0:=[]) (L0':=[]) g gp h trivial b z c;have s:=sim g gp t k (w:=World.on w T d) (w':=World.on W T d) ⟨k3.inj,k3.obj,k3.kinds⟩ (λn j q _=>rfl);rw[B]at s;have⟨K,m,_,o,_,M,F,u,_⟩:=s;exact⟨o,m,F,BR.le_trans e u.le,λx y=>let⟨l,r,_⟩:=t.gl x y;qw u r (i x y)⟩
end
def BS{p:Y->Bool}:∀{l:List Y}{m:Nat},(l.take m).all p=E->(l.takeWhile p).take m=l.take m|[],m,_=>Y1|a::l,0,_=>Y1|a::l,m+1,h=>by simp only[List.take_succ_cons,fh,aj]at h;simp[h.1,BS h.2]
variable{v:Y}
def znl(h:tc v=E):u5 v=E:=by cases v<;>first|rfl|(cases h)
def PH{c:Array Y}{m:Nat}(h:(c.toList.take m).all tc=E):(Ei c).toList.take m=c.toList.take m:=by unfold Ei;simp;apply BS;rw[dQ]at h⊢;exactλv a=>znl (h v a)
variable{w:V}{s n:Nat}
def zrw{xs:List Y}(h:Sl w s v n xs):Sl (UK w) s v n xs:=by
 refine⟨h.1,h.2.imp (λ⟨k,a,q,d,i,j⟩=>⟨k,a,q,d,i,λad m=>?_⟩) λ⟨g,off,q,r,T,d,i,j,⟨p,b⟩,o⟩=>⟨g,off,q,Ei r,(T.1,(0,(Ei r).size)),d,i,tp j,⟨?_,?_⟩,?_⟩⟩;.have⟨c,e,f,h⟩:=j ad m;exact⟨_,_,_,tp h⟩
 .have:=congrArg List.length (PH b);simp[da,cv]at this;omega
 .rw[PH b];exact b
 .have e:∀l:List Y,(l.drop off).take (n*s)=(l.take (off+n*s)).drop off:=λl=>by rw[List.drop_take,Nat.add_sub_cancel_left]
  rw[e,PH b,<-e];exact o
def zna{s:Sh}{x:s.T}(h:rdL w s x v):rdL (UK w) s x v:=by cases s<;>first|exact h|exact⟨zrw h.1,h.2⟩
def Xj{w:V}:∀{s:List Sh}{x:HL s}{v:List Y},SC w s x v->SC (UK w) s x v|[],_,[],_=>trivial|_::_,_,_::_,h=>⟨zna h.1,Xj h.2⟩|[],_,_::_,h=>h.elim|_::_,_,[],h=>h.elim
def zd6{x:List Y}(h:Sl w s v n x):VR (UP w) v v/\nF v=E:=by
 rcases h.2 with⟨rfl,a,d,rfl,_,b⟩|⟨g,o,d,e,T,rfl,c,b,_⟩
 .refine⟨.slice _ _ ?_,rfl⟩;cases a with|none=>trivial|some ad=>exact⟨⟨0,⟨rfl,rfl,b ad rfl⟩,a7 _⟩,rfl,rfl⟩
 .exact⟨.slice _ _ ⟨⟨0,⟨rfl,rfl,_,_,_,b⟩,a7 _⟩,rfl,rfl⟩,rfl⟩
def zrU{s:Sh}{x:s.T}(h:rdL w s x v):VR (UP w) v v/\nF v=E:=by cases s with|int=>subst h;exact⟨.int _ _,rfl⟩|bool=>subst h;exact⟨.bool _,rfl⟩|bn=>exact zd6 h.1|bC=>exact zd6 h.1|bytes=>exact zd6 h.1|str=>subst h;exact⟨.string _,rfl⟩|strs=>exact zd6 h.1
def zb7{w:V}:∀{s:List Sh}{x:HL s}{c:List Y},SC w s x c->c.length=s.length/\∀v∈c,VR (UP w) v v/\nF v=E
 |[],_,[],_=>⟨rfl,λ_ h=>(by cases h)⟩|_::_,_,v::c,h=>by
  have⟨a,b⟩:=zb7 h.2;refine⟨by simp[a],λu d=>?_⟩;rcases bq.1 d with rfl|d;.exact zrU h.1
  .exact b u d|[],_,_::_,h=>h.elim|_::_,_,[],h=>h.elim
def Vg{R:BR}{l:List Y}(h:∀v∈l,VR R v v/\nF v=E):AV R l.toArray l.toArray/\l.toArray.all nF=E:=by
 refine⟨⟨rfl,λi v c a b=>?_⟩,?_⟩;.grind
 .simp_all
def Old(w a:V):Prop:=∀b,b<w.heap.size->a.heap[b]?=w.heap[b]?
def zr4{p:V}(e:Old w p){xs:List Y}(h:Sl w s v n xs):Sl p s v n xs:=by refine⟨h.1,h.2.imp (λ⟨i,a,l,c,d,b⟩=>⟨i,a,l,c,d,λad f=>(b ad f).same (e _ (b ad f).lt)⟩) λ⟨g,o,l,m,T,c,d,b,j,k⟩=>⟨g,o,l,m,T,c,d,?_,j,k⟩⟩;rw[e g (ab.1 b).1];exact b
def znF{a:V}(b:Old w a){s:Sh}{x:s.T}(h:rdL w s x v):rdL a s x v:=by cases s<;>first|exact h|exact⟨zr4 b h.1,h.2⟩
def Xy{w w':V}(b:Old w w'):∀{s:List Sh}{x:HL s}{v:List Y},SC w s x v->SC w' s x v|[],_,[],_=>trivial|_::_,_,_::_,h=>⟨znF b h.1,Xy b h.2⟩|[],_,_::_,h=>h.elim|_::_,_,[],h=>h.elim
variable{b:Nat}
def zm8{r:V}(f:Old w r){a:Nat}(o:a<=b){d:DL}{bs:List Nat}(h:frL w b d v bs):frL r a d v bs:=by cases d with|v x=>exact h|str l=>exact h|s n l=>have⟨c,i⟩:=h;refine⟨⟨c.1,c.2.imp id λ⟨g,p,q,j,k,e,m⟩=>⟨g,p,q,j,bw o k,?_,m⟩⟩,i⟩;rw[f g (ab.1 e).1];exact e
def GJ{w w':V}(b:Old w w'){a c:Nat}(l:c<=a):∀{g:List DL}{v:List Y}{i:List Nat},CU w a g v i->CU w' c g v i|[],[],_,h=>h|_::_,_::_,_,⟨x,y,e,d,f⟩=>⟨x,y,e,zm8 b l d,GJ b l f⟩|[],_::_,_,h=>h.elim|_::_,[],_,h=>h.elim
def ZV{w:V}{b:Nat}:∀{i d:List DL}{j v:List Y}{g a:List Nat},CU w b i j g->CU w b d v a->CU w b (i++d) (j++v) (g++a)|[],_,[],_,g,_,h,k=>by subst h;exact k|_::_,_,_::_,_,_,_,⟨x,y,e,c,f⟩,k=>⟨x,_,Y7,c,ZV f k⟩|[],_,_::_,_,_,_,h,_=>h.elim|_::_,_,[],_,_,_,h,_=>h.elim
def zru{d:DL}{i:List Nat}(h:frL w b d v i):(∀k∈i,b<=k/\k<w.heap.size)/\nF v=E:=by cases d with
 |v x=>obtain⟨rfl,f,rfl⟩:=h;refine⟨λ_ e=>(by cases e),?_⟩;cases v<;>first|rfl|(cases f)
 |str l=>obtain⟨rfl,rfl⟩:=h;exact⟨λ_ e=>(by cases e),rfl⟩|s g l=>obtain⟨f,_,rfl⟩:=h;refine⟨λk e=>f.lt k Y7,?_⟩;obtain⟨a,c,rfl⟩:=sS f;rfl
def Og{w:V}{b:Nat}:∀{n:List DL}{j:List Y}{l:List Nat},CU w b n j l->j.length=n.length/\(∀k∈l,b<=k/\k<w.heap.size)/\∀v∈j,nF v=E
 |[],[],l,h=>by subst h;simp_all|_::_,v::j,_,⟨x,y,e,a,c⟩=>by
  subst e;have⟨o,d⟩:=zru a;have⟨k3,f,g⟩:=Og c;refine⟨by simp[k3],λk i=>(za.1 i).elim (o k) (f k),λu m=>?_⟩;rcases bq.1 m with rfl|m;.exact d
  .exact g u m|[],_::_,_,h=>h.elim|_::_,[],_,h=>h.elim
def OB:(s1 s2:List Sh)->HL (s1++s2)->HL s1|[],_,_=>()|_::r,s2,x=>(x.1,OB r s2 x.2)
def hl2:(s1 s2:List Sh)->HL (s1++s2)->HL s2|[],_,x=>x|_::r,s2,x=>hl2 r s2 x.2
def VM{w:V}:∀{s d:List Sh}{x:HL (s++d)}{f:List Y},SC w (s++d) x f->∃l a,f=l++a/\SC w s (OB s d x) l/\SC w d (hl2 s d x) a|[],_,_,f,h=>⟨[],f,rfl,aA,h⟩|_::_,_,_,v::f,h=>by have⟨l,a,e,b,c⟩:=VM h.2;exact⟨v::l,a,by rw[e];rfl,⟨h.1,b⟩,c⟩|_::_,_,_,[],h=>h.elim
abbrev OE:List Sh:=[.int,.int,.int,.int,.int,.int,.int,.bC,.bool,.int,.int,.bn,.int,.int,.bool,.bool,.bool,.bool,.bn,.bn,.int,.int]
def Zg:HL OE->fe:=λ⟨f,b,k,p,l,r,rt,c,n,d,s,o,t,e,u,g,m,a,q,h,i,j,_⟩=>⟨⟨⟨f,b,k⟩,p,l,⟨r,rt,c,n,d⟩,⟨s,o,t,e⟩,⟨u,g,m,a⟩⟩,q,h,i,j⟩
def zfX(x:fe):x.d.length=22:=rfl
def zhy(w:V)(x:fe)(v:Y)(w1:V):Prop:=(w1.os=w.os/\w1.output=w.output/\w.heap.size<=w1.heap.size/\Old w w1)/\∃c n m b,v=.tuple #[.agg c,n,m]/\CU w1 w.heap.size (te x).x.d c.toList b/\b.Nodup
def zj1{x:List DL}{n m:Y}{u:Array Y}{bs:List Nat}(h:zfu w b [.inr x,.inl (.v n),.inl (.v m)] u.toList bs):∃a,u=#[.agg a,n,m]/\CU w b x a.toList bs:=by have⟨l⟩:=u;match l,h with|[v1,v2,v3],⟨p,q,e,⟨a,c,d⟩,r,s,f,g,t,i,j,k,o⟩=>obtain⟨rfl,_,rfl⟩:=g;obtain⟨rfl,_,rfl⟩:=k;subst c o j f e;simp_all
def zm7{x:fe}(v:Y)(w1:V)(T:Nat->c6->Nat)(d:Nat)(h:zhy w x v w1):zhy w x v (World.on w1 T d):=by have⟨a,f,n,m,g,b,c,e⟩:=h;exact⟨a,f,n,m,g,b,GJ (w:=w1) (w':=World.on w1 T d) (λ_ _=>rfl) (ao _) c,e⟩
def ZU{x:fe}{w1:V}(h:zhy w x v w1):Lb v w1:=by have⟨_,c,n,m,d,a,b,_⟩:=h;have⟨k,_,k3⟩:=Og b;refine⟨c,n,m,a,by rw[<-cv,k];exact zfX _,?_⟩;rw[aQ];simp_all
section
variable{P':al}{Fin:Y->V->Prop}
def ziZ{w:V}(h:Gw w):Gw (UK w):=by have⟨T,f,e⟩:=h;have:=tp e;rw[show Ei Wz=Wz by kernel_rfl]at this;exact⟨_,_,this⟩
def zmZ(w:V)(g:Gw w){j:Array Y}{x:HL OE}(l:SC w OE x j.toList)(T:Nat->c6->Nat)(d:Nat):Calls aa.prog 128 #[.agg j] (World.on w T d) λe w1=>∃v,e=.returned v/\zhy w (Zg x) v w1:=by apply b9 (HY (x,()) (λy=>y=(te (Zg x)).d) rfl (World.on w T d) #[.agg j] ⟨⟨j,rfl,Xy (w:=w) (w':=World.on w T d) (λ_ _=>rfl) l⟩,aA⟩ g);rintro e w1⟨y,v,rfl,rfl,h,m,⟨u,rfl,c⟩,f⟩;obtain⟨k,rfl,i⟩:=zj1 c;exact⟨_,rfl,⟨h.os,h.output,h.size,λb a=>h.block b a⟩,k,_,_,m,rfl,i,f⟩
def zbW:∃f,aa.prog.funcs[128]?=C f/\f.body.isSome=E:=⟨_,Rn.fM func128,gK⟩
def zd9{R:BR}{x y:Array Y}(h:AV R x y):AV R #[.agg x] #[.agg y]:=by refine⟨rfl,λi v c a b=>?_⟩;match i with|0=>simp[dV,bz,ay]at a b;subst a b;exact .agg h.size h.at_|i+1=>simp at a
def Oc(g:PG aa.prog P')(gp:GP aa.prog){w:V}(h:Gw w){c:Array Y}{x:HL OE}(f:SC w OE x c.toList){R:BR}{e:Array Y}{W:V}(i:AV R c e)(b:HR R w W)(a:∀x,lA x nGl=E->∃l,R x x l/\l<=1)(z:GlF w):fG aa.prog (λ_ _ _ _=>False) (zhy w (Zg x)) (dsF aa.prog c) [] w:=by have r:ou aa.prog ⟨dsF aa.prog c,[],w⟩:=⟨R,_,[],W,nW g gp zbW (zd9 i) a,aA,b,z⟩;exact HD g gp zm7 r λT d=>Hx g gp (r.on' T d) (zmZ w h f T d)
def zaA{N:al}{O:ag->List ag->V->(ag->List ag->V->Prop)->Prop}{F F2:Y->V->Prop}(f:∀v w,F v w->F2 v w){c:ag}{L:List ag}{w:V}(h:fG N O F c L w):fG N O F2 c L w:=by induction h with|mk ok _ i=>exact .mk (λT d=>(ok T d).imp (λ⟨v,w1,e,a,b⟩=>⟨v,w1,e,a,f _ _ b⟩) id) i|ask S h _ i=>exact .ask S h i
def zky{w1 w2:V}{f c:Nat}{l d:List DL}{m v:List Y}{x y:List Nat}(g:CU w1 f l m x)(i:CU w2 c d v y)(j:w1.heap.size<=c)(o:x.Nodup)(n:y.Nodup):(x++y).Nodup:=by refine List.nodup_append.2 ⟨o,n,λa p b h e=>?_⟩;have q:=(Og g).2.1 a p;have k:=(Og i).2.1 b h;omega
def Nf(g:PG aa.prog P')(gp:GP aa.prog):YL aa.prog (Ask aa.prog) Fin 104 [.inr (OE++OE)] (λx K=>K (.a ((te (Zg (OB OE OE x.1))).x.d++(te (Zg (hl2 OE OE x.1))).x.d))):=by intro x K hS w vs hr n ops i rest o a Q args ho hw t P m p _;have⟨SJ,oz⟩:=Cu t (Ja t Y5);have⟨lv⟩:=vs;match lv,hr with
 |[v0],⟨⟨us,ev,S⟩,_⟩=>
 subst ev;have⟨l⟩:=us;have⟨A,B,e,hA,hB⟩:=VM S;simp  at e;subst e;have⟨la⟩:=args;obtain⟨x0,rfl,s⟩:∃x0,la=[x0]/\a.eval x0=.agg (A.toArray++B.toArray):=by simp_all
 intro b k L D hk;have⟨R,cm,L',W',N,h2,h3,q⟩:=id D;have y:=P x0 Y1;have O:∀{w:V},GlF w->∀x,lA x nGl=E->rO w x:=λh x hx=>let⟨c,e,f,z,_⟩:=h x hx;⟨c,e,f,z⟩;have hv:=N.eval y;rw[Frame.eval_at' b a (.inRegion ops (i::rest)::k),s]at hv;have⟨cs',Q0⟩:∃cs',AV R (A.toArray++B.toArray) cs':=by generalize cm.eval x0=u at hv;cases hv with|agg hc W=>exact⟨_,⟨hc,W⟩⟩
 have⟨nA,vA⟩:=zb7 hA;have⟨nB,vB⟩:=zb7 hB;have zA:A.toArray.size=22:=Y0;have zB:B.toArray.size=22:=Y0;obtain⟨cA',cB',rfl,F,X,_,_⟩:=Zv Q0 zA zB;have⟨fA,oA⟩:=Vg vA;have⟨fB,oB⟩:=Vg vB;have G:=hA;have Q1:=hB;refine .ask _ (.inl ⟨b,a,ops,i,rest,k,o,x0,SJ,A.toArray,B.toArray,rfl,ho,hw,oz,y,s,⟨zA,zB,oA,oB⟩,fA,fB,zaA (λ_ _=>ZU) (Oc g gp (ziZ n) (Xj G) fA (zex w) (λx hx=>⟨0,⟨rfl,rfl,O q x hx⟩,a7 _⟩) λx hx=>I2 (O q x hx)),zaA (λ_ _=>ZU) (Oc g gp (ziZ n) (Xj Q1) fB (zex w) (λx hx=>⟨0,⟨rfl,rfl,O q x hx⟩,a7 _⟩) λx hx=>I2 (O q x hx)),rfl⟩) ?_;rintro fr1 L1 w1⟨rfl,T,d,D9,x1,y1,wA,I,x2,y2,p1,p2,z1,z2,rfl⟩J;have⟨⟨o1,o2,o3,o4⟩,cs1,n1,m1,b1,e1,f1,q1⟩:=V1 ((Oc g gp n G F h3 N.gl q).on (λ_ _ _ _ _ _ h=>h) T d) p1;have⟨R1,W1,Q2,hle,Z⟩:=zkE g gp (nW g gp zbW (zd9 F) N.gl) (h3.on T d) q p1;have⟨⟨o5,o6,o7,o8⟩,cs2,n2,m2,b2,e2,f2,q2⟩:=V1 (Oc g gp (let⟨T0,f0,e0⟩:=n;⟨T0,f0,(o4 1 (ab.1 e0).1).trans e0⟩) (Xy o4 Q1) (X.mono hle) Q2 (λx hx=>let⟨l,r,z⟩:=N.gl x hx;⟨l,hle _ _ _ r,z⟩) Z) p2;have e1':D9=cs1:=by simp_all
 have e2':I=cs2:=by simp_all
 subst e1' e2';have M:∀v,(b.at a (.inRegion ops (i::rest)::k)).finish v=b.at (a.put o.dst v) (.inRegion ops rest::k):=by intro v;rw[dJ,ho];rfl
 rw[M]at J⊢;refine p _ w1 ⟨_,hS,⟨o5.trans o1,rfl,o6.trans o2,bw o3 o7,λj hj=>(o8 j (Nat.lt_of_lt_of_le hj o3)).trans (o4 j hj)⟩,b1++b2,⟨D9++I,rfl,?_⟩,zky f1 f2 (ao _) q1 q2⟩ b k L1 J hk;rw[Array.toList_append];exact ZV (GJ (w':=World.on w1 w.tape w.drawn) (λj hj=>o8 j hj) (ao _) f1) (GJ (w:=w1) (w':=World.on w1 w.tape w.drawn) (λ_ _=>rfl) o3 f2)
end
end Rn
namespace Rn
open Go Go.Conc
section
variable{P P':al}{O:ag->List ag->V->(ag->List ag->V->Prop)->Prop}{Fin:Y->V->Prop}
def HC(A:bK P P' O Fin){f:bu}{fn:dH}{c:eF}{args:Array Y}{R:Y->V->Prop}{w:V}(u:P.funcs[f]?=C fn)(x:fn.body=C c)(h:Oz P O Fin c (O4 P fn R λ_ _=>False) {tmps:=args++aK (fn.ntmps-args.size) undef,defers:=[]} w)(y:∀v w1,R v w1->Fin v w1)(K:ou P ⟨aF P f args .normal,[],w⟩):fG P O Fin (aF P f args .normal) [] w:=by
 let b:ag:={(default:ag)with fn:=f,kind:=.normal};have i:aF P f args .normal=b.at {tmps:=args++aK (fn.ntmps-args.size) undef,defers:=[]} [.code c]:=by simp[aF,lW,u,x,b]
 have G:∀(a:Act)(w:V)(B:List Item),(a.defers=[]/\∃v D F,(results fn a.tmps).run P (World.on w D F)=.ok v (World.on w D F)/\R v w)->ou P ⟨{b.at a B with mode:=.returning},[],w⟩->fG P O Fin {b.at a B with mode:=.returning} [] w:=by
  intro a w B⟨n,v,D,F,o,p⟩r;have N:(results fn a.tmps).runT P (World.on w D F) #[]=(.ok v (World.on w D F),(results fn a.tmps).events P (World.on w D F) #[]):=Y7;have e:∀(I:ag),I.mode=.returning->I.defers=[]->I.fn=f->I.tmps=a.tmps->dc P I [] (World.on w D F)=.ret v (World.on w D F) (seen P f ((results fn a.tmps).events P (World.on w D F) #[])):=by intro I n o p m;simp only[dc,pC,n,o,p,m,u,N]
  have s:=e {b.at a B with mode:=.returning} rfl n rfl rfl;have⟨Z,Q,L',w',S,z,k3,_⟩:=r.on' D F;have J:∀T d,∃es,dc P {b.at a B with mode:=.returning} [] (World.on w T d)=.ret v (World.on w T d) es:=λT d=>by have m:=(YY A.g S k3 (by rw[s];simp)).2 T d;rw[s]at m;have k:=m (λj q W=>absurd W (by simp[LR.drawn]));simp[LR.drawn,yn,dA]at k;exact⟨_,k⟩
  refine .mk (λT d=>?_) λT d X L1 w1 es L M=>?_;.have⟨es,k⟩:=J T d;exact .inl ⟨v,_,es,k,A.fin _ _ _ _ (y _ _ p)⟩
  .have⟨es,k⟩:=J T d;rw[k]at M;cases M
 rw[i]at K⊢;refine h b [] [] K ⟨λa w q r=>?_,λid a w q=>q.elim,λa w B q r=>G a w B q r,λl a w q=>q,λch a w B q=>q.2.elim,λa w q=>q⟩;exact fW A r (λT d=>rfl) λt=>G a w [] q t
end
end Rn
section
open Go.RowKit
namespace Ab
open Rn(World.on)
abbrev rN(v:Y)(_:V):Prop:=v=.bool E
section
variable{N P':al}{O:ag->List ag->V->(ag->List ag->V->Prop)->Prop}{T:lJ}{G J:bK}
def lZ{W0:List Nat}{TR:Nat->Tr}{f:dH}{s:List (Sh⊕List Sh)}{S:DA s->(DV->Prop)->Prop}(h:∀(x:DA s)(K:DV->Prop),S x K->bdA s x->ta s x λv=>s8 T (J++G) 0 W0 TR f v [] λr p=>∃d,MC p r d/\K d):wU T J G W0 TR f s S:=by rw[qS]at h;exact h
def Z4(j:Rn.bK N P' O rN)(P:N.funcs[IK]?=U)(o:eV N T)(M:N.follows .mixedOrders=E)(p:aR N G)(b:∀f c,(f,c)∈J->mO N O rN noP f c){W:List Nat}{q:Nat->Tr}{f:bu}{m k:dH}(a:N.funcs[f]?=C m){sig:List (Sh⊕List Sh)}{S:DA sig->(DV->Prop)->Prop}(s:eI sig.length m.ntmps=E)(t:m.body.all (jC J)=E)(u:trF m=k)(h:wU T J G W q k sig S){x:DA sig}(e:S x λd=>d=.l (.v (.bool E))){w:V}{n:Array Y}(y:rdA w sig x n.toList)(g:Gw w)(r:Rn.ou N ⟨aF N f n .normal,[],w⟩):Rn.fG N O rN (aF N f n .normal) [] w:=by have⟨c,z,A⟩:=Z3 j P o M p b s t u h e y g;refine Rn.HC j a z A ?_ r;rintro v w1⟨d,rfl,_,B,i,_⟩;exact i.1
def znk(l:Rn.bK N P' O rN)(P:N.funcs[IK]?=U)(z:eV N T)(M:N.follows .mixedOrders=E)(A:aR N G)(j:∀f c,(f,c)∈J->mO N O rN noP f c){D:Nat->Tr}{f:bu}{m n:dH}(d:N.funcs[f]?=C m)(y:m.body.all (jC J)=E)(F:trF m=n){xs:List AV}{s:Array Y}{w:V}(k:Gw w)(I:IL ⟨w,[]⟩ [] xs s.toList)(K:eI xs.length m.ntmps=E)(x:s8 T (J++G) 0 [] D n xs [] λr _=>r=B E)(b:Rn.ou N ⟨aF N f s .normal,[],w⟩):Rn.fG N O rN (aF N f s .normal) [] w:=by rw[qS]at x;subst F;cases o:m.body with|none=>rw[trF,o]at x;cases x|some c=>
 rw[o]at y;refine Rn.HC l d o (Rn.Pu (GM l P z M A j o y (Xl w) ⟨k,Gm.nil⟩ I Y7 x) ?_) (λv _ h=>h) b;have fin:∀{v:Y}{w1:V},(∃r p bR,r=B E/\AC ⟨w,[]⟩ bR r v/\kF ⟨w,[]⟩ [] [] (World.on w w.tape 0) (λ_=>True) bR p (World.on w1 w.tape 0))->v=.bool E:=by rintro v w1⟨r,p,bR,rfl,h,_⟩;exact h.2
 intro e a L q;cases e with|normal=>exact⟨q.1,let⟨v,t,u,g,i⟩:=q.2;⟨v,t,u,g,fin i⟩⟩|ret=>exact⟨q.1,let⟨v,t,u,g,i⟩:=q.2;⟨v,t,u,g,fin i⟩⟩|panic ch=>exact⟨q.1,zb4 _ _ q.2⟩|_=>cases q
end
end Ab
end
section
open Go.RowKit
open Ab
def ztV(N:al)(O:ag->List ag->V->(ag->List ag->V->Prop)->Prop)(Fin:Y->V->Prop)(J:ByteArray->Hp->Prop):bK->Prop|[]=>True|(f,c)::r=>mO N O Fin J f c/\ztV N O Fin J r
def qy{N:al}{O:ag->List ag->V->(ag->List ag->V->Prop)->Prop}{Fin:Y->V->Prop}{d:ByteArray->Hp->Prop}:∀{J:bK},ztV N O Fin d J->∀f c,(f,c)∈J->mO N O Fin d f c
 |[],_,_,_,h=>by cases h|(g,b)::r,a,f,c,h=>by
  rcases bq.1 h with e|h
  .cases e;exact a.1
  .exact qy a.2 f c h
def M6:fi aa.prog 103 [OO] (λ⟨⟨g,h,f,p,i,r,j,k,l,n,s,o,q,u,y,z,m,a,A,B,b,R,D,S,F,G,W,I,J,L,M,N,O,P,c,e,_⟩,_⟩K=>af (C1 ⟨⟨⟨g,h,f⟩,p,i,⟨r,j,k,l,n⟩,⟨s,o,q,u⟩,⟨y,z,m,a⟩⟩,⟨⟨A,B,b⟩,R,D,⟨S,F,G,W,I⟩,⟨J,L,M,N⟩,⟨O,P,c,e⟩⟩⟩=E)<|∀x:YE,x=wX ⟨⟨⟨g,h,f⟩,p,i,⟨r,j,k,l,n⟩,⟨s,o,q,u⟩,⟨y,z,m,a⟩⟩,⟨⟨A,B,b⟩,R,D,⟨S,F,G,W,I⟩,⟨J,L,M,N⟩,⟨O,P,c,e⟩⟩⟩->K (.t [.inr (YE.d x),.inl (.v (.bool E))])):=by dsimp only[DA,HL,Sh.T];rintro⟨⟨g,h,f,p,i,r,j,k,l,n,s,o,q,u,y,z,m,a,A,B,b,R,D,S,F,G,W,I,J,L,M,N,O,P,c,e,_⟩,_⟩K⟨X,hK⟩w Z hr Q;refine Rt (⟨(g:Int),(h:Int),(f:Int),(p:Int),(i:Int),(r:Int),(j:Int),(k:List (Int×Int)),(l:Bool),(n:Int),(s:Int),(o:List Int),(q:Int),(u:Int),(y:Bool),(z:Bool),(m:Bool),(a:Bool),(A:Int),(B:Int),(b:Int),(R:Int),(D:Int),(S:Int),(F:Int),(G:List (Int×Int)),(W:Bool),(I:Int),(J:Int),(L:List Int),(M:Int),(N:Int),(O:Bool),(P:Bool),(c:Bool),(e:Bool),_⟩,()) K ?_ w Z hr Q;show K (As _).d;rw[show As _=⟨wX ⟨⟨⟨g,h,f⟩,p,i,⟨r,j,k,l,n⟩,⟨s,o,q,u⟩,⟨y,z,m,a⟩⟩,⟨⟨A,B,b⟩,R,D,⟨S,F,G,W,I⟩,⟨J,L,M,N⟩,⟨O,P,c,e⟩⟩⟩,E⟩by simp[As,X]];exact hK _ rfl
def DC:CS:=cz [OO] (λ⟨⟨g,h,f,p,i,r,j,k,l,n,s,o,q,u,w,y,m,a,z,A,b,B,P,D,Q,F,G,R,I,J,L,M,N,O,c,e,_⟩,_⟩K=>af (C1 ⟨⟨⟨g,h,f⟩,p,i,⟨r,j,k,l,n⟩,⟨s,o,q,u⟩,⟨w,y,m,a⟩⟩,⟨⟨z,A,b⟩,B,P,⟨D,Q,F,G,R⟩,⟨I,J,L,M⟩,⟨N,O,c,e⟩⟩⟩=E)<|∀x:YE,x=wX ⟨⟨⟨g,h,f⟩,p,i,⟨r,j,k,l,n⟩,⟨s,o,q,u⟩,⟨w,y,m,a⟩⟩,⟨⟨z,A,b⟩,B,P,⟨D,Q,F,G,R⟩,⟨I,J,L,M⟩,⟨N,O,c,e⟩⟩⟩->K (.t [.inr (YE.d x),.inl (.v (.bool E))]))
def JK:bF aa.prog 103 DC:=Ze gK M6
section
variable{P':al}{Fin:Y->V->Prop}
def CV:aa.prog.funcs[IK]?=U:=by show Rn.c5.funcs[IK]?=U;rw[Rn.gv,Rn.AL];kernel_rfl
def J4(Q0:Rn.bK aa.prog P' (Rn.Ask aa.prog) Fin):YL aa.prog (Rn.Ask aa.prog) Fin 104 [oG] (λ⟨⟨i,j,f,p,k,r,l,n,o,q,s,t,u,v,y,z,m,b,A,B,Q1,D,F,G,c,Q2,I,J,L,M,N,O,P,Q,R,S,Q3,Q4,e,h,W,X,Q5,Z,_⟩,_⟩K=>∀x:lI,x=⟨(te ⟨⟨⟨i,j,f⟩,p,k,⟨r,l,n,o,q⟩,⟨s,t,u,v⟩,⟨y,z,m,b⟩⟩,A,B,Q1,D⟩).x,(te ⟨⟨⟨F,G,c⟩,Q2,I,⟨J,L,M,N,O⟩,⟨P,Q,R,S⟩,⟨Q3,Q4,e,h⟩⟩,W,X,Q5,Z⟩).x⟩->K (.a (lI.d x))):=by dsimp only[DA,HL,Sh.T];rintro⟨⟨i,j,f,p,k,r,l,n,o,q,s,t,u,v,y,z,m,b,A,B,Q1,D,F,G,c,Q2,I,J,L,M,N,O,P,Q,R,S,Q3,Q4,e,h,W,X,Q5,Z,_⟩,_⟩K hK w vs hr hg;exact Rn.Nf Q0.g Q0.gp (⟨(i:Int),(j:Int),(f:Int),(p:Int),(k:Int),(r:Int),(l:Int),(n:List (Int×Int)),(o:Bool),(q:Int),(s:Int),(t:List Int),(u:Int),(v:Int),(y:Bool),(z:Bool),(m:Bool),(b:Bool),(A:List Int),(B:List Int),(Q1:Int),(D:Int),(F:Int),(G:Int),(c:Int),(Q2:Int),(I:Int),(J:Int),(L:Int),(M:List (Int×Int)),(N:Bool),(O:Int),(P:Int),(Q:List Int),(R:Int),(S:Int),(Q3:Bool),(Q4:Bool),(e:Bool),(h:Bool),(W:List Int),(X:List Int),(Q5:Int),(Z:Int),_⟩,()) K (hK _ rfl) w vs hr hg
end
def QZ:CS:=cz [oG] (λ⟨⟨h,i,f,p,j,r,k,l,n,o,s,q,t,u,v,w,m,b,y,z,A,B,W,D,c,X,F,G,Z,I,J,L,M,N,O,P,Q,R,e,g,S,T,Q0,Q1,_⟩,_⟩K=>∀x:lI,x=⟨(te ⟨⟨⟨h,i,f⟩,p,j,⟨r,k,l,n,o⟩,⟨s,q,t,u⟩,⟨v,w,m,b⟩⟩,y,z,A,B⟩).x,(te ⟨⟨⟨W,D,c⟩,X,F,⟨G,Z,I,J,L⟩,⟨M,N,O,P⟩,⟨Q,R,e,g⟩⟩,S,T,Q0,Q1⟩).x⟩->K (.a (lI.d x)))
def RU:bK:=[(42,qF),(103,DC)]
def H9:aR aa.prog RU:=an ⟨qh,JK,aA⟩
def Uw:Nat->Tr:=λn=>match n with|4=>iu [0,0,1,0,2,0,3,0,4,1,5,1,6,1,7,1,8,1,9,2] .nil|_=>.nil
def N6:bK:=[(104,QZ)]
variable{P':al}{Fin:Y->V->Prop}
def FJ{J:ByteArray->Hp->Prop}(a:Rn.bK aa.prog P' (Rn.Ask aa.prog) Fin):∀f c,(f,c)∈N6->mO aa.prog (Rn.Ask aa.prog) Fin J f c:=qy ⟨WL a (J4 a),aA⟩
def Rq(q:Rn.bK aa.prog P' (Rn.Ask aa.prog) Fin):YL aa.prog (Rn.Ask aa.prog) Fin 79 [oG] (λ⟨⟨l,n,f,p,o,t,u,r,v,w,A,s,B,Q0,D,F,m,c,Q1,W,Z,clA,G,Q2,e,I,J,L,M,j,N,O,P,k,Q,R,S,Q3,g,i,X,Q4,sw,lK,_⟩,_⟩K=>∀x:zbu,x=UU ⟨⟨⟨⟨l,n,f⟩,p,o,⟨t,u,r,v,w⟩,⟨A,s,B,Q0⟩,⟨D,F,m,c⟩⟩,Q1,W,Z,clA⟩,⟨⟨⟨G,Q2,e⟩,I,J,⟨L,M,j,N,O⟩,⟨P,k,Q,R⟩,⟨S,Q3,g,i⟩⟩,X,Q4,sw,lK⟩⟩->K x.d):=by refine Xh q CV aJ au H9 (FJ q) (W0:=[0]) (TR:=Uw) (fn':=f79) (Rn.fM func79) rfl gK gK gK (lZ ?_);dsimp only[DA,HL,Sh.T];rintro⟨⟨l,n,f,p,o,t,u,r,v,w,A,s,B,Q0,D,F,m,c,Q1,W,Z,clA,G,Q2,e,I,J,L,M,j,N,O,P,k,Q,R,S,Q3,g,i,X,Q4,sw,lK,_⟩,_⟩K hK⟨⟨-,-,-,-,-,-,-,h1,-,-,-,h2,-,-,-,-,-,-,h3,h4,-,-,-,-,-,-,-,-,-,g1,-,-,-,g2,-,-,-,-,-,-,g3,g4,-⟩,-⟩;have hK:=hK;have h1:=gl r h1;have h2:=gl s h2;have h3:=gl Q1 h3;have h4:=gl W h4;have g1:=gl j g1;have g2:=gl k g2;have g3:=gl X g3;have g4:=gl Q4 g4;cases hv:iZ ⟨⟨⟨⟨l,n,f⟩,p,o,⟨t,u,r,v,w⟩,⟨A,s,B,Q0⟩,⟨D,F,m,c⟩⟩,Q1,W,Z,clA⟩,⟨⟨⟨G,Q2,e⟩,I,J,⟨L,M,j,N,O⟩,⟨P,k,Q,R⟩,⟨S,Q3,g,i⟩⟩,X,Q4,sw,lK⟩⟩with|false=>have hK:=hK ⟨zmy,H⟩ (zkt hv).symm;exact gW|true=>
 have⟨ha,hb⟩:=qz hv;have pa:=(dw ha).1;have pb:=(dw hb).1;have hp:C1 ⟨⟨⟨l,n,f⟩,p,o,⟨t,u,r,v,w⟩,⟨A,s,B,Q0⟩,⟨D,F,m,c⟩⟩,⟨⟨G,Q2,e⟩,I,J,⟨L,M,j,N,O⟩,⟨P,k,Q,R⟩,⟨S,Q3,g,i⟩⟩⟩=E:=by rw[C1,aj];exact⟨pa,pb⟩
 have va:eR ⟨(wX ⟨⟨⟨l,n,f⟩,p,o,⟨t,u,r,v,w⟩,⟨A,s,B,Q0⟩,⟨D,F,m,c⟩⟩,⟨⟨G,Q2,e⟩,I,J,⟨L,M,j,N,O⟩,⟨P,k,Q,R⟩,⟨S,Q3,g,i⟩⟩⟩).a,Q1,W,Z,clA⟩=E:=xe (d:=⟨⟨⟨l,n,f⟩,p,o,⟨t,u,r,v,w⟩,⟨A,s,B,Q0⟩,⟨D,F,m,c⟩⟩,Q1,W,Z,clA⟩) ha pb;have vb:eR ⟨(wX ⟨⟨⟨l,n,f⟩,p,o,⟨t,u,r,v,w⟩,⟨A,s,B,Q0⟩,⟨D,F,m,c⟩⟩,⟨⟨G,Q2,e⟩,I,J,⟨L,M,j,N,O⟩,⟨P,k,Q,R⟩,⟨S,Q3,g,i⟩⟩⟩).b,X,Q4,sw,lK⟩=E:=xe (d:=⟨⟨⟨G,Q2,e⟩,I,J,⟨L,M,j,N,O⟩,⟨P,k,Q,R⟩,⟨S,Q3,g,i⟩⟩,X,Q4,sw,lK⟩) hb pa;clear ha hb pa pb;repeat'(conv=>whnf);first|apply U0;exact gS|refine gB ?_ ?_<;>intro hb h<;>try exact bG
 intro x hx;rw[<-hx]at va vb;have⟨a1,a2,a3,a4⟩:=Gc va;have⟨b1,b2,b3,b4⟩:=Gc vb;dsimp only at a1 a2 a3 a4 b1 b2 b3 b4;repeat'(conv=>whnf);first|apply U0;exact gS|apply U1|intro y h0 h1
 intro z hz;have hK:=hK ⟨z,E⟩ (by rw[Z9 hv,hz];rw[zas va,zas vb,hx];rfl);exact gW
def XV:CS:=cz [oG] (λ⟨⟨g,h,f,p,i,r,j,k,l,n,s,o,q,t,u,v,m,a,w,y,z,A,B,W,b,D,X,F,G,Z,I,J,L,M,N,O,P,Q,c,e,R,S,T,Q0,_⟩,_⟩K=>∀x:zbu,x=UU ⟨⟨⟨⟨g,h,f⟩,p,i,⟨r,j,k,l,n⟩,⟨s,o,q,t⟩,⟨u,v,m,a⟩⟩,w,y,z,A⟩,⟨⟨⟨B,W,b⟩,D,X,⟨F,G,Z,I,J⟩,⟨L,M,N,O⟩,⟨P,Q,c,e⟩⟩,R,S,T,Q0⟩⟩->K x.d)
def TU:bK:=[(42,qF),(78,He)]
def Kh:aR aa.prog TU:=an ⟨qh,MQ,aA⟩
def Sr:bK:=[(79,XV)]
def IC{P:al}{J:ByteArray->Hp->Prop}(a:Rn.bK aa.prog P (Rn.Ask aa.prog) Fin):∀f c,(f,c)∈Sr->mO aa.prog (Rn.Ask aa.prog) Fin J f c:=qy ⟨WL a (Rq a),aA⟩
def Tp(y:Rn.bK aa.prog P' (Rn.Ask aa.prog) Fin):YL aa.prog (Rn.Ask aa.prog) Fin 57 [oG,.inl .int] (λ⟨⟨B,Q0,f,D,F,G,Q1,n,I,J,L,s,M,N,O,P,m,c,q,o,Q,R,S,Q2,e,Q3,W,X,Q4,u,Z,k8,k9,w,lf,jv,ju,iW,g,i,z,A,sw,lK,_⟩,t,_⟩K=>∀x:zbu,x=mJ ⟨⟨⟨⟨B,Q0,f⟩,D,F,⟨G,Q1,n,I,J⟩,⟨L,s,M,N⟩,⟨O,P,m,c⟩⟩,q,o,Q,R⟩,⟨⟨⟨S,Q2,e⟩,Q3,W,⟨X,Q4,u,Z,k8⟩,⟨k9,w,lf,jv⟩,⟨ju,iW,g,i⟩⟩,z,A,sw,lK⟩⟩ t->K x.d):=by
 refine Xh y CV aJ au Kh (IC y) (W0:=[]) (TR:=eT) (fn':=f57) (Rn.fM func57) rfl gK gK gK (lZ ?_);dsimp only[DA,HL,Sh.T];rintro⟨⟨B,Q0,f,D,F,G,Q1,n,I,J,L,s,M,N,O,P,m,c,q,o,Q,R,S,Q2,e,Q3,W,X,Q4,u,Z,k8,k9,w,lf,jv,ju,iW,g,i,z,A,sw,lK,_⟩,t,_⟩K hK⟨⟨-,-,-,-,-,-,-,h1,-,-,-,h2,-,-,-,-,-,-,h3,h4,-,-,-,-,-,-,-,-,-,g1,-,-,-,g2,-,-,-,-,-,-,g3,g4,-⟩,-⟩;have hK:K (mJ _ t).d:=hK _ rfl;have h1:=gl n h1;have h2:=gl s h2;have h3:=gl q h3;have h4:=gl o h4;have g1:=gl u g1;have g2:=gl w g2;have g3:=gl z g3;have g4:=gl A g4;by_cases hv:iZ ⟨⟨⟨⟨B,Q0,f⟩,D,F,⟨G,Q1,n,I,J⟩,⟨L,s,M,N⟩,⟨O,P,m,c⟩⟩,q,o,Q,R⟩,⟨⟨⟨S,Q2,e⟩,Q3,W,⟨X,Q4,u,Z,k8⟩,⟨k9,w,lf,jv⟩,⟨ju,iW,g,i⟩⟩,z,A,sw,lK⟩⟩=E/\0<=t/\t<=150
 .rw[show mJ _ t=_ by unfold mJ;rw[if_pos hv]]at hK;have⟨hv,h0,h9⟩:=hv;have hrv:=yh hv;repeat'(conv=>whnf);first|apply U0;exact gS|apply gU;exact gA|refine gB ?_ ?_<;>intro hb h<;>try exact bG
  refine dt.mI {k:Nat//(k:Int)<=t} (λ⟨k,_⟩=>[(19,.j),(21,.l (.v (.int .i64 k)))]) (λ⟨k,_⟩=>[(0,.b (WW (mK k ⟨⟨⟨⟨B,Q0,f⟩,D,F,⟨G,Q1,n,I,J⟩,⟨L,s,M,N⟩,⟨O,P,m,c⟩⟩,q,o,Q,R⟩,⟨⟨⟨S,Q2,e⟩,Q3,W,⟨X,Q4,u,Z,k8⟩,⟨k9,w,lf,jv⟩,⟨ju,iW,g,i⟩⟩,z,A,sw,lK⟩⟩) 2 3 4 5 6 7 8 9) 50),(2,.r 0 80 (.bC (mK k ⟨⟨⟨⟨B,Q0,f⟩,D,F,⟨G,Q1,n,I,J⟩,⟨L,s,M,N⟩,⟨O,P,m,c⟩⟩,q,o,Q,R⟩,⟨⟨⟨S,Q2,e⟩,Q3,W,⟨X,Q4,u,Z,k8⟩,⟨k9,w,lf,jv⟩,⟨ju,iW,g,i⟩⟩,z,A,sw,lK⟩⟩).a.p.rc.items)),(3,.r 0 3 (.bn (mK k ⟨⟨⟨⟨B,Q0,f⟩,D,F,⟨G,Q1,n,I,J⟩,⟨L,s,M,N⟩,⟨O,P,m,c⟩⟩,q,o,Q,R⟩,⟨⟨⟨S,Q2,e⟩,Q3,W,⟨X,Q4,u,Z,k8⟩,⟨k9,w,lf,jv⟩,⟨ju,iW,g,i⟩⟩,z,A,sw,lK⟩⟩).a.p.sd.items)),(4,.r 0 3 (.bn (mK k ⟨⟨⟨⟨B,Q0,f⟩,D,F,⟨G,Q1,n,I,J⟩,⟨L,s,M,N⟩,⟨O,P,m,c⟩⟩,q,o,Q,R⟩,⟨⟨⟨S,Q2,e⟩,Q3,W,⟨X,Q4,u,Z,k8⟩,⟨k9,w,lf,jv⟩,⟨ju,iW,g,i⟩⟩,z,A,sw,lK⟩⟩).a.pM)),(5,.r 0 3 (.bn (mK k ⟨⟨⟨⟨B,Q0,f⟩,D,F,⟨G,Q1,n,I,J⟩,⟨L,s,M,N⟩,⟨O,P,m,c⟩⟩,q,o,Q,R⟩,⟨⟨⟨S,Q2,e⟩,Q3,W,⟨X,Q4,u,Z,k8⟩,⟨k9,w,lf,jv⟩,⟨ju,iW,g,i⟩⟩,z,A,sw,lK⟩⟩).a.out)),(6,.r 0 80 (.bC (mK k ⟨⟨⟨⟨B,Q0,f⟩,D,F,⟨G,Q1,n,I,J⟩,⟨L,s,M,N⟩,⟨O,P,m,c⟩⟩,q,o,Q,R⟩,⟨⟨⟨S,Q2,e⟩,Q3,W,⟨X,Q4,u,Z,k8⟩,⟨k9,w,lf,jv⟩,⟨ju,iW,g,i⟩⟩,z,A,sw,lK⟩⟩).b.p.rc.items)),(7,.r 0 3 (.bn (mK k ⟨⟨⟨⟨B,Q0,f⟩,D,F,⟨G,Q1,n,I,J⟩,⟨L,s,M,N⟩,⟨O,P,m,c⟩⟩,q,o,Q,R⟩,⟨⟨⟨S,Q2,e⟩,Q3,W,⟨X,Q4,u,Z,k8⟩,⟨k9,w,lf,jv⟩,⟨ju,iW,g,i⟩⟩,z,A,sw,lK⟩⟩).b.p.sd.items)),(8,.r 0 3 (.bn (mK k ⟨⟨⟨⟨B,Q0,f⟩,D,F,⟨G,Q1,n,I,J⟩,⟨L,s,M,N⟩,⟨O,P,m,c⟩⟩,q,o,Q,R⟩,⟨⟨⟨S,Q2,e⟩,Q3,W,⟨X,Q4,u,Z,k8⟩,⟨k9,w,lf,jv⟩,⟨ju,iW,g,i⟩⟩,z,A,sw,lK⟩⟩).b.pM)),(9,.r 0 3 (.bn (mK k ⟨⟨⟨⟨B,Q0,f⟩,D,F,⟨G,Q1,n,I,J⟩,⟨L,s,M,N⟩,⟨O,P,m,c⟩⟩,q,o,Q,R⟩,⟨⟨⟨S,Q2,e⟩,Q3,W,⟨X,Q4,u,Z,k8⟩,⟨k9,w,lf,jv⟩,⟨ju,iW,g,i⟩⟩,z,A,sw,lK⟩⟩).b.out))]) (λ⟨k,_⟩=>(t-k).toNat) ⟨0,Y0⟩ [0,1,2,3,4,5,6,7,8,9] ?_ ?_;·(repeat'(first|(apply U0;exact gV)|exact aA))
  rintro⟨k,hk⟩;have hvk:=hrv k;repeat'(conv=>whnf);first|apply U0;exact gS|refine gB ?_ ?_<;>intro hb h<;>try exact bG
  .intro x hx;have hx:x=_:=hx.trans (Z9 hvk);subst hx;repeat'((conv=>whnf);(apply U0;exact gS))
   (refine ae ⟨k+1,Y0⟩ (ae [0,1,10,11,12,13,14,15,16,17] (aB ?_ ?_)));.show(t-((k+1:Nat):Int)).toNat<(t-(k:Int)).toNat;omega
   .repeat' first|refine U0 ?_ ?_;exact gV|exact aA
  .obtain rfl:k=t.toNat:=Y0;(apply gI hK;repeat' first|exact gR|apply U0)
 .rw[show mJ _ t=_ by unfold mJ;rw[if_neg hv]]at hK;by_cases hp:iZ ⟨⟨⟨⟨B,Q0,f⟩,D,F,⟨G,Q1,n,I,J⟩,⟨L,s,M,N⟩,⟨O,P,m,c⟩⟩,q,o,Q,R⟩,⟨⟨⟨S,Q2,e⟩,Q3,W,⟨X,Q4,u,Z,k8⟩,⟨k9,w,lf,jv⟩,⟨ju,iW,g,i⟩⟩,z,A,sw,lK⟩⟩=E
  .have ht:¬(0<=t/\t<=150):=λh=>hv ⟨hp,h⟩;repeat'(conv=>whnf);first|apply U0;exact gS|apply gU;exact gA|refine gB ?_ ?_<;>intro hb h<;>try exact bG
   all_goals(exact gF hK)
  .have hp:iZ ⟨⟨⟨⟨B,Q0,f⟩,D,F,⟨G,Q1,n,I,J⟩,⟨L,s,M,N⟩,⟨O,P,m,c⟩⟩,q,o,Q,R⟩,⟨⟨⟨S,Q2,e⟩,Q3,W,⟨X,Q4,u,Z,k8⟩,⟨k9,w,lf,jv⟩,⟨ju,iW,g,i⟩⟩,z,A,sw,lK⟩⟩=H:=by simpa using hp
   exact gW
section
variable{P':al}{Fin:Y->V->Prop}
def jP(J:ByteArray->Hp->Prop):bK:=[(IK,D9 J)]
def zoQ(a:Rn.bK aa.prog P' (Rn.Ask aa.prog) Fin)(J:ByteArray->Hp->Prop):∀f c,(f,c)∈jP J->mO aa.prog (Rn.Ask aa.prog) Fin J f c:=qy ⟨ziS a,aA⟩
def Pj(J:ByteArray->Hp->Prop):CS:=Wo fQ (jP J) [] [] eT f56
def LB(a:Rn.bK aa.prog P' (Rn.Ask aa.prog) Fin)(J:ByteArray->Hp->Prop):mO aa.prog (Rn.Ask aa.prog) Fin J 56 (Pj J):=u7 a CV aJ au (an (G:=[]) trivial) (zoQ a J) (Rn.fM func56) gK gK
def jR(J:ByteArray->Hp->Prop):bK:=[(56,Pj J)]
def zuO(a:Rn.bK aa.prog P' (Rn.Ask aa.prog) Fin)(J:ByteArray->Hp->Prop):∀f c,(f,c)∈jR J->mO aa.prog (Rn.Ask aa.prog) Fin J f c:=qy ⟨LB a J,aA⟩
def QE:DA [.inl .str]->(DV->Prop)->(List UInt8->Prop)->Prop:=λ⟨s,_⟩K a=>Br (decide (0<=br s)) (K (.l (.v (.int .i64 (br s))))) (a SL)
def XZ(j:Rn.bK aa.prog P' (Rn.Ask aa.prog) Fin):zhX aa.prog (Rn.Ask aa.prog) Fin 58 [.inl .str] QE:=by apply zjJ j CV aJ au (G:=[]) (an trivial) (J:=jR) (λk=>zuO j k) (W0:=[]) (TR:=eT) (fn':=f58) (Rn.fM func58) rfl gK (λ_=>gK) gK;rintro⟨(s:List UInt8),_⟩K i hK-;replace hK:Br (decide (0<=br s)) (K (.l (.v (.int .i64 (br s))))) (i SL):=hK;match s,hK with
 |[],hK=>
  have n:(([]:List UInt8).length:Int)=0:=rfl;repeat'(conv=>whnf);first|apply U0;exact gS|apply gU;exact gA|refineλ(y:Int)(f:0<=y)g=>?_
  exact uR hK rfl|[a],hK=>
  have n:([a].length:Int)=1:=rfl;repeat'(conv=>whnf);first|apply U0;exact gS|apply gU;exact gA|intro y f g
  apply dt.it 2;repeat'(conv=>whnf);first|apply U0;exact gS|apply gU;exact gA|refine gB ?_ ?_<;>intro e h<;>try exact bG
  all_goals first |exact uR hK (by clear hK;simp only[show(0:Int).toNat=0 from rfl,ca,br,uU,SB,aj,decide_eq_true_eq,decide_eq_false_iff_not]at*;split<;>omega)|(
   refine gI (zy hK (by clear hK;simp only[show(0:Int).toNat=0 from rfl,ca,br,uU,SB,aj,decide_eq_true_eq]at*;split<;>omega)) ?_;repeat' first|exact gR|apply U0
   clear hK;simp only[show(0:Int).toNat=0 from rfl,ca,br,uU,SB,aj,decide_eq_true_eq]at*;split<;>omega)
 |[a,b],hK=>
  have n:([a,b].length:Int)=2:=rfl;repeat'(conv=>whnf);first|refine U0 ?_ ?_;exact gS|apply gU;exact gA|refine gB ?_ ?_<;>intro e h<;>try exact bG
  .exact uR hK (by clear hK;simp only[show(0:Int).toNat=0 from rfl,ca,br,uU,SB,aj,decide_eq_true_eq,decide_eq_false_iff_not]at*;split<;>omega)
  refine dt.it 3 ?_;repeat'(conv=>whnf);first|apply U0;exact gS|apply gU;exact gA|refine gB ?_ ?_<;>intro e h<;>try exact bG
  all_goals first |exact uR hK (by clear hK;simp only[show(0:Int).toNat=0 from rfl,show((0:Int)+1).toNat=1 from rfl,ca,cU,br,uU,SB,aj,decide_eq_true_eq,decide_eq_false_iff_not]at*;split<;>omega)|(
   refine gI (zy hK (by clear hK;simp only[show(0:Int).toNat=0 from rfl,show((0:Int)+1).toNat=1 from rfl,ca,cU,br,uU,SB,aj,decide_eq_true_eq]at*;split<;>omega)) ?_;repeat' first|exact gR|apply U0
   clear hK;simp only[show(0:Int).toNat=0 from rfl,show((0:Int)+1).toNat=1 from rfl,ca,cU,br,uU,SB,aj,decide_eq_true_eq]at*;split<;>omega)
 |[a,b,c],hK=>
  have n:([a,b,c].length:Int)=3:=rfl;repeat'(conv=>whnf);first|refine U0 ?_ ?_;exact gS|apply gU;exact gA|refine gB ?_ ?_<;>intro e h<;>try exact bG
  .exact uR hK (by clear hK;simp[show(0:Int).toNat=0 from rfl,br,uU,SB,aj,decide_eq_true_eq,decide_eq_false_iff_not]at*;split<;>omega)
  refine dt.it 4 ?_;repeat'(conv=>whnf);first|apply U0;exact gS|apply gU;exact gA|refine gB ?_ ?_<;>intro e h<;>try exact bG
  all_goals first |exact uR hK (by clear hK;simp[show(0:Int).toNat=0 from rfl,br,uU,SB,aj,decide_eq_true_eq,decide_eq_false_iff_not]at*;split<;>omega)|(
   apply gI (zy hK (by clear hK;simp only[show(0:Int).toNat=0 from rfl,show((0:Int)+1).toNat=1 from rfl,show((0:Int)+1+1).toNat=2 from rfl,ca,cU,br,uU,SB,aj,decide_eq_true_eq]at*;split<;>omega));repeat' first|exact gR|apply U0
   clear hK;simp only[show(0:Int).toNat=0 from rfl,show((0:Int)+1).toNat=1 from rfl,show((0:Int)+1+1).toNat=2 from rfl,ca,cU,br,uU,SB,aj,decide_eq_true_eq]at*;split<;>omega)
 |a::b::c::d::r,hK=>
  have n:4<=((a::b::c::d::r).length:Int):=by simp[aW];omega
  repeat'(conv=>whnf);first|apply U0;exact gS|apply gU;exact gA|refine gB ?_ ?_<;>intro e h<;>try exact bG
  exact uR hK rfl
end
abbrev KM:Type:=List (Option DL)->List UInt8->Prop
def zfr(x:lI)(y:SG)(K:KM):Prop:=∀(z:SG)(a b:Bool),z=y->(a=E->z.x.a=x.a)->(b=E->z.x.b=x.b)->K (parts a z.x.a++parts b z.x.b) z.s
def gP{D a:Type}{M K:D->a->Prop}{d:D}{s:a}(hK:K d s)(h:M d s):∃d s,M d s/\K d s:=Y8
variable{x:lI}{s:List UInt8}{K:KM}
def lX(h:zfr x ⟨x,s⟩ K):K (aP 44 U) s:=h ⟨x,s⟩ E E rfl (λ_=>rfl) (λ_=>rfl)
def zmD{y:lI}(h:zfr x ⟨y,s⟩ K):K (parts H y.a++parts H y.b) s:=h ⟨y,s⟩ H H rfl (λe=>dO e) (λe=>dO e)
def zor{d:fe}(h:zfr x ⟨⟨d,x.b⟩,s⟩ K):K (parts H d++parts E x.b) s:=h ⟨⟨d,x.b⟩,s⟩ H E rfl (λe=>dO e) (λ_=>rfl)
def zos{d:fe}(h:zfr x ⟨⟨x.a,d⟩,s⟩ K):K (parts E x.a++parts H d) s:=h ⟨⟨x.a,d⟩,s⟩ E H rfl (λ_=>rfl) (λe=>dO e)
def GH{a b:List UInt8}{t:Bool}(h:decide (a=b)=t):decide (b=a)=t:=Y8
def znK{n:Int}(h:¬0<=n):S7 x n=⟨x,SL⟩:=by
 have e:(mJ x n).ok=H:=by unfold mJ;rw[if_neg (λk=>h k.2.1)]
 unfold S7;rw[if_neg Y7]
def zay{d:fe}{n:Int}(h:¬0<=n):(aZ d n).ok=H:=by unfold aZ;rw[if_neg (λk=>h k.2.1)]
variable{k:Nat}
def GY{d:fe}{l:List Int}(a:k<l.length)(h:¬0<=l.getD k 0):(dZ d l).ok=H:=by unfold dZ;rw[if_neg (λq=>by rw[tE l k a (by grind[ed,decide_eq_false_iff_not])]at q;simp_all)]
theorem AE{ws:List (List UInt8)}(h:k<ws.length-2):((ws.drop 2).map br).getD k 0=br (ws.getD (aC 2+((k:Nat):Int).toNat) []):=by grind
def CI{ws:List (List UInt8)}(h:k<ws.length-2):((ws.drop 2).map br).take (k+1)=((ws.drop 2).map br).take k++[br (ws.getD (aC 2+((k:Nat):Int).toNat) [])]:=by grind[AE,cW,aN]
def QQ{l:List Int}(h:k<l.length):iX++gZ (l.take (k+1))=(iX++gZ (l.take k))++([32]++lM (l.getD ((k:Nat):Int).toNat 0).toNat):=by rw[JF h];simp
section
variable{P':al}{Fin:Y->V->Prop}
def zqx(T:lJ)(J:(ByteArray→Hp→Prop)→bK)(G:bK)(W:List Nat)(a:Nat→Tr)(c:eF):CS:={S:=fun d f K=>(match d with|[x,y]=>OL U f (.b [.str []] 9) fun k h=>CY (IV h) fun n=>Ah T (J (fun s p=>zqU p k s K)++G) n W a c (Pb x y k) h fun e _ p=>(match e with|.x _=>False|_=>Ab.Ec p k K)|_=>False),sb:=fun _=>U}
def zmT:@zqx=@csL:=by funext T J G W a c;unfold zqx csL;rw[Po]<;>rfl
def Rp(Z:Rn.bK aa.prog P' (Rn.Ask aa.prog) Fin):YL aa.prog (Rn.Ask aa.prog) Fin 57 [oG,.inl .int] (λ⟨⟨g,h,f,p,i,r,j,k,l,n,s,o,q,u,v,y,m,a,z,A,B,Q0,D,F,b,G,Q1,I,J,L,M,N,O,P,Q,R,S,T,c,e,Q2,Q3,W,X,_⟩,t,_⟩K=>K (mJ ⟨⟨⟨⟨g,h,f⟩,p,i,⟨r,j,k,l,n⟩,⟨s,o,q,u⟩,⟨v,y,m,a⟩⟩,z,A,B,Q0⟩,⟨⟨⟨D,F,b⟩,G,Q1,⟨I,J,L,M,N⟩,⟨O,P,Q,R⟩,⟨S,T,c,e⟩⟩,Q2,Q3,W,X⟩⟩ t).d):=by rintro⟨⟨g,h,f,p,i,r,j,k,l,n,s,o,q,u,v,y,m,a,z,A,B,Q0,D,F,b,G,Q1,I,J,L,M,N,O,P,Q,R,S,T,c,e,Q2,Q3,W,X,_⟩,t,_⟩K hK w vs hr Q4;exact Tp Z (⟨(g:Int),(h:Int),(f:Int),(p:Int),(i:Int),(r:Int),(j:Int),(k:List (Int×Int)),(l:Bool),(n:Int),(s:Int),(o:List Int),(q:Int),(u:Int),(v:Bool),(y:Bool),(m:Bool),(a:Bool),(z:List Int),(A:List Int),(B:Int),(Q0:Int),(D:Int),(F:Int),(b:Int),(G:Int),(Q1:Int),(I:Int),(J:Int),(L:List (Int×Int)),(M:Bool),(N:Int),(O:Int),(P:List Int),(Q:Int),(R:Int),(S:Bool),(T:Bool),(c:Bool),(e:Bool),(Q2:List Int),(Q3:List Int),(W:Int),(X:Int),_⟩,t,()) K (λx hx=>Y7) w vs hr Q4
def XU:CS:=cz [oG,.inl .int] (λ⟨⟨g,h,f,p,i,r,j,k,l,n,s,o,q,u,v,w,m,a,x,y,z,A,B,W,b,D,X,F,G,Z,I,J,L,M,N,O,P,Q,c,e,R,S,T,Q0,_⟩,t,_⟩K=>K (mJ ⟨⟨⟨⟨g,h,f⟩,p,i,⟨r,j,k,l,n⟩,⟨s,o,q,u⟩,⟨v,w,m,a⟩⟩,x,y,z,A⟩,⟨⟨⟨B,W,b⟩,D,X,⟨F,G,Z,I,J⟩,⟨L,M,N,O⟩,⟨P,Q,c,e⟩⟩,R,S,T,Q0⟩⟩ t).d)
def jS(J:ByteArray->Hp->Prop):bK:=[(56,Pj J),(58,zt0 [.inl .str] QE J),(57,XU),(59,Wo fQ (jP J) [] [] eT f59)]
def zdX(a:Rn.bK aa.prog P' (Rn.Ask aa.prog) Fin)(J:ByteArray->Hp->Prop):∀f c,(f,c)∈jS J->mO aa.prog (Rn.Ask aa.prog) Fin J f c:=qy ⟨LB a J,zmV a (XZ a),WL a (Rp a),u7 a CV aJ au (an (G:=[]) trivial) (zoQ a J) (Rn.fM func59) gK gK,aA⟩
def gS9:bK:=[(60,Bt),(61,Bu),(25,zbT)]
def WT:aR aa.prog gS9:=an ⟨HG,HH,Vh,aA⟩
def K4:Nat->Tr:=λn=>match n with|2=>iu [0,0,1,0,2,0,3,0,4,0,5,0,6,0] (.iY 7 1 (.iY 8 1 (iu [9,0,10,0,11,0,12,1,13,1,14,2] .nil) 12 1 (iu [8,1,9,1,10,0,11,0,13,1,14,2] .nil)) 12 1 (iu [7,1,8,1,9,1,10,0,11,0,13,1,14,2] .nil))|_=>.nil
def IH:Nat->Tr:=λn=>match n with|3=>iu [0,0,1,0,2,0,3,0,4,0,5,0] (.iY 6 1 (.iY 7 1 (iu [8,0,9,0,10,0,11,0,12,1,13,1,14,1,15,2] .nil) 12 1 (iu [7,1,8,1,9,0,10,0,11,0,13,1,14,1,15,2] .nil)) 12 1 (iu [6,1,7,1,8,1,9,0,10,0,11,0,13,1,14,1,15,2] .nil))|_=>.nil
def FK:Nat->Tr:=λn=>match n with|3=>iu [0,0,1,0,2,0,3,0,4,0,8,0,9,0,10,0,11,0,12,0,16,0,17,0,18,0,19,0,23,0,24,0,25,0,26,0,5,1,6,0,7,0,13,1,14,0,15,0,20,1,21,0,22,0,27,1,28,1,29,2] .nil|_=>.nil
def zfJ(J:ByteArray->Hp->Prop):CS:=Wo fQ (jS J) gS9 [] K4 f37
def zcp(J:ByteArray->Hp->Prop):CS:=Wo fQ (jS J) gS9 [] eT f38
def zcq(J:ByteArray->Hp->Prop):CS:=Wo fQ (jS J) gS9 [] IH f39
def zaJ(J:ByteArray->Hp->Prop):CS:=Wo fQ (jS J) gS9 [] FK f40
def jL9(J:ByteArray->Hp->Prop):bK:=[(IK,D9 J),(37,zfJ J),(38,zcp J),(39,zcq J),(40,zaJ J)]
def zrE(a:Rn.bK aa.prog P' (Rn.Ask aa.prog) Fin)(J:ByteArray->Hp->Prop):∀f c,(f,c)∈jL9 J->mO aa.prog (Rn.Ask aa.prog) Fin J f c:=qy ⟨ziS a,u7 a CV aJ au WT (zdX a J) (Rn.fM func37) gK gK,u7 a CV aJ au WT (zdX a J) (Rn.fM func38) gK gK,u7 a CV aJ au WT (zdX a J) (Rn.fM func39) gK gK,u7 a CV aJ au WT (zdX a J) (Rn.fM func40) gK gK,aA⟩
def gL9:bK:=[(21,Xe)]
def zry:aR aa.prog gL9:=an ⟨P0,aA⟩
def zcI:∃fn,aa.prog.funcs[Rn.UO]?=C fn:=by simp_all[Rn.gv,Rn.AL]
noncomputable def wV:eF:=trC Rn.Lg
def znn(g:Rn.PG aa.prog Rn.PR)(a:Rn.bK aa.prog P' (Rn.Ask aa.prog) Fin)(J:ByteArray->Hp->Prop):mO aa.prog (Rn.Ask aa.prog) Fin J Rn.UO (zqx fQ jL9 gL9 [] eT wV):=by rw[zmT];exact zrj g a CV zcI gK aJ au zry (λJ=>zrE a J) rfl (λ_=>gK) (λ_=>gK)
def zjh:HL zN->List UInt8->KM->Prop:=λ⟨e,g,f,p,h,r,i,j,k,l,n,o,q,t,u,v,m,a,w,x,y,z,A,B,b,W,D,X,F,G,Z,I,J,L,M,N,O,P,c,d,Q,R,S,T,_⟩s K=>af (iZ ⟨⟨⟨⟨e,g,f⟩,p,h,⟨r,i,j,k,l⟩,⟨n,o,q,t⟩,⟨u,v,m,a⟩⟩,w,x,y,z⟩,⟨⟨⟨A,B,b⟩,W,D,⟨X,F,G,Z,I⟩,⟨J,L,M,N⟩,⟨O,P,c,d⟩⟩,Q,R,S,T⟩⟩=E)<|af (s.length<=100000)<|zfr ⟨⟨⟨⟨e,g,f⟩,p,h,⟨r,i,j,k,l⟩,⟨n,o,q,t⟩,⟨u,v,m,a⟩⟩,w,x,y,z⟩,⟨⟨⟨A,B,b⟩,W,D,⟨X,F,G,Z,I⟩,⟨J,L,M,N⟩,⟨O,P,c,d⟩⟩,Q,R,S,T⟩⟩ (lP ⟨⟨⟨⟨e,g,f⟩,p,h,⟨r,i,j,k,l⟩,⟨n,o,q,t⟩,⟨u,v,m,a⟩⟩,w,x,y,z⟩,⟨⟨⟨A,B,b⟩,W,D,⟨X,F,G,Z,I⟩,⟨J,L,M,N⟩,⟨O,P,c,d⟩⟩,Q,R,S,T⟩⟩ s) K
def zjI(g:Rn.PG aa.prog Rn.PR)(Q0:Rn.bK aa.prog P' (Rn.Ask aa.prog) Fin):zqj aa.prog (Rn.Ask aa.prog) Fin Rn.UO 52 zN zjh:=by
 refine zmQ (znn g Q0 noP) gK ?_;rintro⟨(Q1:Int),(I:Int),(f:Int),(J:Int),(L:Int),(M:Int),(N:Int),(t:List (Int×Int)),(O:Bool),(P:Int),(Q:Int),(z:List Int),(R:Int),(S:Int),(T:Bool),(Q2:Bool),(a:Bool),(b:Bool),(q:List Int),(n:List Int),(A:Int),(B:Int),(Q3:Int),(W:Int),(c:Int),(X:Int),(Q4:Int),(Z:Int),(oE:Int),(Q5:List (Int×Int)),(oD:Bool),(k8:Int),(k9:Int),(D:List Int),(lf:Int),(jv:Int),(ju:Bool),(iW:Bool),(d:Bool),(i:Bool),(o:List Int),(p:List Int),(F:Int),(G:Int),_⟩(s:List UInt8)K⟨hv,hl,hK⟩u;have hv:iZ ⟨⟨⟨⟨Q1,I,f⟩,J,L,⟨M,N,t,O,P⟩,⟨Q,z,R,S⟩,⟨T,Q2,a,b⟩⟩,q,n,A,B⟩,⟨⟨⟨Q3,W,c⟩,X,Q4,⟨Z,oE,Q5,oD,k8⟩,⟨k9,D,lf,jv⟩,⟨ju,iW,d,i⟩⟩,o,p,F,G⟩⟩=E:=hv;have hl:s.length<=100000:=hl;have hK:zfr ⟨⟨⟨⟨Q1,I,f⟩,J,L,⟨M,N,t,O,P⟩,⟨Q,z,R,S⟩,⟨T,Q2,a,b⟩⟩,q,n,A,B⟩,⟨⟨⟨Q3,W,c⟩,X,Q4,⟨Z,oE,Q5,oD,k8⟩,⟨k9,D,lf,jv⟩,⟨ju,iW,d,i⟩⟩,o,p,F,G⟩⟩ (lP ⟨⟨⟨⟨Q1,I,f⟩,J,L,⟨M,N,t,O,P⟩,⟨Q,z,R,S⟩,⟨T,Q2,a,b⟩⟩,q,n,A,B⟩,⟨⟨⟨Q3,W,c⟩,X,Q4,⟨Z,oE,Q5,oD,k8⟩,⟨k9,D,lf,jv⟩,⟨ju,iW,d,i⟩⟩,o,p,F,G⟩⟩ s) K:=hK;have⟨hvA,hvB⟩:=qz hv;have hvA:eR ⟨⟨⟨Q1,I,f⟩,J,L,⟨M,N,t,O,P⟩,⟨Q,z,R,S⟩,⟨T,Q2,a,b⟩⟩,q,n,A,B⟩=E:=hvA;have hvB:eR ⟨⟨⟨Q3,W,c⟩,X,Q4,⟨Z,oE,Q5,oD,k8⟩,⟨k9,D,lf,jv⟩,⟨ju,iW,d,i⟩⟩,o,p,F,G⟩=E:=hvB;clear hv;rintro⟨-,-,-,-,-,-,-,h1,-,-,-,h2,-,-,-,-,-,-,h3,h4,-,-,-,-,-,-,-,-,-,g1,-,-,-,g2,-,-,-,-,-,-,g3,g4,-⟩;have h1:=gl t h1;have h2:=gl z h2;have h3:=gl q h3;have h4:=gl n h4;have g1:=gl Q5 g1;have g2:=gl D g2;have g3:=gl o g3;have g4:=gl p g4;repeat'((conv=>whnf);(refine U0 ?_ ?_;exact gS))
 iterate 4(conv=>whnf);refine ae _ (aB (λ_ h=>h) (aB rfl ?_));repeat'((conv=>whnf);(refine U0 ?_ ?_;exact gS))
 intro ws hw;have hw:ws=dT 32 s:=hw;have hn:1<=ws.length:=by rw[hw];exact mV.2 (I1 32 s)
 have hn2:ws.length<=100001:=by rw[hw,Gb];have:s.count 32<=s.length:=mh;omega
 unfold lP at hK;rw[<-hw]at hK;clear hw;have hW:pD ⟨⟨⟨⟨Q1,I,f⟩,J,L,⟨M,N,t,O,P⟩,⟨Q,z,R,S⟩,⟨T,Q2,a,b⟩⟩,q,n,A,B⟩,⟨⟨⟨Q3,W,c⟩,X,Q4,⟨Z,oE,Q5,oD,k8⟩,⟨k9,D,lf,jv⟩,⟨ju,iW,d,i⟩⟩,o,p,F,G⟩⟩ ws=⟨⟨⟨⟨⟨Q1,I,f⟩,J,L,⟨M,N,t,O,P⟩,⟨Q,z,R,S⟩,⟨T,Q2,a,b⟩⟩,q,n,A,B⟩,⟨⟨⟨Q3,W,c⟩,X,Q4,⟨Z,oE,Q5,oD,k8⟩,⟨k9,D,lf,jv⟩,⟨ju,iW,d,i⟩⟩,o,p,F,G⟩⟩,oJ⟩->K (aP 44 U) oJ:=λe=>lX (by rw[e]at hK;exact hK);rcases ztZ (ws.getD (aC 0) [])with⟨w0,q1,q2,q3,q4⟩|⟨w0,q1,q2,q3,q4⟩|⟨w0,q1,q2,q3,q4⟩|⟨w0,q1,q2,q3,q4⟩|⟨w0,q1,q2,q3,q4⟩;all_goals
  have q1:decide (ws.getD (aC 0) []=[114,117,110])=_:=q1;have q2:decide (ws.getD (aC 0) []=[115,101,110,100])=_:=q2;have q3:decide (ws.getD (aC 0) []=[116,97,107,101])=_:=q3;have q4:decide (ws.getD (aC 0) []=[99,111,117,110,116])=_:=q4;have p1:=GH q1;have p2:=GH q2;have p3:=GH q3;have p4:=GH q4;repeat'((conv=>whnf);(refine U0 ?_ ?_;exact gS))
  refine ae _ (aB (λ_ h=>h) ?_)
 .rw[VB w0]at hK hW;by_cases hc:ws.length=2
  .rw[if_pos hc]at hK;clear hW;by_cases hn0:0<=br (ws.getD (aC 1) []);.have q0:decide (0<=br (ws.getD (aC 1) []))=E:=decide_eq_true hn0;cases wQ:(mJ ⟨⟨⟨⟨Q1,I,f⟩,J,L,⟨M,N,t,O,P⟩,⟨Q,z,R,S⟩,⟨T,Q2,a,b⟩⟩,q,n,A,B⟩,⟨⟨⟨Q3,W,c⟩,X,Q4,⟨Z,oE,Q5,oD,k8⟩,⟨k9,D,lf,jv⟩,⟨ju,iW,d,i⟩⟩,o,p,F,G⟩⟩ (br (ws.getD (aC 1) []))).ok with
    |true=>
     have hA:=zmD (y:=(mJ ⟨⟨⟨⟨Q1,I,f⟩,J,L,⟨M,N,t,O,P⟩,⟨Q,z,R,S⟩,⟨T,Q2,a,b⟩⟩,q,n,A,B⟩,⟨⟨⟨Q3,W,c⟩,X,Q4,⟨Z,oE,Q5,oD,k8⟩,⟨k9,D,lf,jv⟩,⟨ju,iW,d,i⟩⟩,o,p,F,G⟩⟩ (br (ws.getD (aC 1) []))).l) (s:=tOk) (by rw[show S7 ⟨⟨⟨⟨Q1,I,f⟩,J,L,⟨M,N,t,O,P⟩,⟨Q,z,R,S⟩,⟨T,Q2,a,b⟩⟩,q,n,A,B⟩,⟨⟨⟨Q3,W,c⟩,X,Q4,⟨Z,oE,Q5,oD,k8⟩,⟨k9,D,lf,jv⟩,⟨ju,iW,d,i⟩⟩,o,p,F,G⟩⟩ (br (ws.getD 1 []))=⟨(mJ ⟨⟨⟨⟨Q1,I,f⟩,J,L,⟨M,N,t,O,P⟩,⟨Q,z,R,S⟩,⟨T,Q2,a,b⟩⟩,q,n,A,B⟩,⟨⟨⟨Q3,W,c⟩,X,Q4,⟨Z,oE,Q5,oD,k8⟩,⟨k9,D,lf,jv⟩,⟨ju,iW,d,i⟩⟩,o,p,F,G⟩⟩ (br (ws.getD (aC 1) []))).l,tOk⟩from if_pos wQ]at hK;exact hK);clear hK;repeat'(conv=>whnf);first|refine U0 ?_ ?_;exact gS|apply gU;exact gA|refine gB ?_ ?_<;>intro hb h<;>try exact bG
     refine dS.mk ?_ ?_
     .intro K' hF;(conv at hF=>whnf);repeat((first|have hF:=lq hF|have hF:=mR hF|have hF:=zy hF Y6);(conv at hF=>whnf))
      have hF:=qO hF;repeat'(conv=>whnf);first|refine U0 ?_ ?_;exact gS|refine U1 ?_|apply gU;exact gA|intro y h0 h1
      exact hF
     .repeat'(conv=>whnf);first|refine U0 ?_ ?_;exact gS|apply gU;exact gA|intro y h0 h1
      refine dS.mk ?_ ?_
      .intro K' hF;(conv at hF=>whnf);repeat((have hF:=lq hF);(conv at hF=>whnf))
       have hF:=qO hF;repeat'(conv=>whnf);first|refine U0 ?_ ?_;exact gS|refine U1 ?_|intro y h0 h1
       exact hF
      .repeat'(conv=>whnf);first|refine U0 ?_ ?_;exact gS|refine U1 ?_|(refine na ?_ ?_;focus(simp only[gQ,eq_self,wQ];done))|intro y h0 h1
       all_goals
        refine gP hA ?_;repeat' first|exact gR|refine U0 ?_ ?_
        all_goals rfl|false=>
     have hA:=lX (s:=SL) (by rw[show S7 ⟨⟨⟨⟨Q1,I,f⟩,J,L,⟨M,N,t,O,P⟩,⟨Q,z,R,S⟩,⟨T,Q2,a,b⟩⟩,q,n,A,B⟩,⟨⟨⟨Q3,W,c⟩,X,Q4,⟨Z,oE,Q5,oD,k8⟩,⟨k9,D,lf,jv⟩,⟨ju,iW,d,i⟩⟩,o,p,F,G⟩⟩ (br (ws.getD 1 []))=⟨⟨⟨⟨⟨Q1,I,f⟩,J,L,⟨M,N,t,O,P⟩,⟨Q,z,R,S⟩,⟨T,Q2,a,b⟩⟩,q,n,A,B⟩,⟨⟨⟨Q3,W,c⟩,X,Q4,⟨Z,oE,Q5,oD,k8⟩,⟨k9,D,lf,jv⟩,⟨ju,iW,d,i⟩⟩,o,p,F,G⟩⟩,SL⟩from if_neg (bV.1 wQ)]at hK;exact hK);clear hK;repeat'(conv=>whnf);first|refine U0 ?_ ?_;exact gS|apply gU;exact gA|refine gB ?_ ?_<;>intro hb h<;>try exact bG
     refine dS.mk ?_ ?_
     .intro K' hF;(conv at hF=>whnf);repeat((first|have hF:=lq hF|have hF:=mR hF|have hF:=zy hF Y6);(conv at hF=>whnf))
      have hF:=qO hF;repeat'(conv=>whnf);first|refine U0 ?_ ?_;exact gS|refine U1 ?_|apply gU;exact gA|intro y h0 h1
      exact hF
     .repeat'(conv=>whnf);first|refine U0 ?_ ?_;exact gS|apply gU;exact gA|intro y h0 h1
      refine dS.mk ?_ ?_
      .intro K' hF;(conv at hF=>whnf);repeat((have hF:=lq hF);(conv at hF=>whnf))
       have hF:=qO hF;repeat'(conv=>whnf);first|refine U0 ?_ ?_;exact gS|refine U1 ?_|intro y h0 h1
       exact hF
      .repeat'(conv=>whnf);first|refine U0 ?_ ?_;exact gS|refine U1 ?_|(refine qM ?_ ?_;focus(simp only[gQ,eq_self,wQ];done))|intro y h0 h1
       all_goals
        refine gP hA ?_;repeat' first|exact gR|refine U0 ?_ ?_
        all_goals rfl
   .have q0:decide (0<=br (ws.getD (aC 1) []))=H:=decide_eq_false hn0;have hA:=lX (s:=SL) (by rw[show S7 ⟨⟨⟨⟨Q1,I,f⟩,J,L,⟨M,N,t,O,P⟩,⟨Q,z,R,S⟩,⟨T,Q2,a,b⟩⟩,q,n,A,B⟩,⟨⟨⟨Q3,W,c⟩,X,Q4,⟨Z,oE,Q5,oD,k8⟩,⟨k9,D,lf,jv⟩,⟨ju,iW,d,i⟩⟩,o,p,F,G⟩⟩ (br (ws.getD 1 []))=⟨⟨⟨⟨⟨Q1,I,f⟩,J,L,⟨M,N,t,O,P⟩,⟨Q,z,R,S⟩,⟨T,Q2,a,b⟩⟩,q,n,A,B⟩,⟨⟨⟨Q3,W,c⟩,X,Q4,⟨Z,oE,Q5,oD,k8⟩,⟨k9,D,lf,jv⟩,⟨ju,iW,d,i⟩⟩,o,p,F,G⟩⟩,SL⟩from znK hn0]at hK;exact hK);clear hK;repeat'(conv=>whnf);first|refine U0 ?_ ?_;exact gS|apply gU;exact gA|refine gB ?_ ?_<;>intro hb h<;>try exact bG
    refine dS.mk ?_ ?_
    .intro K' hF;clear hF;repeat'(conv=>whnf);first|refine U0 ?_ ?_;exact gS|apply gU;exact gA|intro y h0 h1
     all_goals
      refine gP hA ?_;repeat' first|exact gR|refine U0 ?_ ?_
      all_goals rfl
    .repeat'(conv=>whnf);first|refine U0 ?_ ?_;exact gS|apply gU;exact gA|intro y h0 h1
     all_goals
      refine gP hA ?_;repeat' first|exact gR|refine U0 ?_ ?_
      all_goals rfl
  .rw[if_neg hc]at hW;have hW:=hW rfl;clear hK;repeat'(conv=>whnf);first|refine U0 ?_ ?_;exact gS|apply gU;exact gA|refine gB ?_ ?_<;>intro hb h<;>try exact bG
   all_goals
    refine gP hW ?_;repeat' first|exact gR|refine U0 ?_ ?_
    all_goals rfl
 .rw[Qp w0]at hK hW;by_cases hc:3<=ws.length/\pz (ws.getD 1 [])=E
  .rw[if_pos hc]at hK;clear hW;have⟨hc,hs⟩:=hc;have hs:pz (ws.getD (aC 1) [])=E:=hs;rcases YX hs with⟨w1,s1,s2⟩|⟨w1,s1,s2⟩
   .rw[show Aj ⟨⟨⟨⟨Q1,I,f⟩,J,L,⟨M,N,t,O,P⟩,⟨Q,z,R,S⟩,⟨T,Q2,a,b⟩⟩,q,n,A,B⟩,⟨⟨⟨Q3,W,c⟩,X,Q4,⟨Z,oE,Q5,oD,k8⟩,⟨k9,D,lf,jv⟩,⟨ju,iW,d,i⟩⟩,o,p,F,G⟩⟩ (ws.getD 1 []) ((ws.drop 2).map br)=_ from(congrArg (λw=>Aj ⟨⟨⟨⟨Q1,I,f⟩,J,L,⟨M,N,t,O,P⟩,⟨Q,z,R,S⟩,⟨T,Q2,a,b⟩⟩,q,n,A,B⟩,⟨⟨⟨Q3,W,c⟩,X,Q4,⟨Z,oE,Q5,oD,k8⟩,⟨k9,D,lf,jv⟩,⟨ju,iW,d,i⟩⟩,o,p,F,G⟩⟩ w ((ws.drop 2).map br)) w1).trans (zeX ⟨⟨⟨⟨Q1,I,f⟩,J,L,⟨M,N,t,O,P⟩,⟨Q,z,R,S⟩,⟨T,Q2,a,b⟩⟩,q,n,A,B⟩,⟨⟨⟨Q3,W,c⟩,X,Q4,⟨Z,oE,Q5,oD,k8⟩,⟨k9,D,lf,jv⟩,⟨ju,iW,d,i⟩⟩,o,p,F,G⟩⟩ _)]at hK;have hY:∀m,m=(ws.drop 2).map br->(dZ ⟨⟨⟨Q3,W,c⟩,X,Q4,⟨Z,oE,Q5,oD,k8⟩,⟨k9,D,lf,jv⟩,⟨ju,iW,d,i⟩⟩,o,p,F,G⟩ m).ok=E->K (parts E ⟨⟨⟨Q1,I,f⟩,J,L,⟨M,N,t,O,P⟩,⟨Q,z,R,S⟩,⟨T,Q2,a,b⟩⟩,q,n,A,B⟩++parts H (dZ ⟨⟨⟨Q3,W,c⟩,X,Q4,⟨Z,oE,Q5,oD,k8⟩,⟨k9,D,lf,jv⟩,⟨ju,iW,d,i⟩⟩,o,p,F,G⟩ m).x) tOk:=λm e h=>by subst e;rw[if_pos h]at hK;exact zos hK
    have hN:(dZ ⟨⟨⟨Q3,W,c⟩,X,Q4,⟨Z,oE,Q5,oD,k8⟩,⟨k9,D,lf,jv⟩,⟨ju,iW,d,i⟩⟩,o,p,F,G⟩ ((ws.drop 2).map br)).ok=H->K (aP 44 U) SL:=λh=>by rw[if_neg (bV.1 h)]at hK;exact lX hK
    clear hK;repeat'(conv=>whnf);first|refine U0 ?_ ?_;exact gS|apply gU;exact gA|refine gB ?_ ?_<;>intro hb h<;>try exact bG
    refine dt.un 1 ?_;repeat'(conv=>whnf);first|refine U0 ?_ ?_;exact gS|refine gB ?_ ?_<;>intro hb h<;>try exact bG
    rotate_left
    .have hA:=hN (GY (k:=0) (by simp;omega) (by rw[AE Y0];exact h));refine gP hA ?_;repeat' first|exact gR|refine U0 ?_ ?_
     all_goals rfl
    have Zl:((ws.drop 2).map br).take 1=[br (ws.getD (aC 2+aC 0) [])]:=CI (k:=0) Y0;refine Lc.mI {k:Nat//1<=k/\k<=ws.length-2} (λ⟨k,_⟩=>[(6,.l (.s 5 0)),(17,.j),(23,.l (.v (.int .i64 k)))]) (λ⟨k,_⟩=>[(5,.r 0 3 (.bn (((ws.drop 2).map br).take k)))]) (λ⟨k,_⟩=>ws.length-2-k) ⟨1,Y0⟩ [0,1,2,3,4,5] ?_ ?_;.repeat'(first|(refine U0 ?_ ?_;focus(first|with_reducible rfl|exactλ_ h=>h|exact⟨⟨rfl,rfl,rfl,rfl⟩,aA⟩|(simp only[Zl];done)|(simp;done)|exact⟨rfl,aA⟩|exact⟨rfl,rfl,aA⟩|rfl))|exact aA)
    rintro⟨k,hk1,hk⟩;have hl5:(((ws.drop 2).map br).take k).length<=100001:=by simp;omega
    repeat'(conv=>whnf);first|refine U0 ?_ ?_;exact gS|refine gB ?_ ?_<;>intro hb h<;>try exact bG
    .have wS:k<ws.length-2:=Y0;have oF:=CI wS;(refine ae ⟨k+1,Y0⟩ (ae [0,1,2,3,4,5] (aB ?_ ?_)))
     .show ws.length-2-(k+1)<ws.length-2-k;omega
     .repeat'(first|(refine U0 ?_ ?_;focus(first|with_reducible rfl|exactλ_ h=>h|exact⟨⟨rfl,rfl,rfl,rfl⟩,aA⟩|(simp only[oF];done)|(simp;done)|exact⟨rfl,aA⟩|exact⟨rfl,rfl,aA⟩|rfl))|exact aA)
    .have wS:k<ws.length-2:=Y0;have hA:=hN (GY (k:=k) (by simpa using wS) (by rw[AE wS];exact h));refine gP hA ?_;repeat' first|exact gR|refine U0 ?_ ?_
     all_goals rfl
    all_goals
     have wS:((ws.drop 2).map br).take k=(ws.drop 2).map br:=aM (by simp;omega)
     first |(
        refine gP (hY _ wS Y3) ?_;repeat' first|exact gR|refine U0 ?_ ?_
        all_goals rfl)|(
        refine gP (hN (by rw[<-wS];assumption)) ?_;repeat' first|exact gR|refine U0 ?_ ?_
        all_goals rfl)
   .rw[show Aj ⟨⟨⟨⟨Q1,I,f⟩,J,L,⟨M,N,t,O,P⟩,⟨Q,z,R,S⟩,⟨T,Q2,a,b⟩⟩,q,n,A,B⟩,⟨⟨⟨Q3,W,c⟩,X,Q4,⟨Z,oE,Q5,oD,k8⟩,⟨k9,D,lf,jv⟩,⟨ju,iW,d,i⟩⟩,o,p,F,G⟩⟩ (ws.getD 1 []) ((ws.drop 2).map br)=_ from zeW ⟨⟨⟨⟨Q1,I,f⟩,J,L,⟨M,N,t,O,P⟩,⟨Q,z,R,S⟩,⟨T,Q2,a,b⟩⟩,q,n,A,B⟩,⟨⟨⟨Q3,W,c⟩,X,Q4,⟨Z,oE,Q5,oD,k8⟩,⟨k9,D,lf,jv⟩,⟨ju,iW,d,i⟩⟩,o,p,F,G⟩⟩ w1 _]at hK;have hY:∀m,m=(ws.drop 2).map br->(dZ ⟨⟨⟨Q1,I,f⟩,J,L,⟨M,N,t,O,P⟩,⟨Q,z,R,S⟩,⟨T,Q2,a,b⟩⟩,q,n,A,B⟩ m).ok=E->K (parts H (dZ ⟨⟨⟨Q1,I,f⟩,J,L,⟨M,N,t,O,P⟩,⟨Q,z,R,S⟩,⟨T,Q2,a,b⟩⟩,q,n,A,B⟩ m).x++parts E ⟨⟨⟨Q3,W,c⟩,X,Q4,⟨Z,oE,Q5,oD,k8⟩,⟨k9,D,lf,jv⟩,⟨ju,iW,d,i⟩⟩,o,p,F,G⟩) tOk:=λm e h=>by subst e;rw[if_pos h]at hK;exact zor hK
    have hN:(dZ ⟨⟨⟨Q1,I,f⟩,J,L,⟨M,N,t,O,P⟩,⟨Q,z,R,S⟩,⟨T,Q2,a,b⟩⟩,q,n,A,B⟩ ((ws.drop 2).map br)).ok=H->K (aP 44 U) SL:=λh=>by rw[if_neg (bV.1 h)]at hK;exact lX hK
    clear hK;repeat'(conv=>whnf);first|refine U0 ?_ ?_;exact gS|apply gU;exact gA|refine gB ?_ ?_<;>intro hb h<;>try exact bG
    refine dt.un 1 ?_;repeat'(conv=>whnf);first|refine U0 ?_ ?_;exact gS|refine gB ?_ ?_<;>intro hb h<;>try exact bG
    rotate_left
    .have hA:=hN (GY (k:=0) (by simp;omega) (by rw[AE Y0];exact h));refine gP hA ?_;repeat' first|exact gR|refine U0 ?_ ?_
     all_goals rfl
    have Zl:((ws.drop 2).map br).take 1=[br (ws.getD (aC 2+aC 0) [])]:=CI (k:=0) Y0;apply Lc.mI {k:Nat//1<=k/\k<=ws.length-2} (λ⟨k,_⟩=>[(6,.l (.s 5 0)),(17,.j),(23,.l (.v (.int .i64 k)))]) (λ⟨k,_⟩=>[(5,.r 0 3 (.bn (((ws.drop 2).map br).take k)))]) (λ⟨k,_⟩=>ws.length-2-k) ⟨1,Y0⟩ [0,1,2,3,4,5];.repeat'(first|(apply U0;focus(first|with_reducible rfl|exactλ_ h=>h|exact⟨⟨rfl,rfl,rfl,rfl⟩,aA⟩|(simp only[Zl];done)|(simp;done)|exact⟨rfl,aA⟩|exact⟨rfl,rfl,aA⟩|rfl))|exact aA)
    rintro⟨k,hk1,hk⟩;have hl5:(((ws.drop 2).map br).take k).length<=100001:=by simp;omega
    repeat'(conv=>whnf);first|refine U0 ?_ ?_;exact gS|refine gB ?_ ?_<;>intro hb h<;>try exact bG
    .have wS:k<ws.length-2:=Y0;have oF:=CI wS;(refine ae ⟨k+1,Y0⟩ (ae [0,1,2,3,4,5] (aB ?_ ?_)))
     .show ws.length-2-(k+1)<ws.length-2-k;omega
     .repeat'(first|(refine U0 ?_ ?_;focus(first|with_reducible rfl|exactλ_ h=>h|exact⟨⟨rfl,rfl,rfl,rfl⟩,aA⟩|(simp only[oF];done)|(simp;done)|exact⟨rfl,aA⟩|exact⟨rfl,rfl,aA⟩|rfl))|exact aA)
    .have wS:k<ws.length-2:=Y0;have hA:=hN (GY (k:=k) (by simpa using wS) (by rw[AE wS];exact h));apply gP hA;repeat' first|exact gR|apply U0
     all_goals rfl
    all_goals
     have wS:((ws.drop 2).map br).take k=(ws.drop 2).map br:=aM (by simp;omega)
     first |(
        apply gP (hY _ wS Y3);repeat' first|exact gR|apply U0
        all_goals rfl)|(
        apply gP (hN (by rw[<-wS];assumption));repeat' first|exact gR|apply U0
        all_goals exact rfl)
  .rw[if_neg hc]at hW;have hW:=hW rfl;clear hK;by_cases hc2:3<=ws.length
   .have hs:pz (ws.getD (aC 1) [])=H:=bV.2 λe=>hc ⟨hc2,e⟩;have⟨s1,s2⟩:=gC.1 hs;repeat'(conv=>whnf);first|apply U0;exact gS|apply gU;exact gA|refine gB ?_ ?_<;>intro hb h<;>try exact bG
    all_goals
     refine gP hW ?_;repeat' first|exact gR|apply U0
     all_goals exact rfl
   .skip;repeat'(conv=>whnf);first|apply U0;exact gS|apply gU;exact gA|refine gB ?_ ?_<;>intro hb h<;>try exact bG
    all_goals
     refine gP hW ?_;repeat' first|exact gR|apply U0
     all_goals exact rfl
 .rw[Qq w0]at hK hW;by_cases hc:ws.length=3/\pz (ws.getD 1 [])=E
  .rw[if_pos hc]at hK;clear hW;have⟨hc,hs⟩:=hc;have hs:pz (ws.getD (aC 1) [])=E:=hs;rcases YX hs with⟨w1,s1,s2⟩|⟨w1,s1,s2⟩
   .have e:Al ⟨⟨⟨⟨Q1,I,f⟩,J,L,⟨M,N,t,O,P⟩,⟨Q,z,R,S⟩,⟨T,Q2,a,b⟩⟩,q,n,A,B⟩,⟨⟨⟨Q3,W,c⟩,X,Q4,⟨Z,oE,Q5,oD,k8⟩,⟨k9,D,lf,jv⟩,⟨ju,iW,d,i⟩⟩,o,p,F,G⟩⟩ (ws.getD 1 []) (br (ws.getD 2 []))=(if(aZ ⟨⟨⟨Q3,W,c⟩,X,Q4,⟨Z,oE,Q5,oD,k8⟩,⟨k9,D,lf,jv⟩,⟨ju,iW,d,i⟩⟩,o,p,F,G⟩ (br (ws.getD (aC 2) []))).ok=E then(⟨⟨⟨⟨⟨Q1,I,f⟩,J,L,⟨M,N,t,O,P⟩,⟨Q,z,R,S⟩,⟨T,Q2,a,b⟩⟩,q,n,A,B⟩,(aZ ⟨⟨⟨Q3,W,c⟩,X,Q4,⟨Z,oE,Q5,oD,k8⟩,⟨k9,D,lf,jv⟩,⟨ju,iW,d,i⟩⟩,o,p,F,G⟩ (br (ws.getD (aC 2) []))).x⟩,iX++gZ (aZ ⟨⟨⟨Q3,W,c⟩,X,Q4,⟨Z,oE,Q5,oD,k8⟩,⟨k9,D,lf,jv⟩,⟨ju,iW,d,i⟩⟩,o,p,F,G⟩ (br (ws.getD (aC 2) []))).l⟩:SG)else⟨⟨⟨⟨⟨Q1,I,f⟩,J,L,⟨M,N,t,O,P⟩,⟨Q,z,R,S⟩,⟨T,Q2,a,b⟩⟩,q,n,A,B⟩,⟨⟨⟨Q3,W,c⟩,X,Q4,⟨Z,oE,Q5,oD,k8⟩,⟨k9,D,lf,jv⟩,⟨ju,iW,d,i⟩⟩,o,p,F,G⟩⟩,SL⟩):=(congrArg (λw=>Al ⟨⟨⟨⟨Q1,I,f⟩,J,L,⟨M,N,t,O,P⟩,⟨Q,z,R,S⟩,⟨T,Q2,a,b⟩⟩,q,n,A,B⟩,⟨⟨⟨Q3,W,c⟩,X,Q4,⟨Z,oE,Q5,oD,k8⟩,⟨k9,D,lf,jv⟩,⟨ju,iW,d,i⟩⟩,o,p,F,G⟩⟩ w (br (ws.getD 2 []))) w1).trans (ze8 ⟨⟨⟨⟨Q1,I,f⟩,J,L,⟨M,N,t,O,P⟩,⟨Q,z,R,S⟩,⟨T,Q2,a,b⟩⟩,q,n,A,B⟩,⟨⟨⟨Q3,W,c⟩,X,Q4,⟨Z,oE,Q5,oD,k8⟩,⟨k9,D,lf,jv⟩,⟨ju,iW,d,i⟩⟩,o,p,F,G⟩⟩ _);rw[e]at hK;by_cases hn0:0<=br (ws.getD (aC 2) [])
    .have q0:decide (0<=br (ws.getD (aC 2) []))=E:=decide_eq_true hn0;cases wQ:(aZ ⟨⟨⟨Q3,W,c⟩,X,Q4,⟨Z,oE,Q5,oD,k8⟩,⟨k9,D,lf,jv⟩,⟨ju,iW,d,i⟩⟩,o,p,F,G⟩ (br (ws.getD (aC 2) []))).ok with
     |true=>
      rw[if_pos wQ]at hK;have hA:=zos hK;have hab:=(w9 wQ).2.2;have hln:=(xr ⟨⟨⟨Q3,W,c⟩,X,Q4,⟨Z,oE,Q5,oD,k8⟩,⟨k9,D,lf,jv⟩,⟨ju,iW,d,i⟩⟩,o,p,F,G⟩ (br (ws.getD (aC 2) []))).2;clear hK;repeat'(conv=>whnf);first|apply U0;exact gS|apply gU;exact gA|refine gB ?_ ?_<;>intro hb h<;>try exact bG
      refine dS.mk ?_ ?_
      .intro K' hF;(conv at hF=>whnf);repeat((first|have hF:=lq hF|have hF:=mR hF|have hF:=zy hF Y6);(conv at hF=>whnf))
       have hF:=qO hF;repeat'(conv=>whnf);first|apply U0;exact gS|apply U1|apply gU;exact gA|intro y h0 h1
       exact hF
      .repeat'(conv=>whnf);first|apply U0;exact gS|apply gU;exact gA|intro y h0 h1
       apply dS.mk
       .intro K' hF;(conv at hF=>whnf);repeat((have hF:=lq hF);(conv at hF=>whnf))
        have hF:=qO hF;repeat'(conv=>whnf);first|apply U0;exact gS|apply U1|intro y h0 h1
        exact hF
       .repeat'(conv=>whnf);first|apply U0;exact gS|apply U1|(apply na;focus(simp only[gQ,eq_self,wQ];done))|intro y h0 h1
        apply dt.mI {k:Nat//k<=(aZ ⟨⟨⟨Q3,W,c⟩,X,Q4,⟨Z,oE,Q5,oD,k8⟩,⟨k9,D,lf,jv⟩,⟨ju,iW,d,i⟩⟩,o,p,F,G⟩ (br (ws.getD (aC 2) []))).l.length} (λ⟨k,_⟩=>[(9,.l (.str (iX++gZ ((aZ ⟨⟨⟨Q3,W,c⟩,X,Q4,⟨Z,oE,Q5,oD,k8⟩,⟨k9,D,lf,jv⟩,⟨ju,iW,d,i⟩⟩,o,p,F,G⟩ (br (ws.getD (aC 2) []))).l.take k)))),(18,.j),(26,.j),(40,.l (.v (.int .i64 k)))]) (λ_=>[]) (λ⟨k,_⟩=>(aZ ⟨⟨⟨Q3,W,c⟩,X,Q4,⟨Z,oE,Q5,oD,k8⟩,⟨k9,D,lf,jv⟩,⟨ju,iW,d,i⟩⟩,o,p,F,G⟩ (br (ws.getD (aC 2) []))).l.length-k) ⟨0,a7 _⟩ [0,1,2,3,4,5,6,7,8,9];.repeat'(first|(apply U0;focus(first|with_reducible exact rfl|exactλ_ h=>h|(simp[cT];done)|exact⟨rfl,aA⟩|exact⟨rfl,rfl,aA⟩|exact rfl))|exact aA)
        rintro⟨k,hk⟩;have hl5:=AN ((aZ ⟨⟨⟨Q3,W,c⟩,X,Q4,⟨Z,oE,Q5,oD,k8⟩,⟨k9,D,lf,jv⟩,⟨ju,iW,d,i⟩⟩,o,p,F,G⟩ (br (ws.getD (aC 2) []))).l.take k);have hl6:((aZ ⟨⟨⟨Q3,W,c⟩,X,Q4,⟨Z,oE,Q5,oD,k8⟩,⟨k9,D,lf,jv⟩,⟨ju,iW,d,i⟩⟩,o,p,F,G⟩ (br (ws.getD (aC 2) []))).l.take k).length<=32:=by simp;omega
        have hl7:(iX++gZ ((aZ ⟨⟨⟨Q3,W,c⟩,X,Q4,⟨Z,oE,Q5,oD,k8⟩,⟨k9,D,lf,jv⟩,⟨ju,iW,d,i⟩⟩,o,p,F,G⟩ (br (ws.getD (aC 2) []))).l.take k)).length<=200:=by have:iX.length=4:=rfl;simp only[bJ];omega
        have hl8:=eJ ((aZ ⟨⟨⟨Q3,W,c⟩,X,Q4,⟨Z,oE,Q5,oD,k8⟩,⟨k9,D,lf,jv⟩,⟨ju,iW,d,i⟩⟩,o,p,F,G⟩ (br (ws.getD (aC 2) []))).l.getD ((k:Nat):Int).toNat 0).toNat;have hby:k<(aZ ⟨⟨⟨Q3,W,c⟩,X,Q4,⟨Z,oE,Q5,oD,k8⟩,⟨k9,D,lf,jv⟩,⟨ju,iW,d,i⟩⟩,o,p,F,G⟩ (br (ws.getD (aC 2) []))).l.length->0<=(aZ ⟨⟨⟨Q3,W,c⟩,X,Q4,⟨Z,oE,Q5,oD,k8⟩,⟨k9,D,lf,jv⟩,⟨ju,iW,d,i⟩⟩,o,p,F,G⟩ (br (ws.getD (aC 2) []))).l.getD ((k:Nat):Int).toNat 0/\(aZ ⟨⟨⟨Q3,W,c⟩,X,Q4,⟨Z,oE,Q5,oD,k8⟩,⟨k9,D,lf,jv⟩,⟨ju,iW,d,i⟩⟩,o,p,F,G⟩ (br (ws.getD (aC 2) []))).l.getD ((k:Nat):Int).toNat 0<1000:=λh=>Gv hab h;repeat'(conv=>whnf);first|refine U0 ?_ ?_;exact gS|refine gB ?_ ?_<;>intro hb h<;>try exact bG
        .have wS:k<(aZ ⟨⟨⟨Q3,W,c⟩,X,Q4,⟨Z,oE,Q5,oD,k8⟩,⟨k9,D,lf,jv⟩,⟨ju,iW,d,i⟩⟩,o,p,F,G⟩ (br (ws.getD (aC 2) []))).l.length:=Y0;have oF:iX++gZ ((aZ ⟨⟨⟨Q3,W,c⟩,X,Q4,⟨Z,oE,Q5,oD,k8⟩,⟨k9,D,lf,jv⟩,⟨ju,iW,d,i⟩⟩,o,p,F,G⟩ (br (ws.getD (aC 2) []))).l.take (k+1))=(iX++gZ ((aZ ⟨⟨⟨Q3,W,c⟩,X,Q4,⟨Z,oE,Q5,oD,k8⟩,⟨k9,D,lf,jv⟩,⟨ju,iW,d,i⟩⟩,o,p,F,G⟩ (br (ws.getD (aC 2) []))).l.take k))++(({data:=#[32]}:ByteArray).data.toList++lM ((aZ ⟨⟨⟨Q3,W,c⟩,X,Q4,⟨Z,oE,Q5,oD,k8⟩,⟨k9,D,lf,jv⟩,⟨ju,iW,d,i⟩⟩,o,p,F,G⟩ (br (ws.getD (aC 2) []))).l.getD ((k:Nat):Int).toNat 0).toNat):=QQ wS;(refine ae ⟨k+1,wS⟩ (ae [0,1,2,3,4,5,6,7,8,9] (aB ?_ ?_)))
         .show(aZ ⟨⟨⟨Q3,W,c⟩,X,Q4,⟨Z,oE,Q5,oD,k8⟩,⟨k9,D,lf,jv⟩,⟨ju,iW,d,i⟩⟩,o,p,F,G⟩ (br (ws.getD (aC 2) []))).l.length-(k+1)<(aZ ⟨⟨⟨Q3,W,c⟩,X,Q4,⟨Z,oE,Q5,oD,k8⟩,⟨k9,D,lf,jv⟩,⟨ju,iW,d,i⟩⟩,o,p,F,G⟩ (br (ws.getD (aC 2) []))).l.length-k;omega
         .repeat'((apply U0;focus(first|with_reducible exact rfl|exactλ_ h=>h|(simp;done)|exact⟨rfl,aA⟩|exact⟨rfl,rfl,aA⟩|exact rfl)))
          apply U0 (congrArg LV.str oF);repeat'(first|(apply U0;focus(first|exact⟨rfl,aA⟩|exact⟨rfl,rfl,aA⟩|exact rfl))|exact aA)
        all_goals
         have wS:(aZ ⟨⟨⟨Q3,W,c⟩,X,Q4,⟨Z,oE,Q5,oD,k8⟩,⟨k9,D,lf,jv⟩,⟨ju,iW,d,i⟩⟩,o,p,F,G⟩ (br (ws.getD (aC 2) []))).l.take k=(aZ ⟨⟨⟨Q3,W,c⟩,X,Q4,⟨Z,oE,Q5,oD,k8⟩,⟨k9,D,lf,jv⟩,⟨ju,iW,d,i⟩⟩,o,p,F,G⟩ (br (ws.getD (aC 2) []))).l:=aM Y0;apply gP hA;repeat' first|exact gR|apply U0
         all_goals rw[wS]|false=>
      rw[if_neg (bV.1 wQ)]at hK;have hA:=lX hK;clear hK;repeat'(conv=>whnf);first|apply U0;exact gS|apply gU;exact gA|refine gB ?_ ?_<;>intro hb h<;>try exact bG
      refine dS.mk ?_ ?_
      .intro K' hF;(conv at hF=>whnf);repeat((first|have hF:=lq hF|have hF:=mR hF|have hF:=zy hF Y6);(conv at hF=>whnf))
       have hF:=qO hF;repeat'(conv=>whnf);first|apply U0;exact gS|apply U1|apply gU;exact gA|intro y h0 h1
       exact hF
      .repeat'(conv=>whnf);first|apply U0;exact gS|apply gU;exact gA|intro y h0 h1
       apply dS.mk
       .intro K' hF;(conv at hF=>whnf);repeat((have hF:=lq hF);(conv at hF=>whnf))
        have hF:=qO hF;repeat'(conv=>whnf);first|apply U0;exact gS|apply U1|intro y h0 h1
        exact hF
       .repeat'(conv=>whnf);first|apply U0;exact gS|apply U1|(apply qM;focus(simp only[gQ,eq_self,wQ];done))|intro y h0 h1
        all_goals
         apply gP hA;repeat' first|exact gR|apply U0
         all_goals exact rfl
    .have q0:decide (0<=br (ws.getD (aC 2) []))=H:=decide_eq_false hn0;rw[if_neg (bV.1 (zay hn0))]at hK;have hA:=lX hK;clear hK;repeat'(conv=>whnf);first|apply U0;exact gS|apply gU;exact gA|refine gB ?_ ?_<;>intro hb h<;>try exact bG
     refine dS.mk ?_ ?_
     .intro K' hF;clear hF;repeat'(conv=>whnf);first|apply U0;exact gS|apply gU;exact gA|intro y h0 h1
      all_goals
       apply gP hA;repeat' first|exact gR|apply U0
       all_goals exact rfl
     .repeat'(conv=>whnf);first|apply U0;exact gS|apply gU;exact gA|intro y h0 h1
      all_goals
       apply gP hA;repeat' first|exact gR|apply U0
       all_goals exact rfl
   .have e:Al ⟨⟨⟨⟨Q1,I,f⟩,J,L,⟨M,N,t,O,P⟩,⟨Q,z,R,S⟩,⟨T,Q2,a,b⟩⟩,q,n,A,B⟩,⟨⟨⟨Q3,W,c⟩,X,Q4,⟨Z,oE,Q5,oD,k8⟩,⟨k9,D,lf,jv⟩,⟨ju,iW,d,i⟩⟩,o,p,F,G⟩⟩ (ws.getD 1 []) (br (ws.getD 2 []))=(if(aZ ⟨⟨⟨Q1,I,f⟩,J,L,⟨M,N,t,O,P⟩,⟨Q,z,R,S⟩,⟨T,Q2,a,b⟩⟩,q,n,A,B⟩ (br (ws.getD (aC 2) []))).ok=E then(⟨⟨(aZ ⟨⟨⟨Q1,I,f⟩,J,L,⟨M,N,t,O,P⟩,⟨Q,z,R,S⟩,⟨T,Q2,a,b⟩⟩,q,n,A,B⟩ (br (ws.getD (aC 2) []))).x,⟨⟨⟨Q3,W,c⟩,X,Q4,⟨Z,oE,Q5,oD,k8⟩,⟨k9,D,lf,jv⟩,⟨ju,iW,d,i⟩⟩,o,p,F,G⟩⟩,iX++gZ (aZ ⟨⟨⟨Q1,I,f⟩,J,L,⟨M,N,t,O,P⟩,⟨Q,z,R,S⟩,⟨T,Q2,a,b⟩⟩,q,n,A,B⟩ (br (ws.getD (aC 2) []))).l⟩:SG)else⟨⟨⟨⟨⟨Q1,I,f⟩,J,L,⟨M,N,t,O,P⟩,⟨Q,z,R,S⟩,⟨T,Q2,a,b⟩⟩,q,n,A,B⟩,⟨⟨⟨Q3,W,c⟩,X,Q4,⟨Z,oE,Q5,oD,k8⟩,⟨k9,D,lf,jv⟩,⟨ju,iW,d,i⟩⟩,o,p,F,G⟩⟩,SL⟩):=ze7 ⟨⟨⟨⟨Q1,I,f⟩,J,L,⟨M,N,t,O,P⟩,⟨Q,z,R,S⟩,⟨T,Q2,a,b⟩⟩,q,n,A,B⟩,⟨⟨⟨Q3,W,c⟩,X,Q4,⟨Z,oE,Q5,oD,k8⟩,⟨k9,D,lf,jv⟩,⟨ju,iW,d,i⟩⟩,o,p,F,G⟩⟩ w1 _;rw[e]at hK;by_cases hn0:0<=br (ws.getD (aC 2) [])
    .have q0:decide (0<=br (ws.getD (aC 2) []))=E:=decide_eq_true hn0;cases wQ:(aZ ⟨⟨⟨Q1,I,f⟩,J,L,⟨M,N,t,O,P⟩,⟨Q,z,R,S⟩,⟨T,Q2,a,b⟩⟩,q,n,A,B⟩ (br (ws.getD (aC 2) []))).ok with
     |true=>
      rw[if_pos wQ]at hK;have hA:=zor hK;have hab:=(w9 wQ).2.2;have hln:=(xr ⟨⟨⟨Q1,I,f⟩,J,L,⟨M,N,t,O,P⟩,⟨Q,z,R,S⟩,⟨T,Q2,a,b⟩⟩,q,n,A,B⟩ (br (ws.getD (aC 2) []))).2;clear hK;repeat'(conv=>whnf);first|apply U0;exact gS|apply gU;exact gA|refine gB ?_ ?_<;>intro hb h<;>try exact bG
      refine dS.mk ?_ ?_
      .intro K' hF;(conv at hF=>whnf);repeat((first|have hF:=lq hF|have hF:=mR hF|have hF:=zy hF Y6);(conv at hF=>whnf))
       have hF:=qO hF;repeat'(conv=>whnf);first|apply U0;exact gS|apply U1|apply gU;exact gA|intro y h0 h1
       exact hF
      .repeat'(conv=>whnf);first|apply U0;exact gS|apply gU;exact gA|intro y h0 h1
       apply dS.mk
       .intro K' hF;(conv at hF=>whnf);repeat((have hF:=lq hF);(conv at hF=>whnf))
        have hF:=qO hF;repeat'(conv=>whnf);first|apply U0;exact gS|apply U1|intro y h0 h1
        exact hF
       .repeat'(conv=>whnf);first|apply U0;exact gS|apply U1|(apply na;focus(simp only[gQ,eq_self,wQ];done))|intro y h0 h1
        apply dt.mI {k:Nat//k<=(aZ ⟨⟨⟨Q1,I,f⟩,J,L,⟨M,N,t,O,P⟩,⟨Q,z,R,S⟩,⟨T,Q2,a,b⟩⟩,q,n,A,B⟩ (br (ws.getD (aC 2) []))).l.length} (λ⟨k,_⟩=>[(9,.l (.str (iX++gZ ((aZ ⟨⟨⟨Q1,I,f⟩,J,L,⟨M,N,t,O,P⟩,⟨Q,z,R,S⟩,⟨T,Q2,a,b⟩⟩,q,n,A,B⟩ (br (ws.getD (aC 2) []))).l.take k)))),(18,.j),(26,.j),(40,.l (.v (.int .i64 k)))]) (λ_=>[]) (λ⟨k,_⟩=>(aZ ⟨⟨⟨Q1,I,f⟩,J,L,⟨M,N,t,O,P⟩,⟨Q,z,R,S⟩,⟨T,Q2,a,b⟩⟩,q,n,A,B⟩ (br (ws.getD (aC 2) []))).l.length-k) ⟨0,a7 _⟩ [0,1,2,3,4,5,6,7,8,9];.repeat'(first|(apply U0;focus(first|with_reducible exact rfl|exactλ_ h=>h|(simp[cT];done)|exact⟨rfl,aA⟩|exact⟨rfl,rfl,aA⟩|exact rfl))|exact aA)
        rintro⟨k,hk⟩;have hl5:=AN ((aZ ⟨⟨⟨Q1,I,f⟩,J,L,⟨M,N,t,O,P⟩,⟨Q,z,R,S⟩,⟨T,Q2,a,b⟩⟩,q,n,A,B⟩ (br (ws.getD (aC 2) []))).l.take k);have hl6:((aZ ⟨⟨⟨Q1,I,f⟩,J,L,⟨M,N,t,O,P⟩,⟨Q,z,R,S⟩,⟨T,Q2,a,b⟩⟩,q,n,A,B⟩ (br (ws.getD (aC 2) []))).l.take k).length<=32:=by simp;omega
        have hl7:(iX++gZ ((aZ ⟨⟨⟨Q1,I,f⟩,J,L,⟨M,N,t,O,P⟩,⟨Q,z,R,S⟩,⟨T,Q2,a,b⟩⟩,q,n,A,B⟩ (br (ws.getD (aC 2) []))).l.take k)).length<=200:=by have:iX.length=4:=rfl;simp only[bJ];omega
        have hl8:=eJ ((aZ ⟨⟨⟨Q1,I,f⟩,J,L,⟨M,N,t,O,P⟩,⟨Q,z,R,S⟩,⟨T,Q2,a,b⟩⟩,q,n,A,B⟩ (br (ws.getD (aC 2) []))).l.getD ((k:Nat):Int).toNat 0).toNat;have hby:k<(aZ ⟨⟨⟨Q1,I,f⟩,J,L,⟨M,N,t,O,P⟩,⟨Q,z,R,S⟩,⟨T,Q2,a,b⟩⟩,q,n,A,B⟩ (br (ws.getD (aC 2) []))).l.length->0<=(aZ ⟨⟨⟨Q1,I,f⟩,J,L,⟨M,N,t,O,P⟩,⟨Q,z,R,S⟩,⟨T,Q2,a,b⟩⟩,q,n,A,B⟩ (br (ws.getD (aC 2) []))).l.getD ((k:Nat):Int).toNat 0/\(aZ ⟨⟨⟨Q1,I,f⟩,J,L,⟨M,N,t,O,P⟩,⟨Q,z,R,S⟩,⟨T,Q2,a,b⟩⟩,q,n,A,B⟩ (br (ws.getD (aC 2) []))).l.getD ((k:Nat):Int).toNat 0<1000:=λh=>Gv hab h;repeat'(conv=>whnf);first|refine U0 ?_ ?_;exact gS|refine gB ?_ ?_<;>intro hb h<;>try exact bG
        .have wS:k<(aZ ⟨⟨⟨Q1,I,f⟩,J,L,⟨M,N,t,O,P⟩,⟨Q,z,R,S⟩,⟨T,Q2,a,b⟩⟩,q,n,A,B⟩ (br (ws.getD (aC 2) []))).l.length:=Y0;have oF:iX++gZ ((aZ ⟨⟨⟨Q1,I,f⟩,J,L,⟨M,N,t,O,P⟩,⟨Q,z,R,S⟩,⟨T,Q2,a,b⟩⟩,q,n,A,B⟩ (br (ws.getD (aC 2) []))).l.take (k+1))=(iX++gZ ((aZ ⟨⟨⟨Q1,I,f⟩,J,L,⟨M,N,t,O,P⟩,⟨Q,z,R,S⟩,⟨T,Q2,a,b⟩⟩,q,n,A,B⟩ (br (ws.getD (aC 2) []))).l.take k))++(({data:=#[32]}:ByteArray).data.toList++lM ((aZ ⟨⟨⟨Q1,I,f⟩,J,L,⟨M,N,t,O,P⟩,⟨Q,z,R,S⟩,⟨T,Q2,a,b⟩⟩,q,n,A,B⟩ (br (ws.getD (aC 2) []))).l.getD ((k:Nat):Int).toNat 0).toNat):=QQ wS;(refine ae ⟨k+1,wS⟩ (ae [0,1,2,3,4,5,6,7,8,9] (aB ?_ ?_)));.show(aZ ⟨⟨⟨Q1,I,f⟩,J,L,⟨M,N,t,O,P⟩,⟨Q,z,R,S⟩,⟨T,Q2,a,b⟩⟩,q,n,A,B⟩ (br (ws.getD (aC 2) []))).l.length-(k+1)<(aZ ⟨⟨⟨Q1,I,f⟩,J,L,⟨M,N,t,O,P⟩,⟨Q,z,R,S⟩,⟨T,Q2,a,b⟩⟩,q,n,A,B⟩ (br (ws.getD (aC 2) []))).l.length-k;omega
         .repeat'((apply U0;focus(first|with_reducible exact rfl|exactλ_ h=>h|(simp;done)|exact⟨rfl,aA⟩|exact⟨rfl,rfl,aA⟩|exact rfl)))
          apply U0 (congrArg LV.str oF);repeat'(first|(apply U0;focus(first|exact⟨rfl,aA⟩|exact⟨rfl,rfl,aA⟩|exact rfl))|exact aA)
        all_goals
         have wS:(aZ ⟨⟨⟨Q1,I,f⟩,J,L,⟨M,N,t,O,P⟩,⟨Q,z,R,S⟩,⟨T,Q2,a,b⟩⟩,q,n,A,B⟩ (br (ws.getD (aC 2) []))).l.take k=(aZ ⟨⟨⟨Q1,I,f⟩,J,L,⟨M,N,t,O,P⟩,⟨Q,z,R,S⟩,⟨T,Q2,a,b⟩⟩,q,n,A,B⟩ (br (ws.getD (aC 2) []))).l:=aM Y0;apply gP hA;repeat' first|exact gR|apply U0
         all_goals rw[wS]|false=>
      rw[if_neg (bV.1 wQ)]at hK;have hA:=lX hK;clear hK;repeat'(conv=>whnf);first|apply U0;exact gS|apply gU;exact gA|refine gB ?_ ?_<;>intro hb h<;>try exact bG
      refine dS.mk ?_ ?_
      .intro K' hF;(conv at hF=>whnf);repeat((first|have hF:=lq hF|have hF:=mR hF|have hF:=zy hF Y6);(conv at hF=>whnf))
       have hF:=qO hF;repeat'(conv=>whnf);first|apply U0;exact gS|apply U1|apply gU;exact gA|intro y h0 h1
       exact hF
      .repeat'(conv=>whnf);first|apply U0;exact gS|apply gU;exact gA|intro y h0 h1
       apply dS.mk
       .intro K' hF;(conv at hF=>whnf);repeat((have hF:=lq hF);(conv at hF=>whnf))
        have hF:=qO hF;repeat'(conv=>whnf);first|apply U0;exact gS|apply U1|intro y h0 h1
        exact hF
       .repeat'(conv=>whnf);first|apply U0;exact gS|apply U1|(apply qM;focus(simp only[gQ,eq_self,wQ];done))|intro y h0 h1
        all_goals
         apply gP hA;repeat' first|exact gR|apply U0
         all_goals exact rfl
    .have q0:decide (0<=br (ws.getD (aC 2) []))=H:=decide_eq_false hn0;rw[if_neg (bV.1 (zay hn0))]at hK;have hA:=lX hK;clear hK;repeat'(conv=>whnf);first|apply U0;exact gS|apply gU;exact gA|refine gB ?_ ?_<;>intro hb h<;>try exact bG
     refine dS.mk ?_ ?_
     .intro K' hF;clear hF;repeat'(conv=>whnf);first|apply U0;exact gS|apply gU;exact gA|intro y h0 h1
      all_goals
       apply gP hA;repeat' first|exact gR|apply U0
       all_goals exact rfl
     .repeat'(conv=>whnf);first|apply U0;exact gS|apply gU;exact gA|intro y h0 h1
      all_goals
       apply gP hA;repeat' first|exact gR|apply U0
       all_goals exact rfl
  .rw[if_neg hc]at hW;have hW:=hW rfl;clear hK;by_cases hc2:ws.length=3
   .have hs:pz (ws.getD (aC 1) [])=H:=bV.2 λe=>hc ⟨hc2,e⟩;have⟨s1,s2⟩:=gC.1 hs;repeat'(conv=>whnf);first|apply U0;exact gS|apply gU;exact gA|refine gB ?_ ?_<;>intro hb h<;>try exact bG
    all_goals
     refine gP hW ?_;repeat' first|exact gR|apply U0
     all_goals exact rfl
   .skip;repeat'(conv=>whnf);first|apply U0;exact gS|apply gU;exact gA|refine gB ?_ ?_<;>intro hb h<;>try exact bG
    all_goals
     refine gP hW ?_;repeat' first|exact gR|apply U0
     all_goals exact rfl
 .rw[Ma w0]at hK hW;by_cases hc:ws.length=2/\pz (ws.getD 1 [])=E
  .rw[if_pos hc]at hK;clear hW;have⟨hc,hs⟩:=hc;have hs:pz (ws.getD (aC 1) [])=E:=hs;rcases YX hs with⟨w1,s1,s2⟩|⟨w1,s1,s2⟩
   .have hA:=lX hK;rw[show nQ ⟨⟨⟨⟨Q1,I,f⟩,J,L,⟨M,N,t,O,P⟩,⟨Q,z,R,S⟩,⟨T,Q2,a,b⟩⟩,q,n,A,B⟩,⟨⟨⟨Q3,W,c⟩,X,Q4,⟨Z,oE,Q5,oD,k8⟩,⟨k9,D,lf,jv⟩,⟨ju,iW,d,i⟩⟩,o,p,F,G⟩⟩ (ws.getD 1 [])=⟨⟨⟨Q3,W,c⟩,X,Q4,⟨Z,oE,Q5,oD,k8⟩,⟨k9,D,lf,jv⟩,⟨ju,iW,d,i⟩⟩,o,p,F,G⟩from if_pos w1]at hA;clear hK;obtain⟨-,⟨a1,-⟩,⟨a2,-⟩,a3,a4⟩:=dw hvB;dsimp only at a1 a2 a3 a4;have b1:=eJ ((o.length:Nat):Int).toNat;have b2:=eJ ((p.length:Nat):Int).toNat;have b3:=eJ F.toNat;have b4:=eJ G.toNat;repeat'(conv=>whnf);first|apply U0;exact gS|apply U1|apply gU;exact gA|refine gB ?_ ?_<;>intro hb h<;>try exact bG
    all_goals
     refine gP hA ?_;repeat' first|exact gR|apply U0
     all_goals exact rfl
   .have hA:=lX hK;rw[show nQ ⟨⟨⟨⟨Q1,I,f⟩,J,L,⟨M,N,t,O,P⟩,⟨Q,z,R,S⟩,⟨T,Q2,a,b⟩⟩,q,n,A,B⟩,⟨⟨⟨Q3,W,c⟩,X,Q4,⟨Z,oE,Q5,oD,k8⟩,⟨k9,D,lf,jv⟩,⟨ju,iW,d,i⟩⟩,o,p,F,G⟩⟩ (ws.getD 1 [])=⟨⟨⟨Q1,I,f⟩,J,L,⟨M,N,t,O,P⟩,⟨Q,z,R,S⟩,⟨T,Q2,a,b⟩⟩,q,n,A,B⟩from if_neg w1]at hA;clear hK;obtain⟨-,⟨a1,-⟩,⟨a2,-⟩,a3,a4⟩:=dw hvA;dsimp only at a1 a2 a3 a4;have b1:=eJ ((q.length:Nat):Int).toNat;have b2:=eJ ((n.length:Nat):Int).toNat;have b3:=eJ A.toNat;have b4:=eJ B.toNat;repeat'(conv=>whnf);first|apply U0;exact gS|apply U1|apply gU;exact gA|refine gB ?_ ?_<;>intro hb h<;>try exact bG
    all_goals
     refine gP hA ?_;repeat' first|exact gR|apply U0
     all_goals exact rfl
  .rw[if_neg hc]at hW;have hW:=hW rfl;clear hK;by_cases hc2:ws.length=2
   .have hs:pz (ws.getD (aC 1) [])=H:=bV.2 λe=>hc ⟨hc2,e⟩;have⟨s1,s2⟩:=gC.1 hs;repeat'(conv=>whnf);first|apply U0;exact gS|apply gU;exact gA|refine gB ?_ ?_<;>intro hb h<;>try exact bG
    all_goals
     apply gP hW;repeat' first|exact gR|apply U0
     all_goals exact rfl
   .skip;repeat'(conv=>whnf);first|apply U0;exact gS|apply gU;exact gA|refine gB ?_ ?_<;>intro hb h<;>try exact bG
    all_goals
     refine gP hW ?_;repeat' first|exact gR|apply U0
     all_goals exact rfl
 .have e:pD ⟨⟨⟨⟨Q1,I,f⟩,J,L,⟨M,N,t,O,P⟩,⟨Q,z,R,S⟩,⟨T,Q2,a,b⟩⟩,q,n,A,B⟩,⟨⟨⟨Q3,W,c⟩,X,Q4,⟨Z,oE,Q5,oD,k8⟩,⟨k9,D,lf,jv⟩,⟨ju,iW,d,i⟩⟩,o,p,F,G⟩⟩ ws=⟨⟨⟨⟨⟨Q1,I,f⟩,J,L,⟨M,N,t,O,P⟩,⟨Q,z,R,S⟩,⟨T,Q2,a,b⟩⟩,q,n,A,B⟩,⟨⟨⟨Q3,W,c⟩,X,Q4,⟨Z,oE,Q5,oD,k8⟩,⟨k9,D,lf,jv⟩,⟨ju,iW,d,i⟩⟩,o,p,F,G⟩⟩,oJ⟩:=by unfold pD;have⟨w1,w2,w3,w4⟩:=w0;rw[if_neg (show¬ws.getD 0 []=MG from w1),if_neg (show¬ws.getD 0 []=y3 from w2),if_neg (show¬ws.getD 0 []=y4 from w3),if_neg (show¬ws.getD 0 []=tj from w4)]
  have hW:=hW e;clear hK;repeat'(conv=>whnf);first|apply U0;exact gS|apply gU;exact gA|intro y h0 h1
  all_goals
   apply gP hW;repeat' first|exact gR|apply U0
   all_goals exact rfl
def ziM:CS:=csM 52 zN zjh
def zfI(g:Rn.PG aa.prog Rn.PR)(a:Rn.bK aa.prog P' (Rn.Ask aa.prog) Fin)(J:ByteArray->Hp->Prop):mO aa.prog (Rn.Ask aa.prog) Fin J Rn.UO ziM:=zrk a (zjI g a)
end
def ziT(c:UInt8):∀(t:List UInt8),∀s∈dT c t,s.length<=t.length
 |[],s,h=>by
  have:s=[]:=by simpa[dT]using h
  simp[this]|x::r,s,h=>by
  have i:=ziT c r;have b:((dT c r).headD []).length<=r.length:=by cases d:dT c r with|nil=>simp|cons a l=>exact i a (by rw[d];simp)
  unfold dT at h;split at h
  .rcases bq.1 h with rfl|h;.simp
   .have:=i s h;simp;omega
  .rcases bq.1 h with rfl|h;.simpa using b
   .have:=i s (List.mem_of_mem_tail h);simp;omega
def zmW(c:UInt8)(t:List UInt8)(k:Nat):((dT c t).getD k []).length<=t.length:=by rw[bA];cases h:(dT c t)[k]? with|none=>simp|some s=>exact ziT c t s (fb h)
structure Ex9(L:List (List UInt8))(k:Nat)(y:SG):Prop where
 e:y=eS Eh (L.take k)v:iZ y.x=E
 l:y.s.length<=201*k
 ne:1<=k->y.s≠[]
def zuB(L:List (List UInt8)){d:fe}(h:d=Eh.a):Ex9 L 0 ⟨⟨d,d⟩,[]⟩:=⟨by subst h;rfl,by subst h;exact Xn,a7 _,λh=>Y0⟩
def ZP{L:List (List UInt8)}{k:Nat}{y z:SG}{x:lI}{l:List UInt8}(h:Ex9 L k y)(b:k<L.length)(c:z=lP y.x (L.getD k []))(g:x=z.x)(d:l=(y.s++z.s)++[10]):Ex9 L (k+1) ⟨x,l⟩:=by
 subst c g d;have e:L.take (k+1)=L.take k++[L.getD k []]:=by rw[cW,bA,aN b];rfl
 have a:=xa h.v (dT 32 (L.getD k []));refine⟨?_,a.1,?_,λ_=>Y1⟩
 .rw[e,Qr,<-h.e];simp
 .have:=h.l;have f:=a.2;simp only[lP,bJ,aW,fN];omega
def zer{t:List UInt8}{k:Nat}{y:SG}(h:Ex9 (dT 10 t) k y)(a:k=(dT 10 t).length-1)(l:¬400<t.length):gY t=y.s++((zhS++lM (fo y.x).length)++[10]):=by subst a;unfold gY;rw[if_neg l];unfold zbL;rw[List.dropLast_eq_take,<-h.e];rfl
def zxU:Nat->HB|0=>.b [.v (.pointer U),.v (.slice U 0 0)] 55|_+1=>.b [.p 11 0,.s 13 0] 55
def zxV:Nat->List UInt8->HB|0,_=>.d|_+1,l=>.r 0 5 (.bytes l)
section
variable{P':al}{Fin:Y->V->Prop}
def JV:fi aa.prog 20 [.inl .int,.inl .int] (λ⟨r,t,_⟩K=>af (r=4/\t=2)<|∀(d:fe)(o:Bool),d=Eh.a->K (YM.d ⟨d,o⟩)):=by rintro⟨r,t,_⟩K⟨⟨rfl,rfl⟩,hK⟩w v h g;exact M1 (4,2,()) K (hK _ _ rfl) w v h g
def Bs:CS:=cz [.inl .int,.inl .int] (λ⟨r,t,_⟩K=>af (r=4/\t=2)<|∀(d:fe)(o:Bool),d=Eh.a->K (YM.d ⟨d,o⟩))
def HF:bF aa.prog 20 Bs:=bc JV
def g10:bK:=[(20,Bs),(21,Xe),(26,Bw),(25,zbT)]
def zrx:aR aa.prog g10:=an ⟨HF,P0,HJ,Vh,aA⟩
def zqP:bK:=[(Rn.ccF,zqw)]
def zeB(g:Rn.PG aa.prog Rn.PR){J:ByteArray->Hp->Prop}:∀f c,(f,c)∈zqP->mO aa.prog (Rn.Ask aa.prog) Fin J f c:=qy ⟨zmS g,aA⟩
def j10:bK:=[(Rn.UO,ziM),(Rn.stF,zh8),(22,Wo fQ zqP [] [] eT f22),(24,Wo fQ zqP [] [] eT f24)]
def zrD(g:Rn.PG aa.prog Rn.PR)(a:Rn.bK aa.prog P' (Rn.Ask aa.prog) Fin){J:ByteArray->Hp->Prop}:∀f c,(f,c)∈j10->mO aa.prog (Rn.Ask aa.prog) Fin J f c:=qy ⟨zfI g a J,zjK g,u7 a CV aJ au (an (G:=[]) trivial) (zeB g) (Rn.fM func22) gK gK,u7 a CV aJ au (an (G:=[]) trivial) (zeB g) (Rn.fM func24) gK gK,aA⟩
def Tn(g:Rn.PG aa.prog Rn.PR)(S:Rn.bK aa.prog P' (Rn.Ask aa.prog) Fin):YL aa.prog (Rn.Ask aa.prog) Fin 12 [.inl .str] (λ⟨s,_⟩K=>K (.l (.str (gY s)))):=by
 refine Xh S CV aJ au zrx (zrD g S) (W0:=[]) (TR:=eT) (fn':=f12) (Rn.fM func12) rfl gK gK gK (lZ ?_);rintro⟨(s:List UInt8),_⟩K hK-;replace hK:K (.l (.str (gY s))):=hK;by_cases T:400<s.length
 .have e:gY s=[116,111,111,32,108,111,110,103,10]:=by unfold gY;rw[if_pos T]
  rw[e]at hK;repeat'(conv=>whnf);first|refine U0 ?_ ?_;exact gS|refine U1 ?_|apply gU;exact gA|refine gB ?_ ?_<;>intro i h<;>try exact bG|refineλ(y:Int)(m:0<=y)n=>?_
  (refine gI hK ?_;repeat' first|exact gR|refine U0 ?_ ?_)
 repeat'(conv=>whnf);first|refine U0 ?_ ?_;exact gS|refine U1 ?_|apply gU;exact gA|refine gB ?_ ?_<;>intro i h<;>try exact bG|refineλ(y:Int)(m:0<=y)n=>?_
 intro d ok hd;repeat'(conv=>whnf);first|refine U0 ?_ ?_;exact gS|refine U1 ?_|apply gU;exact gA|refine gB ?_ ?_<;>intro i h<;>try exact bG|refineλ(y:Int)(m:0<=y)n=>?_
 intro d2 P D;obtain rfl:d2=d:=D.trans hd.symm;repeat'(conv=>whnf);first|refine U0 ?_ ?_;exact gS|refine U1 ?_|apply gU;exact gA|refine gB ?_ ?_<;>intro i h<;>try exact bG|refineλ(y:Int)(m:0<=y)n=>?_
 intro L A;replace A:L=dT 10 s:=A;have hn:1<=L.length:=by rw[A];exact mV.2 (I1 10 s)
 have Q:L.length<=401:=by rw[A,Gb];have:s.count 10<=s.length:=mh;omega
 have F:∀k:Nat,(L.getD k []).length<=400:=λk=>by have:=zmW 10 s k;rw[A];omega
 repeat'(conv=>whnf);first|refine U0 ?_ ?_;exact gS|refine U1 ?_|apply gU;exact gA|refine gB ?_ ?_<;>intro i h<;>try exact bG|refineλ(y:Int)(m:0<=y)n=>?_
 repeat'(conv=>whnf);first|refine U0 ?_ ?_;exact gS|refine U1 ?_|apply gU;exact gA|refine gB ?_ ?_<;>intro i h<;>try exact bG|refineλ(y:Int)(m:0<=y)n=>?_
 refine dt.zhK 1 {p:Nat×SG//Ex9 L p.1 p.2/\p.1<=L.length-1} (λ⟨(k,_),_⟩=>[(3,.j),(5,.j),(17,.j),(21,.j),(23,.j),(24,.j),(25,.j),(26,.j),(36,.l (.v (.int .i64 k)))]) (λ⟨(k,y),_⟩=>[(0,.r 0 80 (.bC y.x.a.p.rc.items)),(1,.r 0 3 (.bn y.x.a.p.sd.items)),(2,.r 0 3 (.bn y.x.a.pM)),(3,.r 0 3 (.bn y.x.a.out)),(4,.d),(5,.r 0 80 (.bC y.x.b.p.rc.items)),(6,.r 0 3 (.bn y.x.b.p.sd.items)),(7,.r 0 3 (.bn y.x.b.pM)),(8,.r 0 3 (.bn y.x.b.out)),(9,.d),(10,.b (WW y.x 0 1 2 3 5 6 7 8) 52),(11,zxU k),(13,zxV k y.s)]) (λ⟨(k,_),_⟩=>L.length-k) ⟨(0,⟨⟨d2,d2⟩,[]⟩),zuB L hd,a7 _⟩ [0,1,2,3,4,5,6,7,8,9,10,11,12,13] ?_ ?_;.repeat' first|refine U0 ?_ ?_;exact gV|exact aA
 rintro⟨⟨k,y⟩,o,M⟩;have o:Ex9 L k y:=o;have M:k<=L.length-1:=M;have g4:iZ (SS y.x)=E:=o.v;unfold SS at g4;have g5:=o.l;have N:=F (aC 0+((k:Nat):Int).toNat);have O:aC 0+((k:Nat):Int).toNat=k:=Y1;have R:(fo (SS y.x)).length<=200:=EI y.x;have G:(lM ((fo (SS y.x)).length:Int).toNat).length<=3:=eJ (fo y.x).length;unfold SS at R G;cases k with
 |zero=>
  have B:y.s=[]:=List.eq_nil_of_length_eq_zero Y0;repeat'(conv=>whnf);first|refine U0 ?_ ?_;exact gS|refine U1 ?_|apply gU;exact gA|refine gB ?_ ?_<;>intro i h<;>try exact bG|refineλ(y:Int)(m:0<=y)n=>?_
  .intro z fa W q u w;rw[O]at q;replace q:z=lP y.x (L.getD 0 []):=q;have I:z.s.length<=200:=by rw[q];exact(xa o.v _).2
   have f:∀x,x=z.x->Ex9 L 1 ⟨x,z.s++[10]⟩:=λx X=>ZP o Y0 q X (by rw[B];rfl);cases fa<;>cases W
   .repeat'(conv=>whnf);first|refine U0 ?_ ?_;exact gS|refine U1 ?_|apply gU;exact gA|refine gB ?_ ?_<;>intro i h<;>try exact bG|refineλ(y:Int)(m:0<=y)n=>?_
    refine ae ⟨(1,⟨z.x,z.s++[10]⟩),?zp⟩ (ae [14,15,16,17,4,18,19,20,21,9,10,11,12,22] (aB ?zm ?zc));case zc=>repeat' first|refine U0 ?_ ?_;exact gV|exact aA
    case zm=>show L.length-(1)<L.length-0;omega
    case zp=>exact⟨f _ rfl,by show 1<=L.length-1;omega⟩
   .repeat'(conv=>whnf);first|refine U0 ?_ ?_;exact gS|refine U1 ?_|apply gU;exact gA|refine gB ?_ ?_<;>intro i h<;>try exact bG|refineλ(y:Int)(m:0<=y)n=>?_
    refine ae ⟨(1,⟨⟨z.x.a,y.x.b⟩,z.s++[10]⟩),?zp⟩ (ae [14,15,16,17,4,5,6,7,8,9,10,11,12,18] (aB ?zm ?zc));case zc=>repeat' first|refine U0 ?_ ?_;exact gV|exact aA
    case zm=>show L.length-(1)<L.length-0;omega
    case zp=>exact⟨f _ (by rw[<-show z.x.b=y.x.b from w rfl]),by show 1<=L.length-1;omega⟩
   .repeat'(conv=>whnf);first|refine U0 ?_ ?_;exact gS|refine U1 ?_|apply gU;exact gA|refine gB ?_ ?_<;>intro i h<;>try exact bG|refineλ(y:Int)(m:0<=y)n=>?_
    refine ae ⟨(1,⟨⟨y.x.a,z.x.b⟩,z.s++[10]⟩),?zp⟩ (ae [0,1,2,3,4,14,15,16,17,9,10,11,12,18] (aB ?zm ?zc));case zc=>repeat' first|refine U0 ?_ ?_;exact gV|exact aA
    case zm=>show L.length-(1)<L.length-0;omega
    case zp=>exact⟨f _ (by rw[<-show z.x.a=y.x.a from u rfl]),by show 1<=L.length-1;omega⟩
   .repeat'(conv=>whnf);first|refine U0 ?_ ?_;exact gS|refine U1 ?_|apply gU;exact gA|refine gB ?_ ?_<;>intro i h<;>try exact bG|refineλ(y:Int)(m:0<=y)n=>?_
    refine ae ⟨(1,⟨y.x,z.s++[10]⟩),?zp⟩ (ae [0,1,2,3,4,5,6,7,8,9,10,11,12,14] (aB ?zm ?zc));case zc=>repeat' first|refine U0 ?_ ?_;exact gV|exact aA
    case zm=>show L.length-(1)<L.length-0;omega
    case zp=>exact⟨f _ (by rw[show y.x=⟨y.x.a,y.x.b⟩from rfl,<-show z.x.a=y.x.a from u rfl,<-show z.x.b=y.x.b from w rfl]),by show 1<=L.length-1;omega⟩
  .have J:=zer (t:=s) (by rw[<-A];exact o) (by rw[<-A];omega) T;rw[J,B]at hK;repeat'(conv=>whnf);first|refine U0 ?_ ?_;exact gS|refine U1 ?_|apply gU;exact gA|refine gB ?_ ?_<;>intro i h<;>try exact bG|refineλ(y:Int)(m:0<=y)n=>?_
   (refine gI hK ?_;repeat' first|exact gR|refine U0 ?_ ?_);exact rfl|succ k=>obtain⟨x,l⟩:=y;cases l with|nil=>exact absurd rfl (o.ne Y0)|cons c r=>
  have g6:(c::r).length<=201*(k+1):=g5;repeat'(conv=>whnf);first|refine U0 ?_ ?_;exact gS|refine U1 ?_|apply gU;exact gA|refine gB ?_ ?_<;>intro i h<;>try exact bG|refineλ(y:Int)(m:0<=y)n=>?_
  .intro z fa W q u w;rw[O]at q;replace q:z=lP x (L.getD (k+1) []):=q;have I:z.s.length<=200:=by rw[q];exact(xa o.v _).2
   have f:∀Z,Z=z.x->Ex9 L (k+1+1) ⟨Z,((c::r)++z.s)++[10]⟩:=λZ X=>ZP o Y0 q X rfl;cases fa<;>cases W
   .repeat'(conv=>whnf);first|refine U0 ?_ ?_;exact gS|refine U1 ?_|apply gU;exact gA|refine gB ?_ ?_<;>intro i h<;>try exact bG|refineλ(y:Int)(m:0<=y)n=>?_
    refine ae ⟨(k+1+1,⟨z.x,((c::r)++z.s)++[10]⟩),?zp⟩ (ae [14,15,16,17,4,18,19,20,21,9,10,11,12,13] (aB ?zm ?zc));case zc=>repeat' first|refine U0 ?_ ?_;exact gV|exact aA
    case zm=>show L.length-(k+1+1)<L.length-(k+1);omega
    case zp=>exact⟨f _ rfl,by show k+1+1<=L.length-1;omega⟩
   .repeat'(conv=>whnf);first|refine U0 ?_ ?_;exact gS|refine U1 ?_|apply gU;exact gA|refine gB ?_ ?_<;>intro i h<;>try exact bG|refineλ(y:Int)(m:0<=y)n=>?_
    refine ae ⟨(k+1+1,⟨⟨z.x.a,x.b⟩,((c::r)++z.s)++[10]⟩),?zp⟩ (ae [14,15,16,17,4,5,6,7,8,9,10,11,12,13] (aB ?zm ?zc));case zc=>repeat' first|refine U0 ?_ ?_;exact gV|exact aA
    case zm=>show L.length-(k+1+1)<L.length-(k+1);omega
    case zp=>exact⟨f _ (by rw[<-show z.x.b=x.b from w rfl]),by show k+1+1<=L.length-1;omega⟩
   .repeat'(conv=>whnf);first|refine U0 ?_ ?_;exact gS|refine U1 ?_|apply gU;exact gA|refine gB ?_ ?_<;>intro i h<;>try exact bG|refineλ(y:Int)(m:0<=y)n=>?_
    refine ae ⟨(k+1+1,⟨⟨x.a,z.x.b⟩,((c::r)++z.s)++[10]⟩),?zp⟩ (ae [0,1,2,3,4,14,15,16,17,9,10,11,12,13] (aB ?zm ?zc));case zc=>repeat' first|refine U0 ?_ ?_;exact gV|exact aA
    case zm=>show L.length-(k+1+1)<L.length-(k+1);omega
    case zp=>exact⟨f _ (by rw[<-show z.x.a=x.a from u rfl]),by show k+1+1<=L.length-1;omega⟩
   .repeat'(conv=>whnf);first|refine U0 ?_ ?_;exact gS|refine U1 ?_|apply gU;exact gA|refine gB ?_ ?_<;>intro i h<;>try exact bG|refineλ(y:Int)(m:0<=y)n=>?_
    refine ae ⟨(k+1+1,⟨x,((c::r)++z.s)++[10]⟩),?zp⟩ (ae [0,1,2,3,4,5,6,7,8,9,10,11,12,13] (aB ?zm ?zc));case zc=>repeat' first|refine U0 ?_ ?_;exact gV|exact aA
    case zm=>show L.length-(k+1+1)<L.length-(k+1);omega
    case zp=>exact⟨f _ (by rw[show x=⟨x.a,x.b⟩from rfl,<-show z.x.a=x.a from u rfl,<-show z.x.b=x.b from w rfl]),by show k+1+1<=L.length-1;omega⟩
  .have J:=zer (t:=s) (by rw[<-A];exact o) (by rw[<-A];omega) T;rw[J]at hK;repeat'(conv=>whnf);first|refine U0 ?_ ?_;exact gS|refine U1 ?_|apply gU;exact gA|refine gB ?_ ?_<;>intro i h<;>try exact bG|refineλ(y:Int)(m:0<=y)n=>?_
   (refine gI hK ?_;repeat' first|exact gR|refine U0 ?_ ?_);exact rfl
def zaH:CS:=cz [.inl .str] (λ⟨s,_⟩K=>K (.l (.str (gY s))))
end
def zm4(t:List UInt8):(gY t).length<=100000:=by
 unfold gY;split;.decide
 .rename_i l;have h:=(Z8 (dT 10 t).dropLast Xn).2;have a:=Gb 10 t;have b:t.count 10<=t.length:=Y8;have c:=eJ (fo (eS Eh (dT 10 t).dropLast).x).length;have d:zhS.length=11:=rfl;rw[List.length_dropLast]at h;unfold zbL zhV;simp[bJ,aW,fN];omega
def jE:bK:=[(12,zaH)]
def gE:bK:=[(11,zn),(13,LF),(14,vx),(15,Hf)]
def zii:aR aa.prog gE:=an ⟨E8,Q6,BX,MR,aA⟩
section
variable{P':al}
def zil{Fin:Y->V->Prop}(g:Rn.PG aa.prog Rn.PR)(a:Rn.bK aa.prog P' (Rn.Ask aa.prog) Fin){J:ByteArray->Hp->Prop}:∀f c,(f,c)∈jE->mO aa.prog (Rn.Ask aa.prog) Fin J f c:=qy ⟨WL a (Tn g a),aA⟩
def OX{T:Nat->Tr}{f:bu}{o:dH}(g:Rn.PG aa.prog Rn.PR)(m:Rn.bK aa.prog P' (Rn.Ask aa.prog) rN)(d:aa.prog.funcs[f]?=C o)(p:eI 1 o.ntmps=E)(q:o.body.all (jC jE)=E)(t:trF o=o)(e:∀(a:Option bX)(n c:Nat),1048576<n->s8 fQ (jE++gE) 0 [] T o [.l (.v (.slice a n c))] [] λr _=>r=B E)(s:wU fQ jE gE [] T o [.inl .bytes] (λ_ K=>K (.l (.v (.bool E)))))(v:Y)(w:V)(h:FV w v)(i:Gw w)(b:Rn.ou aa.prog ⟨aF aa.prog f #[v] .normal,[],w⟩):Rn.fG aa.prog (Rn.Ask aa.prog) rN (aF aa.prog f #[v] .normal) [] w:=by
 obtain⟨a,n,c,rfl,j⟩:=h;by_cases k:n<=1048576
 .have⟨l,u⟩:=j k;exact Z4 m CV aJ au zii (zil g m) d (sig:=[.inl .bytes]) p q t s (x:=(l,())) rfl ⟨u,aA⟩ i b
 .exact znk m CV aJ au zii (zil g m) d q t i (xs:=[.l (.v (.slice a n c))]) ⟨⟨rfl,rfl⟩,aA⟩ p (e a n c Y0) b
end
def zlH:decide (gY ({data:=#[115,101,110,100,32,97,32,49,32,50,10,115,101,110,100,32,98,32,57,10,99,111,117,110,116,32,97,10,99,111,117,110,116,32,98,10]}:ByteArray).data.toList=({data:=#[111,107,10,111,107,10,105,110,32,48,32,111,117,116,32,50,32,119,114,111,110,103,32,48,32,108,111,115,116,32,48,10,105,110,32,48,32,111,117,116,32,49,32,119,114,111,110,103,32,48,32,108,111,115,116,32,48,10,111,110,32,116,104,101,32,119,97,121,32,50,10]}:ByteArray).data.toList)=E:=by decide+kernel
def FO:wU fQ jE gE [] eT Tryz.f3 [.inl .bytes] (λ_ K=>K (.l (.v (.bool E)))):=by
 apply lZ;rintro⟨c,_⟩K hK⟨e,_⟩;have hK:=hK;repeat'(conv=>whnf);first|apply U0;exact gS|refine gB ?_ ?_<;>intro b h<;>try exact bG
 ·(apply gI hK;repeat' first|exact gR|apply U0)
 intro t f;have q:(!decide (gY t=gY t))=H:=Y1;repeat'(conv=>whnf);first|apply U0;exact gS|apply gU;exact gA|intro y a d
 (apply gI hK;repeat' first|exact gR|apply U0)
def FL{P':al}(g:Rn.PG aa.prog Rn.PR)(e:Rn.bK aa.prog P' (Rn.Ask aa.prog) rN)(v:Y)(w:V)(h:FV w v)(b:Gw w)(r:Rn.ou aa.prog ⟨aF aa.prog 3 #[v] .normal,[],w⟩):Rn.fG aa.prog (Rn.Ask aa.prog) rN (aF aa.prog 3 #[v] .normal) [] w:=by refine OX g e (Rn.fM func3) rfl gK gK (λa n c f=>?_) FO v w h b r;(repeat'((conv=>whnf);first|apply U0;exact gS|refine gB ?_ ?_<;>intro d h<;>try exact bG));all_goals rfl
def zg2:decide (gY ({data:=#[115,101,110,100,32,97,32,49,32,50,32,51,32,52,32,53,10,114,117,110,32,54,48,10,116,97,107,101,32,98,32,51,10,116,97,107,101,32,98,32,57,10,116,97,107,101,32,98,32,49,10]}:ByteArray).data.toList=({data:=#[111,107,10,111,107,10,116,111,111,107,32,49,32,50,32,51,10,116,111,111,107,32,52,32,53,10,116,111,111,107,10,111,110,32,116,104,101,32,119,97,121,32,48,10]}:ByteArray).data.toList)=E:=by decide+kernel
def z6:wU fQ jE gE [] eT Tryz.f8 [.inl .bytes] (λ_ K=>K (.l (.v (.bool E)))):=by
 apply lZ;rintro⟨c,_⟩K hK⟨e,_⟩;have hK:=hK;repeat'(conv=>whnf);first|refine U0 ?_ ?_;exact gS|refine gB ?_ ?_<;>intro b h<;>try exact bG
 ·(refine gI hK ?_;repeat' first|exact gR|refine U0 ?_ ?_)
 intro t f;have q:(!decide (gY t=gY t))=H:=Y1;repeat'(conv=>whnf);first|apply U0;exact gS|apply gU;exact gA|intro y a d
 (apply gI hK;repeat' first|exact gR|apply U0)
def YH{P':al}(g:Rn.PG aa.prog Rn.PR)(e:Rn.bK aa.prog P' (Rn.Ask aa.prog) rN)(v:Y)(w:V)(h:FV w v)(b:Gw w)(r:Rn.ou aa.prog ⟨aF aa.prog 8 #[v] .normal,[],w⟩):Rn.fG aa.prog (Rn.Ask aa.prog) rN (aF aa.prog 8 #[v] .normal) [] w:=by refine OX g e (Rn.fM func8) rfl gK gK (λa n c f=>?_) z6 v w h b r;(repeat'((conv=>whnf);first|apply U0;exact gS|refine gB ?_ ?_<;>intro d h<;>try exact bG));all_goals rfl
def zlG:decide (gY ({data:=#[115,101,110,100,32,97,10,115,101,110,100,32,99,32,49,10,115,101,110,100,32,97,32,48,49,10,115,101,110,100,32,97,32,50,53,54,10,114,117,110,32,49,53,49,10,116,97,107,101,32,97,32,51,51,10,114,117,110,10]}:ByteArray).data.toList=({data:=#[119,104,97,116,10,119,104,97,116,10,110,111,10,110,111,10,110,111,10,110,111,10,119,104,97,116,10,111,110,32,116,104,101,32,119,97,121,32,48,10]}:ByteArray).data.toList)=E:=by decide+kernel
def FM:wU fQ jE gE [] eT Tryz.f9 [.inl .bytes] (λ_ K=>K (.l (.v (.bool E)))):=by
 apply lZ;rintro⟨c,_⟩K hK⟨e,_⟩;have hK:=hK;repeat'(conv=>whnf);first|apply U0;exact gS|refine gB ?_ ?_<;>intro b h<;>try exact bG
 ·(apply gI hK;repeat' first|exact gR|apply U0)
 intro t f;have q:(!decide (gY t=gY t))=H:=Y1;repeat'(conv=>whnf);first|apply U0;exact gS|apply gU;exact gA|intro y a d
 (apply gI hK;repeat' first|exact gR|apply U0)
def zdx{P':al}(g:Rn.PG aa.prog Rn.PR)(e:Rn.bK aa.prog P' (Rn.Ask aa.prog) rN)(v:Y)(w:V)(h:FV w v)(b:Gw w)(r:Rn.ou aa.prog ⟨aF aa.prog 9 #[v] .normal,[],w⟩):Rn.fG aa.prog (Rn.Ask aa.prog) rN (aF aa.prog 9 #[v] .normal) [] w:=by refine OX g e (Rn.fM func9) rfl gK gK (λa n c f=>?_) FM v w h b r;(repeat'((conv=>whnf);first|apply U0;exact gS|refine gB ?_ ?_<;>intro d h<;>try exact bG));all_goals rfl
def zlA:decide (gY ({data:=#[115,101,110,100,32,97,32,55,10,115,101,110,100,32,98,32,56,10,114,117,110,32,52,48,10,99,111,117,110,116,32,97,10,116,97,107,101,32,97,32,49,10,116,97,107,101,32,98,32,49,10]}:ByteArray).data.toList=({data:=#[111,107,10,111,107,10,111,107,10,105,110,32,49,32,111,117,116,32,48,32,119,114,111,110,103,32,48,32,108,111,115,116,32,48,10,116,111,111,107,32,56,10,116,111,111,107,32,55,10,111,110,32,116,104,101,32,119,97,121,32,48,10]}:ByteArray).data.toList)=E:=by decide+kernel
def Dq:wU fQ jE gE [] eT f10 [.inl .bytes] (λ_ K=>K (.l (.v (.bool E)))):=by
 apply lZ;rintro⟨c,_⟩K hK⟨e,_⟩;have hK:=hK;repeat'(conv=>whnf);first|apply U0;exact gS|refine gB ?_ ?_<;>intro b h<;>try exact bG
 ·(apply gI hK;repeat' first|exact gR|apply U0)
 intro t f;have q:(!decide (gY t=gY t))=H:=Y1;repeat'(conv=>whnf);first|apply U0;exact gS|apply gU;exact gA|intro y a d
 (apply gI hK;repeat' first|exact gR|apply U0)
def zbk{P':al}(g:Rn.PG aa.prog Rn.PR)(e:Rn.bK aa.prog P' (Rn.Ask aa.prog) rN)(v:Y)(w:V)(h:FV w v)(b:Gw w)(r:Rn.ou aa.prog ⟨aF aa.prog 10 #[v] .normal,[],w⟩):Rn.fG aa.prog (Rn.Ask aa.prog) rN (aF aa.prog 10 #[v] .normal) [] w:=by refine OX g e (Rn.fM func10) rfl gK gK (λa n c f=>?_) Dq v w h b r;(repeat'((conv=>whnf);first|apply U0;exact gS|refine gB ?_ ?_<;>intro d h<;>try exact bG));all_goals rfl
def zsm:decide (gY ({data:=#[]}:ByteArray).data.toList=({data:=#[111,110,32,116,104,101,32,119,97,121,32,48,10]}:ByteArray).data.toList)=E:=by decide+kernel
def N8:wU fQ jE gE [] eT Tryz.f7 [.inl .bytes] (λ_ K=>K (.l (.v (.bool E)))):=by
 apply lZ;rintro⟨c,_⟩K hK⟨a,_⟩;have hK:=hK;repeat'(conv=>whnf);first|apply U0;exact gS|refine gB ?_ ?_<;>intro b h<;>try exact bG
 ·(apply gI hK;repeat' first|exact gR|apply U0)
 intro t d;by_cases e:400<t.length
 .have q:decide (gY t=({data:=#[116,111,111,32,108,111,110,103,10]}:ByteArray).data.toList)=E:=decide_eq_true (by unfold gY;rw[if_pos e]);repeat'(conv=>whnf);first|apply U0;exact gS|apply gU;exact gA|refine gB ?_ ?_<;>intro b h<;>try exact bG
  (apply gI hK;repeat' first|exact gR|apply U0);exact q
 .have j:=zm5 t;repeat'(conv=>whnf);first|apply U0;exact gS|apply gU;exact gA|refine gB ?_ ?_<;>intro b h<;>try exact bG
  all_goals(apply gI hK;repeat' first|exact gR|apply U0);simp_all
def zhg{P':al}(g:Rn.PG aa.prog Rn.PR)(e:Rn.bK aa.prog P' (Rn.Ask aa.prog) rN)(v:Y)(w:V)(h:FV w v)(b:Gw w)(r:Rn.ou aa.prog ⟨aF aa.prog 7 #[v] .normal,[],w⟩):Rn.fG aa.prog (Rn.Ask aa.prog) rN (aF aa.prog 7 #[v] .normal) [] w:=by refine OX g e (Rn.fM func7) rfl gK gK (λa n c f=>?_) N8 v w h b r;(repeat'((conv=>whnf);first|apply U0;exact gS|refine gB ?_ ?_<;>intro d h<;>try exact bG));all_goals rfl
def FN:wU fQ jE gE [] eT Tryz.f4 [.inl .bytes] (λ_ K=>K (.l (.v (.bool E)))):=by
 apply lZ;rintro⟨c,_⟩K hK⟨e,_⟩;have hK:=hK;repeat'(conv=>whnf);first|apply U0;exact gS|refine gB ?_ ?_<;>intro b h<;>try exact bG
 ·(apply gI hK;repeat' first|exact gR|apply U0)
 intro t k;by_cases i:400<t.length
 .have q:decide (gY t=gY t)=E:=Y1;repeat'(conv=>whnf);first|apply U0;exact gS|apply gU;exact gA|refine gB ?_ ?_<;>intro b h<;>try exact bG
  (apply gI hK;repeat' first|exact gR|apply U0);exact q
 .have⟨d,r,a,f,g⟩:=Pz t;have j:gY d=gY t:=by rw[a];exact zf2 f g Y7
  repeat'(conv=>whnf);first|apply U0;exact gS|apply gU;exact gA|refine gB ?_ ?_<;>intro b h<;>try exact bG
  refine⟨d,r,⟨a,f,g⟩,?_⟩;repeat'((conv=>whnf);(apply U0;exact gS))
  (apply gI hK;repeat' first|exact gR|apply U0);simp_all
def zdy{P':al}(g:Rn.PG aa.prog Rn.PR)(e:Rn.bK aa.prog P' (Rn.Ask aa.prog) rN)(v:Y)(w:V)(h:FV w v)(b:Gw w)(r:Rn.ou aa.prog ⟨aF aa.prog 4 #[v] .normal,[],w⟩):Rn.fG aa.prog (Rn.Ask aa.prog) rN (aF aa.prog 4 #[v] .normal) [] w:=by refine OX g e (Rn.fM func4) rfl gK gK (λa n c f=>?_) FN v w h b r;(repeat'((conv=>whnf);first|apply U0;exact gS|refine gB ?_ ?_<;>intro d h<;>try exact bG));all_goals rfl
def II:Nat->Tr:=λn=>match n with|11=>iu [0,0,1,0,3,0,4,0,5,0,6,0,7,0,8,0,9,0,10,0,11,0,12,0,2,1,13,1,14,2] .nil|_=>.nil
def Dr:wU fQ jE gE [] II Tryz.f5 [.inl .bytes] (λ_ K=>K (.l (.v (.bool E)))):=by
 apply lZ;rintro⟨c,_⟩K hK⟨u,_⟩;have hK:=hK;repeat'(conv=>whnf);first|refine U0 ?_ ?_;exact gS|refine gB ?_ ?_<;>intro b h<;>try exact bG
 ·(refine gI hK ?_;repeat' first|exact gR|refine U0 ?_ ?_)
 intro t z;by_cases g:400<t.length+4
 .have q:decide (gY t=gY t)=E:=Y1;repeat'(conv=>whnf);first|apply U0;exact gS|apply gU;exact gA|refine gB ?_ ?_<;>intro b h<;>try exact bG
  (refine gI hK ?_;repeat' first|exact gR|apply U0);exact q
 .have⟨d,r,a,i,f⟩:=Pz t;have o:¬400<d.length+4:=Y8;have⟨A,w,p,j,k3,k⟩:=zm6 f o;have s:=zm4 d;have x:(gY d).length=A.length+(w++[10]).length:=Y7;have m:(((gY d).length:Int)-((w++([10]:List UInt8)).length:Int)).toNat=A.length:=Y0;have n:((gY d).drop (aC 0)).take ((((gY d).length:Int)-((w++([10]:List UInt8)).length:Int)).toNat-aC 0)=A:=by simp_all
  repeat'(conv=>whnf);first|refine U0 ?_ ?_;exact gS|apply gU;exact gA|refine gB ?_ ?_<;>intro b h<;>try exact bG
  refine⟨d,r,⟨a,i,f⟩,?_⟩;repeat'((conv=>whnf);(refine U0 ?_ ?_;exact gS))
  refine⟨A,w,⟨p,j,k3⟩,?_⟩;repeat'(conv=>whnf);first|apply U0;exact gS|apply U1|intro y e a
  (apply gI hK;repeat' first|exact gR|apply U0);apply decide_eq_true;rw[n];exact k.trans (by simp[oJ])
def zbl{P':al}(g:Rn.PG aa.prog Rn.PR)(e:Rn.bK aa.prog P' (Rn.Ask aa.prog) rN)(v:Y)(w:V)(h:FV w v)(b:Gw w)(r:Rn.ou aa.prog ⟨aF aa.prog 5 #[v] .normal,[],w⟩):Rn.fG aa.prog (Rn.Ask aa.prog) rN (aF aa.prog 5 #[v] .normal) [] w:=by refine OX g e (Rn.fM func5) rfl gK gK (λa n c f=>?_) Dr v w h b r;(repeat'((conv=>whnf);first|apply U0;exact gS|refine gB ?_ ?_<;>intro d h<;>try exact bG));all_goals rfl
def zZ:wU fQ jE gE [] eT Tryz.f6 [.inl .str] (λ_ K=>K (.l (.v (.bool E)))):=by
 apply lZ;rintro⟨t,_⟩K hK-;have q:(!decide (gY t=gY t))=H:=Y1;repeat'(conv=>whnf);first|apply U0;exact gS|apply gU;exact gA|refine gB ?_ ?_<;>intro b h<;>try exact bG
 all_goals(apply gI hK;repeat' first|exact gR|apply U0)
def YG{P':al}(g:Rn.PG aa.prog Rn.PR)(a:Rn.bK aa.prog P' (Rn.Ask aa.prog) rN)(t:List UInt8)(w:V)(h:Gw w)(r:Rn.ou aa.prog ⟨aF aa.prog 6 #[fR t] .normal,[],w⟩):Rn.fG aa.prog (Rn.Ask aa.prog) rN (aF aa.prog 6 #[fR t] .normal) [] w:=Z4 a CV aJ au zii (zil g a) (Rn.fM func6) rfl gK gK zZ (x:=(t,())) rfl ⟨rfl,aA⟩ h r
end
section
open Go Go.Conc Go.ConcM
section
variable{Q0:Type}{di:ah×Y->Q0}
variable{s:ChangeSpec}
def zaW{P:al}{f:dH}{F:Stop.Interp}{k l j:Bool}{W W':V}{args:Array Y}{v:Y}(h:s.post di P f k l j H W args v {W' with os:=W.os,tape:=W.tape})(o:OsLater W.os W'.os):(lF s).postWith di P f F (outsideKept [.timePasses]) k l j W args v W':=by have⟨d,n,m,p,pa,a,b,c,e,g,i,_⟩:=h;exact⟨d,n,m,p,pa,a,b,c.of_heap Y2,e.of_heap Y2,g.of_heap Y2,leftAs_later o,i.2⟩
def Cc{a:Assume}{l:Checked}{os:Os}{f:bu}{N:dH}{F:Stop.Interp}{I:List PathCond}{z J B:Bool}{X:V->Array Y->Prop}(n:∀(w O:V)(args:Array Y),w.heap=O.heap->X w args->X O args)(own:ownKnob l.prog.godebug=U)(K:os.Started)(c:l.prog.funcs[f]?=C N)(L:∃(w:V)(tape:Tape)(i:Input),w.os=os/\(w.forCall tape i).Shaped l.prog/\i.vars=[]/\Input.okWide l.prog (w.forCall tape i) .any w.heap.size f i/\((s.pre di l.prog N I z (w.forCall tape i).memory i.args/\X (w.forCall tape i).memory i.args)/\sizedMet di l.prog N (lF s) z (w.forCall tape i).memory i.args)/\a.holds l.prog (lone (aF l.prog f i.args .normal) [] (w.forCall tape i)))(P:∀(W:V)(Q:Nat)(args:Array Y)(S T:List (DataW Q0))(A:List MemPlace),(∀(j:Nat)t v,N.params[j]?=C t->args[j]?=C v->Value.okWide l.prog W .any Q t v)->DataW.Whole di l.prog N.params.toList s.vars z W args.toList S T A->X W args->W.ShapedOpen l.prog->∃M D o O R,runNT l.prog (M+1) (solo (G (aF l.prog f args .normal) []) W) #[]=(.ended o O,R)/\runN l.prog M (solo (G (aF l.prog f args .normal) []) W)=.next D/\step l.prog D=.ended o O/\Conc.Good l.prog (λv m=>s.post di l.prog N z J B H W args v {m with os:=W.os,tape:=W.tape}/\OsLater W.os m.os) D o O R):ReturnsInLeavingWide a l os f .any (λw args=>(s.pre di l.prog N I z w args/\X w args)/\sizedMet di l.prog N (lF s) z w args) ((lF s).postWith di l.prog N F (outsideKept [.timePasses]) z J B):=by apply returnsInLeavingWide_of_good own K L;intro w tape i _ d _ g p _;have⟨_,_,_,k,h,_,_,_,_,b⟩:=g;have e:=fO (h.symm.trans c);subst e;have⟨⟨⟨S,T,A,hw,_⟩,hx⟩,_⟩:=p;have⟨M,D,o,O,R,q,r,u,x⟩:=P (w.forCall tape i) w.heap.size i.args S T A b (DataW.Whole.of_heap (w':=w.forCall tape i) Y2 hw) (n _ _ _ Y2 hx) d;have⟨v,e,Z,r1,r2,r3,y⟩:=x;exact⟨M,D,o,O,R,q,r,u,v,e,postWith_blind (zaW Z.1 Z.2),r1,r2,r3,y⟩
def YC{c:Checked}{l:Os}{f:bu}{k:dH}{e:List PathCond}{d:Bool}{X:V->Array Y->Prop}(j:V)(args:Array Y)(g:Nat)(h:j.os=l)(a:(j.forCall (λ_ _=>0) ⟨#[],args,[]⟩).Shaped c.prog)(o:Input.okWideB c.prog (j.forCall (λ_ _=>0) ⟨#[],args,[]⟩) f ⟨#[],args,[]⟩=E)(p:s.preB di c.prog k e d (j.forCall (λ_ _=>0) ⟨#[],args,[]⟩).memory args g=E)(b:s.sizedB di c.prog k d (j.forCall (λ_ _=>0) ⟨#[],args,[]⟩).memory args g=E)(x:X (j.forCall (λ_ _=>0) ⟨#[],args,[]⟩).memory args):∃(w:V)(t:Tape)(i:Input),w.os=l/\(w.forCall t i).Shaped c.prog/\i.vars=[]/\Input.okWide c.prog (w.forCall t i) .any w.heap.size f i/\((s.pre di c.prog k e d (w.forCall t i).memory i.args/\X (w.forCall t i).memory i.args)/\sizedMet di c.prog k (lF s) d (w.forCall t i).memory i.args)/\({calm:=E}:Assume).holds c.prog (lone (aF c.prog f i.args .normal) [] (w.forCall t i)):=⟨j,λ_ _=>0,⟨#[],args,[]⟩,h,a,(xL (base:=0) o).1,(xL o).2,⟨⟨ChangeSpec.pre_of_preB p,x⟩,sizedMet_of_sizedB b⟩,by simp only[Assume.holds];exact⟨Y1,λ_ _ _ _=>rfl,Y1,Y1,Y1⟩⟩
end
def N5(Lk:Looks){p:Pinned}{s:OpenSpec}{c:OpenClaim}(kinds:List LaidKind)(a:Bool)(b:Bool×String)(l:Bool)(u:c.holds p s)(w:c.wfByText s=E)(d:c.laidByTextAt Lk p kinds a)(e:c.start=.entering)(n:c.noBlocks=H/\c.again=H)(m:p.checked.prog.mainIs=C (b.1,b.2.toList))(v:(!b.1&&b.2.isEmpty&&!l)=H)(g:∀f q,p.checked.prog.funcNamed c.func=C f->p.checked.prog.funcs[f]?=C q->l=p.checked.prog.looks []/\∀(j:Nat)t,q.params[j]?=C t->p.checked.prog.wantsStandIn t=H)(i:E=c.goesBy p.checked.prog):Claim7.holds p (.plain s) {stood:={row:=c,standIns:=[],harness:=b,looks:=l},kinds:=[],alts:=[],goes:=E,laidByText:=E,laidKinds:=kinds,laidTests:=a,laidLooks:=Lk}:=by
 have k:∀r:OpenClaim,Claim7.isSixth {stood:={row:=r,standIns:=[],harness:=b,looks:=l},kinds:=[]}=H:=λr=>by simpa[Claim7.isSixth]using v
 exact⟨Claim7.tied_new_at Lk kinds a (Claim7.new_of_sixth u b l e n m (k c) g) w,λD o=>(by cases o),d,Y9,i⟩
end
section
open Go.RowKit
open Ab Rn
def znt{P:al}{w:V}{r:Reach}{d:Nat}{t e:ah}(i:P.underlying t=C (.slice e)){x:bX}{l g:Nat}(h:Value.okWide P w r d t (.slice (C x) l g)):x.spot=U/\∃c e f,w.heap[x.block]?=C (.cells c e f):=by
 simp[Value.okWide,i,Cell.okWide,Cell.ok]at h;have⟨_,_,_,b,j,cells,a,_⟩:=h;refine⟨b,?_⟩;unfold World.shape? at a;split at a;.simp_all
 .cases a
def zj5{W:V}{e:List (bX×List Y)}{k sz n g:Nat}{x:bX×List Y}(d:e[k]?=C x)(l:x.2.length=g*sz)(i:n<=g)(z:0<sz)(c:x.2.all tc=E):Sl (vO W e) sz (.slice (C ⟨k,x.1.off,U⟩) n g) n (x.2.take (n*sz)):=by
 have j:n*sz<=g*sz:=Nat.mul_le_mul_right _ i;have b:(vO W e).heap[k]?=C (zqY x):=by rw[AG,d];rfl
 refine⟨Y7,?_⟩;by_cases f:n=0;.subst f;exact .inl ⟨rfl,_,_,rfl,λh=>(by cases h),λad h=>by cases h;exact⟨_,_,_,b⟩⟩
 .have p:Wy x=x.1.off:=by unfold Wy;cases m:x.2 with|nil=>rw[m]at l;have:1*1<=g*sz:=Nat.mul_le_mul Y0 z;simp at l;omega|cons a r=>rfl
  refine .inr ⟨k,x.1.off,g,_,(rQ,(0,Wy x+x.2.length)),rfl,i,b,⟨?_,?_⟩,?_⟩;.simp_all
  .rw[dQ]at c⊢;intro v o;have:=List.mem_of_mem_take o;simp[za,List.mem_replicate]at this;rcases this with⟨_,rfl⟩|h;.rfl
   .exact c v h
  .simp_all
def zrL{α:Type}(pre post:List α)(y:α):(pre++[y]++post)[pre.length]?=C y:=Y1
def zmL{W:V}{a:Option bX}{n l:Nat}{d:List Int}(h:(a=U/\n=0/\l=0/\d=[])\/∃x,a=C x/\n<=l/\l<=maxLen/\d.length=l/\(∀i,i<d.length->W.cell? (x.add i)=C (.int .u8 (d.getD i 0)))/\∀n∈d,(Lit.int .u8 n).wf=E)(r:∀x,a=C x->x.spot=U/\∃c e f,W.heap[x.block]?=C (.cells c e f)):∃L:List (bX×List Y),(∀x∈L,Za W x)/\∀pre post,∃vL,VR (I3 (pre++L++post)) vL (.slice a n l)/\FV (vO W (pre++L++post)) vL:=by
 rcases h with⟨rfl,rfl,rfl,_⟩|⟨x,rfl,o,_,p,q,s⟩;.exact⟨[],λ_ h=>(by cases h),λpre post=>⟨_,.slice 0 0 (a:=U) trivial,U,0,0,rfl,λ_=>⟨[],⟨rfl,.inl ⟨rfl,_,_,rfl,λ_=>rfl,λ_ h=>by cases h⟩⟩,a7 _⟩⟩⟩
 .have⟨w,D⟩:=r x rfl;have t:∀z∈d,0<=z/\z<=255:=λz g=>by have A:=s z g;simp[Lit.wf,aj,decide_eq_true_eq]at A;exact A
  have m:(d.map λz=>gz z.toNat).map (λb=>cL .u8 (b.toNat:Int))=d.map (cL .u8):=by rw[List.map_map];apply List.map_congr_left;intro z g;have:=t z g;simp only[Function.comp_apply];congr 1;rw[UInt8.toNat_ofNat'];omega
  refine⟨[(x,d.map (cL .u8))],λy j=>?_,λpre post=>?_⟩
  .rw[dC]at j;subst j;refine znm w D λi v B=>?_;rw[lD]at B;obtain⟨z,g,rfl⟩:=ak.1 B;refine⟨?_,rfl⟩;rw[q i ((bQ.1 g).1),bA,g];rfl
  .have k:=zrL pre post (x,d.map (cL .u8));refine⟨_,zj6 k w n l,_,n,l,rfl,λF=>⟨(d.map λz=>gz z.toNat).take n,?_,?_⟩⟩
   .have u:(EL.bytes ((d.map λz=>gz z.toNat).take n)).len=n:=by simp[EL.len,da,List.length_map];omega
    rw[u];show Sl _ 1 _ n (((d.map λz=>gz z.toNat).take n).map λb=>cL .u8 (b.toNat:Int));rw[List.map_take,m];have:=zj5 (W:=W) (sz:=1) k Y7 o Y5 (by simp[List.all_map,Function.comp_def,tc]);simpa using this
   .simp[EL.len,lH,da];omega
end
section
open Go Go.Conc
def wR:∀(f:bu)(a:dH),aa.prog.funcs[f]?=C a->a.body.isSome=E->prog.inits.idxOf? f=U:=by have k:((ku aa.prog.funcs.size).all λf=>((aa.prog.funcs[f]?).all λa=>!a.body.isSome)||(prog.inits.idxOf? f).isNone)=E:=gK;intro f a h b;have l:f<aa.prog.funcs.size:=(ab.1 h).1;have:=dQ.1 k f (List.mem_range.2 l);rw[h]at this;simp only[Option.all_some,b,Bool.not_true,vS]at this;exact Option.isNone_iff_eq_none.1 this
def zx6:Rn.bK aa.prog prog (Rn.Ask aa.prog) Ab.rN:=⟨Rn.pg,Rn.gp,Rn.zq7,λ_ _ _ _ h=>h,λ_ _ _ _ h=>⟨_,.inr (Rn.znR h),λ_ _ _ k=>k⟩,λ_ _ _ _ _ a b=>⟨_,.inr (Rn.znS Rn.pg a b),λ_ _ _ k=>k⟩⟩
def av1{R:Rn.BR}{v c:Y}(h:Rn.VR R v c):Rn.AV R #[v] #[c]:=by refine⟨rfl,λi u d a b=>?_⟩;match i with|0=>simp only[dV,bz,ay]at a b;subst a b;exact h|i+1=>simp at a
def eG:List (bX×List Y):=[(⟨0,0,U⟩,[]),(⟨1,0,U⟩,Ab.Wz.toList)]
def zrR{W:V}{l:List (String×DataW Unit)}(c:l=Rows.fnScriptWayRow.laid)(h:laidMetH prog l W):W.var? prog "internal/strconv.uint64pow10"=C Ab.Wz:=by subst c;have e:(Rows.fnScriptWayRow.laid.filter λx=>x.2.handleName?.isSome)=[]:=gK;unfold laidMetH at h;rw[e]at h;obtain⟨f,⟨_,_,_,_,_,_,_,_,_,_,⟨_,_,_,_,_,_,_,_,_,_,⟨g,t,r,i,p,q,d,m,v,j,_,_⟩,_⟩,_⟩,_⟩:=h;have a:prog.globalNamed "internal/strconv.uint64pow10"=C 1:=gK;obtain rfl:=fO (a.symm.trans d);have b:(prog.globals[1]?).map (·.type)=C 134:=gK;obtain rfl:=fO (b.symm.trans m);have z:(Rows.laid_internal_strconv_uint64pow10:DataW Unit)=Lib.tabData .u64 ((ku 20).map λk=>(10:Int)^k):=gK;rw[z]at j;have o:=Lib.cells_of_tab (P:=prog) (n:=20) (e:=117) gK gK gK gK j;rw[v];congr 1;apply Array.toList_inj.1;rw[o];simp[Ab.Wz]
def znd{W:V}(s:W.ShapedOpen prog)(a:W.var? prog "internal/strconv.uint64pow10"=C Ab.Wz):∀x∈eG,Rn.Za W x:=by
 intro x c;rcases bq.1 c with rfl|c;.obtain⟨d,h,_⟩:=s.1 0 #[.int .i64 0] 3 (Nat.le_of_ble_eq_true gK) gK;exact⟨d,_,_,h,λi v b=>by cases b⟩
 .obtain rfl:=dC.1 c;have g:prog.globalNamed "internal/strconv.uint64pow10"=C 1:=gK;unfold World.var? at a;rw[g,Option.bind_some]at a;split at a
  .rename_i d t f h;obtain rfl:=fO a;refine⟨_,_,_,h,λi v b=>⟨by simpa using b,?_⟩⟩;obtain⟨k,_,rfl⟩:=List.mem_map.1 (fb (show((ku 20).map λk=>cL .u64 (10^k))[i]?=C v from b));rfl
  .cases a
def zuE(L:List (bX×List Y)):∀g,lA g Rn.nGl=E->∃x,(eG++L)[g]?=C x/\x.1.block=g/\x.1.off=0|0,_=>⟨_,rfl,rfl,rfl⟩|1,_=>⟨_,rfl,rfl,rfl⟩|_+2,h=>by simp[Rn.nGl,lA]at h
def zuF(W:V)(L:List (bX×List Y)):Ab.Gw (Rn.vO W (eG++L)):=⟨_,_,by rw[Rn.AG];rfl⟩
end
end Go.Proofs.YtelohkknmgaacaaGreatDoor
