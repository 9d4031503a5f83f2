/-
  Related runs of a ghost and of a goroutine in company (part 1). No condition.
-/
import Derived.Calls
import Derived.Conc.Own
import Derived.WalkKit
import Derived.KernelRfl
import GoSem.Step
import Derived.RunT
import Derived.Conc.Listed
set_option linter.unusedSimpArgs false
set_option linter.unusedVariables false
set_option linter.unusedSectionVars false
set_option linter.defProp false
set_option maxRecDepth 100000
set_option maxHeartbeats 16000000
open Array renaming getElem?_setIfInBounds→bM,getElem?_eq_some_iff→ab,getElem?_modify→bh,getElem?_eq_getElem→cB,getElem?_push→bx,getElem?_append→zO,getElem?_eq_none_iff→uK,all_eq_true_iff_forall_mem→aQ,forIn_toList→nJ,mem_of_getElem?→dk,mapM_eq_foldlM→e9,foldlM_toList→fC,range→gw,getElem?_map→ky,eq_empty_of_size_eq_zero→qu,getD_eq_getD_getElem?→cE
open Bool renaming and_eq_true→aj,not_eq_true'→gG,or_eq_true→dm,false_eq_true→bt
open Classical renaming byContradiction→uW,choose→dP,choose_spec→fS,axiomOfChoice→gJ
open Functor renaming map→l6
open Go renaming Addr→bX,Value→Y,IntKind→cZ,FuncId→bu,TypeId→ah,MapEntry→eB,Program→al,Question→c6,World→V,Event→bB,typeInfo→dq,sizeOf→ie,isAgg→nR,zeroValue→c9,loadCellsFrom→iq,loadVar→dx,newRow→xV,runtimePanic→cJ,asIntOf→je,asAddr→rP,Operand→aU,TypeDesc→ej,TypeInfo→iC,behindNumber→gk,cellAtBytes→km,movedNumber→A0,BinOp→jN,eqGuard→iS,Func→dH,CommCase→lV,Deferred→dI,CommShape→jV,Next→s3,callFunc→dp,callMethod→EE,Oper→bU,execOp→aG,Code→eF,Item→mZ,Frame→ag,MemAct→ic,commResult→pZ,Frame.enter→aF,exitTo→vN,ResultVar→kP,stepG→bg,stepG.apply→cD,callDeferred→jm,Goroutine→av,step_lone_go→kx,step_lone_ended→r8,Frame.at→lW,Exit.then→Cq,PanicEntry→fX
open Go.Builtin renaming zeroCells→vv,holdsCells→uv,append_→gM,unsafeAdd_→iK,len_→ij,min2→sF,min_→sG,ssaWrapNilChk_→po,close_→oY
open Go.CallKind renaming early→jW
open Go.Conc renaming mem_seen→nj
open Go.Conv renaming bytesToString→iN
open Go.Extern renaming findNext→et,find→fJ,allNextRows→uw
open Go.Extern.BytealgCount renaming count→ja
open Go.Extern.BytealgIndexByte renaming indexByte→fc
open Go.Extern.Bytes renaming loadBytes→yR
open Go.Frame renaming oper?→AO,raise→gx,catches→qE,finish_at→dJ,eval_at'→Bm
open Go.GStep renaming after→bP
open Go.Goroutine renaming finishComm→rH
open Go.Instr renaming sureAddr→cC,loadAt→dz,storeAt→jG,alloc→nX,fill→ep,field→AP,index→kl,extract→kW,makeInterface→jM,sliceBound→e8,sliceBounds→cO,slice→l7,sliceAt→eN,indexAt→gm,findNow→fg,sameNow→jF,findKey→jD,checkKey→iH,mapUpdate→fL,lookup→my,build→jj,buildSlice→mE,makeMap→Dx,makeChan→Bn,typeAssert→qd,fieldAt→kX
open Go.IntKind renaming i64→aD
open Go.Made renaming infoAt→vh
open Go.Next renaming value→dU
open Go.Op renaming equalIn→cY,addrMod→ya,shift→wZ,intDiv→pQ,eqGuardIn→sJ,maxDepth→rq,equal→oO
open Go.Question renaming cut→yp,forced→fP
open Go.Region renaming wanted→ar
open Go.Result renaming andThen→er
open Go.Result.ok renaming injEq→eQ
open Go.Stepped.next renaming injEq→kC
open Go.Value renaming pointer→kY
open Go.stepG renaming exec→bT,oper→EX
open List renaming size_toArray→lE,getElem?_toArray→dV,map_cons→cQ,foldlM_nil→y8,foldlM_cons→fY,map_toArray→qe,map_nil→sH,range→ku,mem_cons→bq,mem_cons_self→kB,mem_cons_of_mem→gD,not_mem_nil→cV
open List.cons renaming injEq→kM,inj→vT
open Nat renaming le_of_eq→cI,le_refl→ao,le_trans→bw,add_assoc→gq,zero_le→a7,mod_lt→kv,blt→lA,testBit→l8
open Option renaming map_some→cG,bind_some→fZ,map_eq_some_iff→ak
open Option.some renaming injEq→ay
open Prod.mk renaming injEq→aX
open Pure renaming pure→b8
open UInt8 renaming ofNat→gz
open Bool renaming true→E,false→H
open Option renaming some→C,none→U
namespace Go.Proofs.YtelohkknmgaacaaGreatDoor
def gK{p:Prop}(h:p:=by kernel_rfl):p:=h
def gO{p:Prop}(h:p:=by first|omega|(simp;done)|(simp;omega)):p:=h
def Y0{p:Prop}(h:p:=by omega):p:=h
def Y1{p:Prop}(h:p:=by simp):p:=h
def Y2{p:Prop}(h:p:=by rfl):p:=h
def Y3{p:Prop}(h:p:=by assumption):p:=h
def Y5{p:Prop}(h:p:=by decide):p:=h
def Y6{p:Prop}(h:p:=by with_reducible assumption):p:=h
def Y7{p:Prop}(h:p:=by simp_all):p:=h
def Y8{p:Prop}(h:p:=by grind):p:=h
def Y9{p q:Prop}(h:p->q:=by intro h;cases h):p->q:=h
def aB{a b:Prop}(h:a)(k:b):a/\b:=⟨h,k⟩
def Cp{a b:Prop}(h:a/\b):b:=h.2
def ae{α:Sort _}{p:α->Prop}(x:α)(h:p x):Exists p:=⟨x,h⟩
def F7{p:Prop}:p<->p:=⟨id,id⟩
def cA{α:Sort _}{a b:α}(h:a≠b):b≠a:=λe=>h e.symm
def aA:True:=trivial
namespace Rn
open Go
abbrev BR:=Nat->Nat->Nat->Prop
def BR.le(R S:BR):Prop:=∀a b l,R a b l->S a b l
def BR.ext(R:BR)(n m:Nat):BR:=λa b l=>R a b l\/(a=n/\b=m/\l=0)
def BR.le_refl(R:BR):R.le R:=λ_ _ _ h=>h
variable{R S:BR}
def BR.le_trans{T:BR}(h:R.le S)(k:S.le T):R.le T:=λa b l x=>k a b l (h a b l x)
def BR.WX(R:BR)(n m:Nat):R.le (R.ext n m):=λ_ _ _ h=>.inl h
def AR(R:BR)(a a':bX):Prop:=(∃l,R a.block a'.block l/\l-1<=a.off)/\a.off=a'.off/\a.spot=a'.spot
def OA(R:BR):Option bX->Option bX->Prop|none,U=>True|some a,C b=>AR R a b|_,_=>False
def ON(R:BR):Option Nat->Option Nat->Prop|none,U=>True|some a,C b=>∃l,R a b l|_,_=>False
def AR.mono(h:R.le S){a a':bX}(x:AR R a a'):AR S a a':=⟨let⟨l,r,e⟩:=x.1;⟨l,h _ _ _ r,e⟩,x.2⟩
def OA.mono{R S:BR}(h:R.le S):{a a':Option bX}->OA R a a'->OA S a a'|none,U,_=>trivial|some _,C _,x=>AR.mono h x
def ON.mono(h:R.le S):{a a':Option Nat}->ON R a a'->ON S a a'|none,U,_=>trivial|some _,C _,x=>let⟨l,r⟩:=x;⟨l,h _ _ _ r⟩
inductive VR(R:BR):Y->Y->Prop|bool(b:Bool):VR R (.bool b) (.bool b)|int(k:cZ)(n:Int):VR R (.int k n) (.int k n)|string(s:ByteArray):VR R (.string s) (.string s)|pointer{a a':Option bX}(h:OA R a a'):VR R (.pointer a) (.pointer a')|slice{a a':Option bX}(l c:Nat)(h:OA R a a'):VR R (.slice a l c) (.slice a' l c)|map{r r':Option Nat}(h:ON R r r'):VR R (.map r) (.map r')|chan{r r':Option Nat}(h:ON R r r'):VR R (.chan r) (.chan r')|func(f:bu){x x' y y':Array Y}(hx:x.size=x'.size)(h:∀(i:Nat)(v v':Y),x[i]?=C v->x'[i]?=C v'->VR R v v')(hy:y.size=y'.size)(h':∀(i:Nat)(v v':Y),y[i]?=C v->y'[i]?=C v'->VR R v v'):VR R (.func (.func f) x y) (.func (.func f) x' y')|nilFunc:VR R .nilFunc .nilFunc|iface(t:ah){v v':Y}(h:VR R v v'):VR R (.iface t v) (.iface t v')|nilIface:VR R .nilIface .nilIface|agg{x x':Array Y}(hx:x.size=x'.size)(h:∀(i:Nat)(v v':Y),x[i]?=C v->x'[i]?=C v'->VR R v v'):VR R (.agg x) (.agg x')|tuple{x x':Array Y}(hx:x.size=x'.size)(h:∀(i:Nat)(v v':Y),x[i]?=C v->x'[i]?=C v'->VR R v v'):VR R (.tuple x) (.tuple x')
structure AV(R:BR)(x x':Array Y):Prop where
 size:x.size=x'.size
 at_:∀(i:Nat)(v v':Y),x[i]?=C v->x'[i]?=C v'->VR R v v'
def VR.mono{R S:BR}(h:R.le S){v v':Y}(x:VR R v v'):VR S v v':=by induction x with|bool b=>exact .bool b|int k n=>exact .int k n|string s=>exact .string s|pointer a=>exact .pointer (a.mono h)|slice l c a=>exact .slice l c (a.mono h)|map a=>exact .map (a.mono h)|chan a=>exact .chan (a.mono h)|func f d _ y _ i1 i2=>exact .func f d i1 y i2|nilFunc=>exact .nilFunc|iface t _ i=>exact .iface t i|nilIface=>exact .nilIface|agg d _ i=>exact .agg d i|tuple d _ i=>exact .tuple d i
def AV.mono{R S:BR}(h:R.le S){x x':Array Y}(k:AV R x x'):AV S x x':=⟨k.size,λi v c a b=>(k.at_ i v c a b).mono h⟩
structure ME(R:BR)(e e':eB):Prop where
 key:VR R e.key e'.key
 val:VR R e.val e'.val
 born:e.born=e'.born
structure EA(R:BR)(x x':Array eB):Prop where
 size:x.size=x'.size
 at_:∀(i:Nat)(v v':eB),x[i]?=C v->x'[i]?=C v'->ME R v v'
def EA.mono{R S:BR}(h:R.le S){x x':Array eB}(k:EA R x x'):EA S x x':=⟨k.size,λi v c a b=>let m:=k.at_ i v c a b;⟨m.key.mono h,m.val.mono h,m.born⟩⟩
def rQ:ah:=1000000
inductive OR(R:BR)(l:Nat):Obj->Obj->Prop|cells{c c':Array Y}{elem zoA:ah}{f f':Nat×Nat}(he:(zoA=elem/\l=0)\/(elem=rQ/\l≠0))(hs:c.size<=c'.size)(h:∀(i:Nat)(v v':Y),l-1<=i->c[i]?=C v->c'[i]?=C v'->VR R v v')(hf:f'=f\/∀i,i<c.size->f.1<=i/\i<f.2):OR R l (.cells c elem f) (.cells c' zoA f')|map{es sa:Array eB}(Ld:Nat)(h:EA R es sa):OR R l (.map es Ld) (.map sa Ld)|chan(cap:Nat){b b':Array Y}(closed:Bool)(s r:Nat)(tm:Bool)(h:AV R b b'):OR R l (.chan cap b closed s r tm) (.chan cap b' closed s r tm)|number{a a':bX}(cX:Bool)(h:AR R a a'):OR R l (.number a cX) (.number a' cX)
def OR.mono{R S:BR}(h:R.le S){l:Nat}{o o':Obj}(x:OR R l o o'):OR S l o o':=by cases x with|cells e g d f=>exact .cells e g (λi v j a b c=>(d i v j a b c).mono h) f|map k d=>exact .map k (d.mono h)|chan cap c s r t d=>exact .chan cap c s r t (d.mono h)|number cX d=>exact .number cX (d.mono h)
def OR.row{x c:Array Y}(h:AV R x c)(e:ah):OR R 0 (.cells x e) (.cells c e):=.cells (.inl ⟨rfl,rfl⟩) (cI h.size) (λi v d _ a b=>h.at_ i v d a b) (.inl rfl)
def Wt:Halt->Bool|.panic _|.stuck _=>E|.unsupported (.initOrder _)=>H|.unsupported _=>E|_=>H
inductive cR(P:al){α:Type}:Sem α->Prop|halt{h:Halt}(hm:Wt h=E):cR P (.halt h)|load{m:Mode}{a:bX}{k:Y->Sem α}(hk:∀v,cR P (k v)):cR P (.load m a k)|store{m:Mode}{a:bX}{v:Y}{k:Sem α}(hk:cR P k):cR P (.store m a v k)|new{c:Array Y}{e:ah}{f:Nat×Nat}{k:Nat->Sem α}(hk:∀n,cR P (k n)):cR P (.new (.cells c e f) k)|shape{r:Nat}{k:Option (ah×Nat)->Sem α}(hk:∀n,cR P (k n)):cR P (.shape r k)|frozen{a:bX}{k:Bool->Sem α}(hk:∀n,cR P (k n)):cR P (.frozen a k)|getObj{r:Nat}{k:Obj->Sem α}(hk:∀n,cR P (k n)):cR P (.getObj r k)|choose{q:c6}{k:Nat->Sem α}(hk:∀n,cR P (k n)):cR P (.choose q k)|program{k:al->Sem α}(hk:cR P (k P)):cR P (.program k)|mark{m:Mark}{k:Sem α}(hk:cR P k):cR P (.mark m k)|sys{c:Sys}{k:SysRet->Sem α}(hk:∀r,cR P (k r)):cR P (.sys c k)
def cR.bind{P:al}{α β:Type}{s:Sem α}(h:cR P s)(f:α->Sem β):cR P (s.bind f):=by induction h with|halt h=>exact .halt h|load _ i=>exact .load i|store _ i=>exact .store i|new _ i=>exact .new i|shape _ i=>exact .shape i|frozen _ i=>exact .frozen i|getObj _ i=>exact .getObj i|choose _ i=>exact .choose i|program _ i=>exact .program i|mark _ i=>exact .mark i|sys _ i=>exact .sys i
def cR.Eu{P:al}{α:Type}{s:Sem α}(h:cR P s):∀(w:V)(b:Array bB)(a:α)(w1:V)(e:Array bB),s.runT P w b≠(.ok a w1,e):=by induction h with
 |halt h=>intro w b a w1 e;simp[Sem.runT]|load _ i=>
  intro w b a w1 e;simp only[Sem.runT];split;.simp_all
  .grind|@store m ad v k _ i=>intro w b a w1 e;cases v<;>simp only[Sem.runT]<;>first|(simp;done)|(
   split;.grind
   .grind)|new _ i=>intro w b a w1 e;exact i _ _ _ _ _ _|shape _ i=>intro w b a w1 e;exact i _ _ _ _ _ _|frozen _ i=>intro w b a w1 e;exact i _ _ _ _ _ _|getObj _ i=>
  intro w b a w1 e;simp only[Sem.runT];split;.simp
  .simp_all
  .simp|choose _ i=>
  intro w b a w1 e;simp only[Sem.runT];split;.simp_all
  .simp_all|program _ i=>intro w b a w1 e;exact i _ _ _ _ _|mark _ i=>intro w b a w1 e;exact i _ _ _ _ _|sys _ i=>intro w b a w1 e;exact i _ _ _ _ _ _
def Mark.bare:Mark->Bool|.acquire _|.release _|.releaseMerge _|.disable|.enable|.read _|.write _=>H|_=>E
def SH(l:Nat):Option (ah×Nat)->Option (ah×Nat)->Prop|none,U=>True|some (e,n),C (a,m)=>(a=e/\n<=m/\l=0)\/(e=rQ/\l≠0)|_,_=>False
inductive SR(P P':al){α β:Type}(A:BR->α->β->Prop):BR->Sem α->Sem β->Prop|pure{R:BR}{a:α}{b:β}(h:A R a b):SR P P' A R (.pure a) (.pure b)|load{R:BR}(m:Mode){a a':bX}{k:Y->Sem α}{k':Y->Sem β}(h:AR R a a')(hk:∀v v',VR R v v'->SR P P' A R (k v) (k' v')):SR P P' A R (.load m a k) (.load m a' k')|store{R:BR}(m:Mode){a a':bX}{v v':Y}{k:Sem α}{k':Sem β}(h:AR R a a')(hv:VR R v v')(hk:SR P P' A R k k'):SR P P' A R (.store m a v k) (.store m a' v' k')|new{R:BR}{o o':Obj}{k:Nat->Sem α}{k':Nat->Sem β}(ho:OR R 0 o o')(hk:∀n n',SR P P' A (R.ext n n') (k n) (k' n')):SR P P' A R (.new o k) (.new o' k')|shape{R:BR}{r r' l:Nat}{k:Option (ah×Nat)->Sem α}{k':Option (ah×Nat)->Sem β}(h:R r r' l)(hk:∀x x',SH l x x'->SR P P' A R (k x) (k' x')):SR P P' A R (.shape r k) (.shape r' k')|getObj{R:BR}{r r' l:Nat}{k:Obj->Sem α}{k':Obj->Sem β}(h:R r r' l)(hk:∀o o',OR R l o o'->SR P P' A R (k o) (k' o')):SR P P' A R (.getObj r k) (.getObj r' k')|setObj{R:BR}{r r' l:Nat}{o o':Obj}{k:Sem α}{k':Sem β}(h:R r r' l)(ho:∀m,OR R m o o')(hk:SR P P' A R k k'):SR P P' A R (.setObj r o k) (.setObj r' o' k')|choose{R:BR}(q:c6){k:Nat->Sem α}{k':Nat->Sem β}(hk:∀n,SR P P' A R (k n) (k' n)):SR P P' A R (.choose q k) (.choose q k')|program{R:BR}{k:al->Sem α}{k':al->Sem β}(hk:SR P P' A R (k P) (k' P')):SR P P' A R (.program k) (.program k')|mark{R:BR}{m:Mark}{k:Sem α}{k':Sem β}(hm:Mark.bare m=E)(hk:SR P P' A R k k'):SR P P' A R (.mark m k) (.mark m k')|dead{R:BR}{s:Sem α}{s':Sem β}(h:cR P s):SR P P' A R s s'
section
variable{P P':al}{α β γ δ:Type}{A:BR->α->β->Prop}{B:BR->γ->δ->Prop}
def SR.bind{R:BR}{s:Sem α}{r:Sem β}(h:SR P P' A R s r):∀{f:α->Sem γ}{j:β->Sem δ},(∀S a b,R.le S->A S a b->SR P P' B S (f a) (j b))->SR P P' B R (s.bind f) (r.bind j):=by induction h with|pure h=>intro f j k;exact k _ _ _ (BR.le_refl _) h|load m h _ i=>intro f j k;exact .load m h λv t p=>i v t p k|store m h p _ i=>intro f j k;exact .store m h p (i k)|new l _ i=>intro f j k;exact .new l λn c=>i n c λS a b d u=>k S a b (BR.le_trans (BR.WX _ _ _) d) u|shape h _ i=>intro f j k;exact .shape h λx w y=>i x w y k|getObj h _ i=>intro f j k;exact .getObj h λo e l=>i o e l k|setObj h l _ i=>intro f j k;exact .setObj h l (i k)|choose q _ i=>intro f j k;exact .choose q λn=>i n k|program _ i=>intro f j k;exact .program (i k)|mark g _ i=>intro f j k;exact .mark g (i k)|dead h=>intro f j k;exact .dead (h.bind f)
end
def W4:Obj->Prop|.cells ..|.map ..|.chan ..|.number ..=>True|_=>False
def Fz(w:V)(a:Nat):Prop:=∃c e f,w.heap[a]?=C (.cells c e f)/\∀i,i<c.size->f.1<=i/\i<f.2
structure HR(R:BR)(w w':V):Prop where
 inj:∀a a' b b' l m,R a a' l->R b b' m->(a=b->a'=b')/\(a'=b'->a=b\/(Fz w a/\Fz w b))obj:∀a a' l,R a a' l->∃o o',w.heap[a]?=C o/\w'.heap[a']?=C o'/\OR R l o o'
 kinds:∀(b:Nat)(o:Obj),w.heap[b]?=C o->W4 o
def TA(k:Nat)(w a:V):Prop:=∀j q,j<k->w.tape (w.drawn+j) q=a.tape (a.drawn+j) q
structure KP(R:BR)(w w':V)(R1:BR)(w1 w1':V):Prop where
 le:R.le R1
 size:w.heap.size<=w1.heap.size
 Ak:w1'.heap.size=w'.heap.size+(w1.heap.size-w.heap.size)new:∀a a' l,R1 a a' l->R a a' l\/∃k,a=w.heap.size+k/\a'=w'.heap.size+k/\a<w1.heap.size
 all:∀k,w.heap.size+k<w1.heap.size->R1 (w.heap.size+k) (w'.heap.size+k) 0
 rest:∀b',b'<w'.heap.size->(∀a l,¬R a b' l)->w1'.heap[b']?=w'.heap[b']?
 fz:∀a a' l,R a a' l->Fz w a->w1.heap[a]?=w.heap[a]?/\w1'.heap[a']?=w'.heap[a']?
 os:w1'.os=w'.os
 output:w1'.output=w'.output
 tape:w1'.tape=w'.tape
 osL:w1.os=w.os
 zeL:w1.output=w.output
 zix:w1.tape=w.tape
 drawn:w.drawn<=w1.drawn
 ziU:w1'.drawn=w'.drawn+(w1.drawn-w.drawn)
def SI(R:BR)(w:V)(c:BR)(e:bB):Prop:=match e.loc with|.cell a=>(∃b l,c b a.block l/\(e.write=E->¬(∃d m,R b d m/\Fz w b)))|.obj r=>(∃b l,c b r l/\(e.write=E->¬(∃d m,R b d m/\Fz w b)))|.mark m=>Mark.bare m=E|_=>False
def KP.refl(R:BR)(w w':V):KP R w w' R w w':=⟨BR.le_refl _,ao _,Y0,λ_ _ _ h=>.inl h,λk a=>Y0,λ_ _ _=>rfl,λ_ _ _ _ _=>⟨rfl,rfl⟩,rfl,rfl,rfl,rfl,rfl,rfl,ao _,Y0⟩
variable{w:V}{l:Nat}
def HR.lt{R:BR}{f:V}(h:HR R w f){a e:Nat}(r:R a e l):a<w.heap.size/\e<f.heap.size:=by have⟨o,d,b,c,_⟩:=h.obj a e l r;grind
def KP.trans{R d e:BR}{w w' w1 b w2 w2':V}(h:KP R w w' d w1 b)(k:KP d w1 b e w2 w2')(o:∀a q l,R a q l->a<w.heap.size/\q<w'.heap.size):KP R w w' e w2 w2':=by
 have G:=h.size;have I:=k.size;have s:=h.Ak;have p:=k.Ak;refine⟨BR.le_trans h.le k.le,bw h.size k.size,Y0,?_,?_,?_,?_,k.os.trans h.os,k.output.trans h.output,k.tape.trans h.tape,k.osL.trans h.osL,k.zeL.trans h.zeL,k.zix.trans h.zix,bw h.drawn k.drawn,?_⟩
 .intro a q l r;rcases k.new a q l r with r|⟨j,A,v,z⟩
  .rcases h.new a q l r with r|⟨j,A,v,z⟩;.exact .inl r
   .grind
  .exact .inr ⟨w1.heap.size-w.heap.size+j,Y0,Y0,z⟩
 .intro j J;by_cases i:w.heap.size+j<w1.heap.size;.exact k.le _ _ _ (h.all j i)
  .have:=k.all (w.heap.size+j-w1.heap.size) Y0;rw[show w1.heap.size+(w.heap.size+j-w1.heap.size)=w.heap.size+j by omega,show b.heap.size+(w.heap.size+j-w1.heap.size)=w'.heap.size+j by omega]at this;exact this
 .intro u m B;rw[k.rest u Y0 ?_,h.rest u m B];intro a l r;rcases h.new a u l r with r|⟨j,_,v,_⟩;.simp_all
  .omega
 .intro a q l r f;have⟨g,n⟩:=h.fz a q l r f;have D:Fz w1 a:=by have⟨c,t,F,x,y⟩:=f;exact⟨c,t,F,g.trans x,y⟩
  have⟨d1,d2⟩:=k.fz a q l (h.le _ _ _ r) D;simp_all
 .have:=h.drawn;have:=k.drawn;have:=h.ziU;have:=k.ziU;omega
variable{w1:V}
def SI.later{R g j:BR}{u i:V}(h:KP R w u g w1 i){e:bB}(k:SI g w1 j e):SI R w j e:=by
 have⟨t,wr,s⟩:=e;have p:∀b,(wr=E->¬(∃o m,g b o m/\Fz w1 b))->(wr=E->¬(∃o m,R b o m/\Fz w b)):=by intro b d v⟨o,m,r,f⟩;refine d v ⟨o,m,h.le _ _ _ r,?_⟩;have⟨n,_⟩:=h.fz b o m r f;have⟨c,q,z,x,y⟩:=f;exact⟨c,q,z,n.trans x,y⟩
 cases t with|cell a=>have⟨b,l,r,d⟩:=k;exact⟨b,l,r,p b d⟩|obj a=>have⟨b,l,r,d⟩:=k;exact⟨b,l,r,p b d⟩|mark m=>exact k|output=>exact k|goroutines=>exact k
def SI.zpm{R d f:BR}(h:d.le f){e:bB}(k:SI R w d e):SI R w f e:=by have⟨g,wr,s⟩:=e;cases g with|cell a=>have⟨b,l,r,c⟩:=k;exact⟨b,l,h _ _ _ r,c⟩|obj a=>have⟨b,l,r,c⟩:=k;exact⟨b,l,h _ _ _ r,c⟩|mark m=>exact k|output=>exact k|goroutines=>exact k
def HR.cell{R:BR}{w j:V}(h:HR R w j){a i:bX}(z:AR R a i){v:Y}(d:w.cell? a=C v):∃v',j.cell? i=C v'/\VR R v v':=by have⟨b,A,y⟩:=a;have⟨D,m,s⟩:=i;obtain⟨⟨l,r,p⟩,rfl,rfl⟩:=z;have⟨o,u,q,t,B⟩:=h.obj _ _ _ r;simp[World.cell?]at d⊢;simp[q]at d;simp[t];cases B with|map k e=>simp at d|chan=>simp at d|number=>simp at d|@cells c n elem g f F _ G I x=>
 simp only at d⊢;split at d;.cases d
 .grind
def HR.shape{R:BR}{w i:V}(h:HR R w i){a j l:Nat}(r:R a j l):SH l (w.shape? a) (i.shape? j):=by have⟨o,f,b,c,m⟩:=h.obj _ _ _ r;simp[World.shape?,b,c];cases m with|map k e=>trivial|chan=>trivial|number=>trivial|cells d s n g=>exact d.elim (λx=>.inl ⟨x.1,s,x.2⟩) .inr
def TA.add{k n:Nat}{a w1':V}(h:TA n w a)(t:w1.tape=w.tape)(b:w1'.tape=a.tape)(d:w1.drawn=w.drawn+k)(c:w1'.drawn=a.drawn+k):TA (n-k) w1 w1':=by intro j q e;rw[t,b,d,c,gq,gq];exact h (k+j) q Y0
variable{w':V}
def TA.mono{k n:Nat}(h:TA n w w')(a:k<=n):TA k w w':=λj q b=>h j q Y0
variable{α β:Type}
def kF(P:al)(A:BR->α->β->Prop)(R:BR)(w h:V)(s:Sem β)(g:Array bB)(a:α)(w1:V):Prop:=∃b c d f,s.runT P h g=(.ok b c,g++d)/\A f a b/\HR f w1 c/\KP R w h f w1 c/\∀e∈d,SI R w f e
variable{P:al}
def kF.step{A:BR->α->β->Prop}{R f:BR}{u k c:V}{x y:Sem β}{t v:Array bB}{a:α}(z:HR R w u)(l:KP R w u f k c)(g:∀e∈v,SI R w f e)(B:x.runT P u t=y.runT P c (t++v))(h:kF P A f k c y (t++v) a w1):kF P A R w u x t a w1:=by
 have⟨b,i,j,n,o,p,q,m,s⟩:=h;refine⟨b,i,v++j,n,Y7,p,q,l.trans m (λ_ _ _ r=>z.lt r),?_⟩;intro e d;rcases Array.mem_append.1 d with d|d;.exact(g e d).zpm m.le
 .exact(s e d).later l
variable{a:bX}
def zb5{R:BR}{g:V}(h:HR R w g){i:bX}(j:AR R a i)(b:Bool):∃c,w.farLoad P a b=.error (.stuck c):=by have⟨⟨l,r,_⟩,_⟩:=j;have⟨o,e,d,f,k⟩:=h.obj _ _ _ r;cases k<;>exact⟨_,by simp[World.farLoad,World.noCell,d];rfl⟩
def Xq{R:BR}{g:V}(h:HR R w g){i:bX}(j:AR R a i)(v:Y)(b:Bool):∃c,w.farStore P a v b=.error (.stuck c):=by have⟨⟨l,r,_⟩,_⟩:=j;have⟨o,e,d,f,k⟩:=h.obj _ _ _ r;cases k<;>exact⟨_,by simp[World.farStore,World.noCell,d];rfl⟩
variable{v:Y}
def AV.set{R:BR}{x x':Array Y}(h:AV R x x')(i:Nat){c:Y}(f:VR R v c):AV R (x.setIfInBounds i v) (x'.setIfInBounds i c):=by
 refine⟨by simp[h.size],?_⟩;intro j u d b a;rw[bM]at b a;by_cases e:i=j;.simp_all
 .rw[if_neg e]at b a;exact h.at_ j u d b a
def E0{R:BR}(hr:HR R w w'){a':bX}(ha:AR R a a'){v':Y}(hv:VR R v v'){u:Y}(hc:w.cell? a=C u)(N:w.frozen? a=H):w'.frozen? a'=H/\HR R (w.setCell a v) (w'.setCell a' v')/\KP R w w' R (w.setCell a v) (w'.setCell a' v')/\¬(∃x m,R a.block x m/\Fz w a.block):=by have⟨b,off,spot⟩:=a;have⟨b',O,J⟩:=a';obtain⟨⟨l,r,Z⟩,rfl,rfl⟩:=ha;have⟨o,o',D,W,ho⟩:=hr.obj _ _ _ r;simp[World.cell?]at hc;simp[D]at hc;cases ho with|map k e=>simp at hc|chan=>simp at hc|number=>simp at hc|@cells c S elem B f f' T Q0 Q1 K=>
 simp only at hc;have hs:spot.isSome=H:=by
  by_cases hs:spot.isSome=E;.rw[if_pos hs]at hc;cases hc
  .simpa using hs
 have t:off<c.size:=by rw[if_neg (by simp[hs])]at hc;exact(ab.1 hc).1
 have Q2:¬(f.1<=off/\off<f.2):=by intro hx;simp only[World.frozen?,D]at N;simp[hx.1,hx.2]at N
 have A:=K.resolve_right λe=>Q2 (e off t);have n:¬Fz w b:=by rintro⟨d,Q3,g,hd,p⟩;rw[D]at hd;cases hd;exact Q2 (p off t)
 have F:∀(k:Nat),(w.setCell ⟨b,off,spot⟩ v).heap[k]?=if b=k then C (.cells (c.setIfInBounds off v) elem f)else w.heap[k]?:=by
  intro k;simp[World.setCell,bh];split
  .rename_i j;subst j;simp[D,hs]
  .rfl
 have Q3:∀(k:Nat),(w'.setCell ⟨b',off,spot⟩ v').heap[k]?=if b'=k then C (.cells (S.setIfInBounds off v') B f')else w'.heap[k]?:=by
  intro k;simp[World.setCell,bh];split
  .rename_i j;subst j;simp[W,hs]
  .rfl
 have G:∀k,Fz w k->Fz (w.setCell ⟨b,off,spot⟩ v) k:=λk j=>by have L:¬b=k:=λx=>n (x▸j);have⟨x,y,z,h,p⟩:=j;exact⟨x,y,z,by rw[F,if_neg L];exact h,p⟩
 refine⟨?_,⟨λ_ _ _ _ _ _ r s=>⟨(hr.inj _ _ _ _ _ _ r s).1,λe=>((hr.inj _ _ _ _ _ _ r s).2 e).imp id λz=>⟨G _ z.1,G _ z.2⟩⟩,?_,?_⟩,⟨BR.le_refl _,by simp[World.setCell],by simp[World.setCell],λ_ _ _ h=>.inl h,λk j=>by simp[World.setCell]at j<;>omega,?_,?_,rfl,rfl,rfl,rfl,rfl,rfl,ao _,by simp[World.setCell]⟩,λ⟨_,_,_,z⟩=>n z⟩
 .simp[World.frozen?,W];rw[A];simpa using Q2
 .intro k k' m rk;by_cases e:b=k
  .have M:=(hr.inj _ _ _ _ _ _ r rk).1 e;subst e M;have⟨x,x',y,I,z⟩:=hr.obj _ _ _ rk;rw[D]at y;rw[W]at I;cases y;cases I;refine⟨_,_,by rw[F,if_pos rfl],by rw[Q3,if_pos rfl],?_⟩;cases z with|cells X P Q4 zf=>
   refine .cells X (by simpa using P) (λi u u' hi hu q=>?_) (.inl A);rw[bM]at hu q;by_cases Q:off=i
   .subst Q;rw[if_pos rfl,if_pos t]at hu;rw[if_pos rfl,if_pos (Nat.lt_of_lt_of_le t P)]at q;cases hu;cases q;exact hv
   .rw[if_neg Q]at hu q;exact Q4 i u u' hi hu q
  .have⟨x,x',y,I,z⟩:=hr.obj k k' m rk;exact⟨x,x',by rw[F,if_neg e];exact y,by rw[Q3,if_neg (λx=>((hr.inj _ _ _ _ _ _ r rk).2 x).elim e λz=>n z.1)];exact I,z⟩
 .intro k o j;rw[F]at j;split at j;.cases j;trivial
  .exact hr.kinds k o j
 .intro k j hn;have:¬b'=k:=λx=>hn b l (x▸r);rw[Q3,if_neg this]
 .intro k k' m rk fk;have:¬b=k:=λx=>n (x▸fk);exact⟨by rw[F,if_neg this],by rw[Q3,if_neg (λx=>((hr.inj _ _ _ _ _ _ r rk).2 x).elim this λz=>n z.1)]⟩
variable{o:Obj}
def Mc{R:BR}{a:Obj}(h:OR R l o a):W4 o:=by cases h<;>trivial
def zew(o:Obj){a:Nat}(h:Fz w a):Fz {w with heap:=w.heap.push o} a:=by have⟨x,y,z,h,b⟩:=h;refine⟨x,y,z,?_,b⟩;have l:=(ab.1 h).1;rw[Array.getElem?_push_lt l,<-h,cB l]
def Py{R:BR}(h:HR R w w'){c:Obj}(p:OR R 0 o c):HR (R.ext w.heap.size w'.heap.size) {w with heap:=w.heap.push o} {w' with heap:=w'.heap.push c}/\KP R w w' (R.ext w.heap.size w'.heap.size) {w with heap:=w.heap.push o} {w' with heap:=w'.heap.push c}:=by
 refine⟨⟨?_,?_,?_⟩,⟨BR.WX _ _ _,Y1,Y1,?_,?_,?_,?_,rfl,rfl,rfl,rfl,rfl,rfl,ao _,Y1⟩⟩
 .rintro a j b t l m(r|⟨rfl,rfl,rfl⟩)(s|⟨rfl,rfl,rfl⟩);.exact⟨(h.inj _ _ _ _ _ _ r s).1,λe=>((h.inj _ _ _ _ _ _ r s).2 e).imp id λz=>⟨zew _ z.1,zew _ z.2⟩⟩
  .have:=h.lt r;omega
  .have:=h.lt s;omega
  .omega
 .rintro a j l(r|⟨rfl,rfl,rfl⟩)
  .have⟨x,q,d,f,g⟩:=h.obj a j l r;have k:=h.lt r;exact⟨x,q,Y8,Y8,g.mono (BR.WX _ _ _)⟩
  .exact⟨o,c,Y1,Y1,p.mono (BR.WX _ _ _)⟩
 .intro b x n;rw[bx]at n;split at n;.cases n;exact Mc p
  .exact h.kinds b x n
 .rintro a j l(r|⟨rfl,rfl,rfl⟩);.exact .inl r
  .simp_all
 .intro k i;simp[Array.size_push]at i;have:k=0:=Y0;subst this;exact .inr ⟨rfl,rfl,rfl⟩
 .grind
 .intro a j l r _;have k:=h.lt r;grind
def qX{R:BR}(q:HR R w w'){a A:Nat}(r:R a A l){d u:Obj}(D:∀m,OR R m o d)(F:w.heap[a]?=C u)(G:∀c e f,u≠.cells c e f):HR R {w with heap:=w.heap.setIfInBounds a o} {w' with heap:=w'.heap.setIfInBounds A d}/\KP R w w' R {w with heap:=w.heap.setIfInBounds a o} {w' with heap:=w'.heap.setIfInBounds A d}/\¬(∃x m,R a x m/\Fz w a):=by
 have k:=q.lt r;have g:¬Fz w a:=by rintro⟨c,e,f,h,_⟩;rw[F]at h;cases h;simp_all
 have i:∀k,Fz w k->Fz {w with heap:=w.heap.setIfInBounds a o} k:=λk j=>by have p:¬a=k:=Y8;have⟨x,y,z,h,n⟩:=j;exact⟨x,y,z,Y7,n⟩
 refine⟨⟨λ_ _ _ _ _ _ r s=>⟨(q.inj _ _ _ _ _ _ r s).1,λe=>((q.inj _ _ _ _ _ _ r s).2 e).imp id λz=>⟨i _ z.1,i _ z.2⟩⟩,?_,?_⟩,⟨BR.le_refl _,Y1,Y1,λ_ _ _ h=>.inl h,λk j=>Y8,?_,?_,rfl,rfl,rfl,rfl,rfl,rfl,ao _,Y1⟩,λ⟨_,_,_,z⟩=>g z⟩
 .intro k B m rk;rw[bM,bM];by_cases e:a=k;.rw[if_pos e,if_pos ((q.inj _ _ _ _ _ _ r rk).1 e),if_pos ‹a<w.heap.size/\_›.1,if_pos ‹a<w.heap.size/\_›.2];simp_all
  .rw[if_neg e,if_neg (λx=>((q.inj _ _ _ _ _ _ r rk).2 x).elim e λz=>g z.1)];exact q.obj k B m rk
 .intro b x t;rw[bM]at t;split at t
  .split at t;.cases t;exact Mc (D 0)
   .cases t
  .exact q.kinds b x t
 .grind
 .intro k B m rk I;have v:¬a=k:=Y8;exact⟨Y7,by rw[bM,if_neg (λx=>((q.inj _ _ _ _ _ _ r rk).2 x).elim v λz=>g z.1)]⟩
variable{m:Mode}
def QA{k:Sem α}{g:Array bB}{x:α}{d:Array bB}(h:(Sem.store m a v k).runT P w g=(.ok x w1,d))(f:∀b,∃e,w.farStore P a v b=.error (.stuck e)):∃u,w.cell? a=C u/\w.frozen? a=H/\(∀x,v≠.agg x)/\(∀x,v≠.tuple x)/\k.runT P (w.setCell a v) (g.push ⟨.cell a,E,m==.atomic⟩)=(.ok x w1,d):=by cases v with|agg=>simp[Sem.runT]at h|tuple=>simp[Sem.runT]at h|_=>
 simp only[Sem.runT]at h;split at h;.grind
 .have⟨e,c⟩:=f (m==.atomic);rw[c]at h;simp at h
def VR.zrM{R:BR}{c:Y}(h:VR R v c)(a:∀x,v≠.agg x)(b:∀x,v≠.tuple x):(∀x,c≠.agg x)/\(∀x,c≠.tuple x):=by cases h<;>first|cases a _ rfl|cases b _ rfl|simp_all
def Me{u:Y}{k:Sem α}{e:Array bB}(c:w.cell? a=C u)(z:w.frozen? a=H)(h:∀x,v≠.agg x)(b:∀x,v≠.tuple x):(Sem.store m a v k).runT P w e=k.runT P (w.setCell a v) (e.push ⟨.cell a,E,m==.atomic⟩):=by cases v with|agg=>cases h _ rfl|tuple=>cases b _ rfl|_=>simp only[Sem.runT,c,z];rfl
def Cl(a:Array bB)(e:bB):a.push e=a++#[e]:=Y1
variable{P':al}
def SR.run{A:BR->α->β->Prop}{R:BR}{s:Sem α}{s':Sem β}(h:SR P P' A R s s'):∀(w w':V)(es sa:Array bB)(a:α)(w1:V)(K9:Array bB),HR R w w'->s.runT P w es=(.ok a w1,K9)->∀n,w1.drawn<=w.drawn+n->TA n w w'->w.drawn<=w1.drawn/\kF P' A R w w' s' sa a w1:=by induction h with
 |pure h=>intro w w' es sa a w1 K9 hr hs n hn ht;simp[Sem.runT,aX,eQ]at hs;obtain⟨⟨rfl,rfl⟩,rfl⟩:=hs;exact⟨ao _,_,_,#[],_,by simp[Sem.runT],h,hr,KP.refl _ _ _,Y1⟩|@load R m a a' k k' ha y i=>
  intro w w' es sa x w1 K9 hr hs n hn ht;simp only[Sem.runT]at hs;split at hs
  .rename_i v hv;have⟨v',I,J⟩:=hr.cell ha hv;have⟨d,o⟩:=i v v' J w w' _ (sa++#[⟨.cell a',H,m==.atomic⟩]) x w1 K9 hr hs n hn ht;refine⟨d,kF.step hr (KP.refl _ _ _) ?_ ?_ o⟩
   .intro e g;obtain rfl:=by simpa using g
    have⟨⟨l,r,_⟩,_⟩:=ha;exact⟨a.block,l,r,Y1⟩
   .simp only[Sem.runT,I,Cl]
  .have⟨e,g⟩:=zb5 (P:=P) hr ha (m==.atomic);rw[g]at hs;simp at hs|@store R m a a' v v' k k' ha hv y i=>
  intro w w' es sa x w1 K9 hr hs n hn ht;have⟨u,hu,Q,n1,K,hs⟩:=QA hs (λb=>Xq hr ha v b);have⟨u',L,_⟩:=hr.cell ha hu;have⟨M,j,B,X⟩:=E0 hr ha hv hu Q;have⟨N,O⟩:=hv.zrM n1 K;have⟨d,o⟩:=i (w.setCell a v) (w'.setCell a' v') _ (sa++#[⟨.cell a',E,m==.atomic⟩]) x w1 K9 j hs n hn ht;refine⟨d,kF.step hr B ?_ ?_ o⟩
  .intro e g;obtain rfl:=by simpa using g
   have⟨⟨l,r,_⟩,_⟩:=ha;exact⟨a.block,l,r,λ_=>X⟩
  .rw[Me L M N O,Cl]|@new R o z k k' ho y i=>intro w w' es sa x w1 K9 hr hs n hn ht;have⟨j,B⟩:=Py hr ho;simp only[Sem.runT]at hs;have⟨d,o⟩:=i w.heap.size w'.heap.size {w with heap:=w.heap.push o} {w' with heap:=w'.heap.push z} _ (sa++#[]) x w1 K9 j hs n hn ht;exact⟨d,kF.step hr B Y1 (by simp[Sem.runT]) o⟩|@shape R r p l k k' h y i=>intro w w' es sa x w1 K9 hr hs n hn ht;simp only[Sem.runT]at hs;have⟨d,o⟩:=i _ _ (hr.shape h) w w' _ (sa++#[]) x w1 K9 hr hs n hn ht;exact⟨d,kF.step hr (KP.refl _ _ _) Y1 (by simp[Sem.runT]) o⟩|@getObj R r p l k k' h y i=>
  intro w w' es sa x w1 K9 hr hs n hn ht;have⟨o,z,F,D,ho⟩:=hr.obj _ _ _ h;simp only[Sem.runT,F]at hs;have Z:=ho
  cases ho with |cells=>simp at hs|@map S G Ld g=>
   have⟨d,o⟩:=i _ _ Z w w' _ (sa++#[⟨.obj p,H,H⟩]) x w1 K9 hr hs n hn ht;refine⟨d,kF.step hr (KP.refl _ _ _) ?_ ?_ o⟩
   .intro e g;obtain rfl:=by simpa using g
    exact⟨r,l,h,Y1⟩
   .simp only[Sem.runT,D,Cl];rfl|@chan cap b b' c s t tm T=>
   have⟨d,o⟩:=i _ _ Z w w' _ (sa++#[⟨.obj p,H,E⟩]) x w1 K9 hr hs n hn ht;refine⟨d,kF.step hr (KP.refl _ _ _) ?_ ?_ o⟩
   .intro e g;obtain rfl:=by simpa using g
    exact⟨r,l,h,Y1⟩
   .simp only[Sem.runT,D,Cl];rfl|@number a a' cX ha=>
   have⟨d,o⟩:=i _ _ Z w w' _ (sa++#[⟨.obj p,H,H⟩]) x w1 K9 hr hs n hn ht;refine⟨d,kF.step hr (KP.refl _ _ _) ?_ ?_ o⟩
   .intro e g;obtain rfl:=by simpa using g
    exact⟨r,l,h,Y1⟩
   .simp only[Sem.runT,D,Cl];rfl
 |@setObj R r p l o z k k' h ho y i=>
  intro w w' es sa x w1 K9 hr hs n hn ht;have⟨u,u',F,D,hu⟩:=hr.obj _ _ _ h;simp only[Sem.runT,F]at hs;have key:∀{u:Obj}{u':Obj},w.heap[r]?=C u->w'.heap[p]?=C u'->(∀c e f,u≠.cells c e f)->(∀c e f,u'≠.cells c e f)->k.runT P {w with heap:=w.heap.setIfInBounds r o} (es.push ⟨.obj r,E,o.isChan⟩)=(.ok x w1,K9)->w.drawn<=w1.drawn/\kF P' A R w w' (.setObj p z k') sa x w1:=by
   intro u u' g1 g2 n1 K hs;have⟨j,B,X⟩:=qX hr h ho g1 n1;have⟨d,Q0⟩:=i {w with heap:=w.heap.setIfInBounds r o} {w' with heap:=w'.heap.setIfInBounds p z} _ (sa++#[⟨.obj p,E,z.isChan⟩]) x w1 K9 j hs n hn ht;refine⟨d,kF.step hr B ?_ ?_ Q0⟩
   .intro e g;obtain rfl:=by simpa using g
    exact⟨r,l,h,λ_=>X⟩
   .cases u' with|cells c e f=>cases K c e f rfl|_=>simp only[Sem.runT,g2,Cl]
  cases hu with |cells=>simp at hs|map Ld g=>exact key F D (λ_ _ _=>Y1) (λ_ _ _=>Y1) hs|chan cap c s t tm T=>exact key F D (λ_ _ _=>Y1) (λ_ _ _=>Y1) hs|number cX ha=>exact key F D (λ_ _ _=>Y1) (λ_ _ _=>Y1) hs
 |@choose R q k k' y i=>
  intro w w' es sa x w1 K9 hr hs n hn ht;simp only[Sem.runT]at hs;by_cases Q1:q.forced=E
  .rw[if_pos Q1]at hs;have⟨d,o⟩:=i 0 w w' _ (sa++#[]) x w1 K9 hr hs n hn ht;exact⟨d,kF.step hr (KP.refl _ _ _) Y1 (by simp[Sem.runT,Q1]) o⟩
  .rw[if_neg Q1]at hs;have j:HR R {w with drawn:=w.drawn+1} {w' with drawn:=w'.drawn+1}:=⟨hr.inj,hr.obj,hr.kinds⟩;have B:KP R w w' R {w with drawn:=w.drawn+1} {w' with drawn:=w'.drawn+1}:=⟨BR.le_refl _,ao _,Y1,λ_ _ _ h=>.inl h,λk y=>by simp at y<;>omega,λ_ _ _=>rfl,λ_ _ _ _ _=>⟨rfl,rfl⟩,rfl,rfl,rfl,rfl,rfl,rfl,Y1,Y1⟩;cases n with|zero=>have:=(i _ {w with drawn:=w.drawn+1} {w' with drawn:=w'.drawn+1} es sa x w1 K9 j hs 0 (by simp;omega) (λ_ _ h=>Y0)).1;simp  at this;omega|succ n=>have e:w.tape w.drawn q=w'.tape w'.drawn q:=ht 0 q Y0;have⟨d,o⟩:=i _ {w with drawn:=w.drawn+1} {w' with drawn:=w'.drawn+1} es (sa++#[]) x w1 K9 j hs n (by simp;omega) (ht.add (k:=1) rfl rfl rfl rfl);simp  at d;refine⟨Y0,kF.step hr B Y1 ?_ o⟩;simp[Sem.runT,Q1,e]
 |@program R k k' y i=>intro w w' es sa x w1 K9 hr hs n hn ht;have⟨d,o⟩:=i w w' es (sa++#[]) x w1 K9 hr hs n hn ht;exact⟨d,kF.step hr (KP.refl _ _ _) Y1 (by simp[Sem.runT]) o⟩|@mark R m k k' W y i=>
  intro w w' es sa x w1 K9 hr hs n hn ht;simp only[Sem.runT]at hs;have⟨d,o⟩:=i w w' _ (sa++#[⟨.mark m,H,E⟩]) x w1 K9 hr hs n hn ht;refine⟨d,kF.step hr (KP.refl _ _ _) ?_ (by simp[Sem.runT]) o⟩;intro e g;obtain rfl:=by simpa using g
  exact W|dead h=>intro w w' es sa x w1 K9 hr hs n hn ht;cases h.Eu _ _ _ _ _ hs
def World.on(w:V)(T:Nat->c6->Nat)(d:Nat):V:={w with tape:=T,drawn:=d}
def s7(w:V):Prop:=∀(b:Nat)(o:Obj),w.heap[b]?=C o->W4 o
def s7.push{w:V}(h:s7 w){o:Obj}(c:W4 o):s7 {w with heap:=w.heap.push o}:=by
 intro b x a;rw[bx]at a;split at a;.simp_all
 .exact h b x a
def s7.set(h:s7 w)(a:bX)(v:Y):s7 (w.setCell a v):=by
 intro b x d;simp[World.setCell,bh]at d;split at d;.cases c:w.heap[b]? with|none=>rename_i e;simp[c]at d|some o=>have f:=h b o c;rename_i e;rw[c]at d;simp[cG,ay]at d;subst d;cases o<;>trivial
 .exact h b x d
def s7.far(h:s7 w)(a:bX)(b:Bool)(e:w.cell? a=U):∃c,w.farLoad P a b=.error (.stuck c):=by cases d:w.heap[a.block]? with|none=>exact⟨_,by simp[World.farLoad,World.noCell,d];rfl⟩|some o=>have k:=h _ _ d;cases o<;>first|exact k.elim|exact⟨_,by simp[World.farLoad,World.noCell,d];rfl⟩
def s7.zye(h:s7 w)(a:bX)(v:Y)(b:Bool)(e:w.cell? a=U):∃c,w.farStore P a v b=.error (.stuck c):=by cases d:w.heap[a.block]? with|none=>exact⟨_,by simp[World.farStore,World.noCell,d];rfl⟩|some o=>have k:=h _ _ d;cases o<;>first|exact k.elim|exact⟨_,by simp[World.farStore,World.noCell,d];rfl⟩
def zr{k:Sem α}{f:Array bB}{x:Halt}{d:Array bB}(b:s7 w)(h:(Sem.store m a v k).runT P w f=(.halt x w1,d)):Wt x=E\/k.runT P (w.setCell a v) (f.push ⟨.cell a,E,m==.atomic⟩)=(.halt x w1,d):=by cases v with|agg=>simp[Sem.runT]at h;exact .inl (by rw[<-h.1.1];rfl)|tuple=>simp[Sem.runT]at h;exact .inl (by rw[<-h.1.1];rfl)|_=>
 simp only[Sem.runT]at h;split at h
 .split at h;.simp at h;exact .inl (by rw[<-h.1.1];rfl)
  .exact .inr h
 .rename_i g;obtain⟨e,c⟩:=b.zye a _ (m==.atomic) g;rw[c]at h;simp at h;exact .inl (by rw[<-h.1.1];rfl)
def cR.Wt{P:al}{α:Type}{s:Sem α}(h:cR P s):∀(w:V)(u:Array bB)(x:Halt)(w1:V)(t:Array bB),s7 w->s.runT P w u=(.halt x w1,t)->Rn.Wt x=E:=by
 induction h with|halt l=>intro w u x w1 t d r;simp[Sem.runT,aX,Result.halt.injEq]at r;rw[<-r.1.1];exact l|@load m a k _ i=>
  intro w u x w1 t d r;simp only[Sem.runT]at r;split at r;.grind
  .rename_i y;have⟨e,n⟩:=d.far (P:=P) a (m==.atomic) y;rw[n]at r;simp at r;rw[<-r.1.1];rfl|@store m a v k _ i=>
  intro w u x w1 t d r;rcases zr d r with h|h;.exact h
  .exact i _ _ _ _ _ (d.set a v) h|@new c e f k _ i=>intro w u x w1 t d r;exact i _ {w with heap:=w.heap.push (.cells c e f)} _ _ _ _ (d.push trivial) r|shape _ i=>intro w u x w1 t d r;exact i _ _ _ _ _ _ d r|frozen _ i=>intro w u x w1 t d r;exact i _ _ _ _ _ _ d r|getObj _ i=>
  intro w u x w1 t d r;simp only[Sem.runT]at r;split at r;.simp at r;rw[<-r.1.1];rfl
  .grind
  .simp at r;rw[<-r.1.1];rfl|choose _ i=>
  intro w u x w1 t d r;simp only[Sem.runT]at r;split at r;.grind
  .exact i _ {w with drawn:=w.drawn+1} _ _ _ _ d r|program _ i=>intro w u x w1 t d r;exact i _ _ _ _ _ d r|mark _ i=>intro w u x w1 t d r;exact i _ _ _ _ _ d r|@sys c k _ i=>
  intro w u x w1 t d r;refine i _ (w.sys c).2 _ _ _ _ (λb o p=>d b o ?_) r;have:(w.sys c).2.heap=w.heap:=by
   unfold World.sys;have ask:∀{β:Type}(q:Ask β)(w:V),(w.ask q).2.heap=w.heap:=by intro β q;induction q with|done a=>intro w;rfl|ask g range k j=>
    intro w;unfold World.ask;dsimp only;split;.exact j _ _
    .exact(j _ _).trans rfl
   have h:=ask (Kernel.perform c w.os) w;split<;>simp_all
  rw[<-this];exact p
def SR.Wt{P W:al}{α β:Type}{A:BR->α->β->Prop}{R:BR}{s:Sem α}{X:Sem β}(h:SR P W A R s X):∀(w w':V)(M:Array bB)(x:Halt)(w1:V)(K:Array bB),HR R w w'->s.runT P w M=(.halt x w1,K)->Rn.Wt x=E:=by induction h with
 |pure h=>intro w w' M x w1 K L J;simp[Sem.runT]at J|@load R m a Z k N Q d i=>
  intro w w' M x w1 K L J;simp only[Sem.runT]at J;split at J
  .rename_i v T;have⟨v',G,y⟩:=L.cell Q T;grind
  .have⟨e,n⟩:=zb5 (P:=P) L Q (m==.atomic);rw[n]at J;simp at J;rw[<-J.1.1];rfl|@store R m a Z v v' k N Q T d i=>
  intro w w' M x w1 K L J;by_cases hc:∃u,w.cell? a=C u/\w.frozen? a=H
  .have⟨u,S,z⟩:=hc;rcases zr (λb o h=>L.kinds b o h) J with h|h;.exact h
   .have⟨_,B,_⟩:=E0 L Q T S z;grind
  .cases v with |agg=>simp[Sem.runT]at J;rw[<-J.1.1];rfl|tuple=>simp[Sem.runT]at J;rw[<-J.1.1];rfl|_=>
    simp[Sem.runT]at J;split at J
    .rename_i u S;split at J;.simp at J;rw[<-J.1.1];rfl
     .simp_all
    .obtain⟨e,n⟩:=Xq L Q _ (m==.atomic);rw[n]at J;simp at J;rw[<-J.1.1];rfl
 |@new R o g k N O d i=>intro w w' M x w1 K L J;simp only[Sem.runT]at J;exact i w.heap.size w'.heap.size {w with heap:=w.heap.push o} {w' with heap:=w'.heap.push g} _ x w1 K (Py L O).1 J|@shape R r p l k N h d i=>intro w w' M x w1 K L J;exact i _ _ (L.shape h) w w' _ x w1 K L J|@getObj R r p l k N h d i=>intro w w' M x w1 K L J;have⟨o,g,j,D,O⟩:=L.obj _ _ _ h;simp only[Sem.runT,j]at J;have f:=O;cases O with |cells=>simp at J;rw[<-J.1.1];rfl|map Ld n=>grind|chan cap c s t tm I=>grind|number cX Q=>grind
 |@setObj R r p l o g k N h O d i=>intro w w' M x w1 K L J;have⟨u,u',j,D,S⟩:=L.obj _ _ _ h;simp only[Sem.runT,j]at J;cases S with |cells=>simp at J;rw[<-J.1.1];rfl|map Ld n=>exact i {w with heap:=w.heap.setIfInBounds r o} {w' with heap:=w'.heap.setIfInBounds p g} _ x w1 K (qX L h O j (λ_ _ _=>Y1)).1 J|chan cap c s t tm I=>exact i {w with heap:=w.heap.setIfInBounds r o} {w' with heap:=w'.heap.setIfInBounds p g} _ x w1 K (qX L h O j (λ_ _ _=>Y1)).1 J|number cX Q=>exact i {w with heap:=w.heap.setIfInBounds r o} {w' with heap:=w'.heap.setIfInBounds p g} _ x w1 K (qX L h O j (λ_ _ _=>Y1)).1 J
 |@choose R q k N d i=>
  intro w w' M x w1 K L J;simp only[Sem.runT]at J;split at J;.grind
  .exact i _ {w with drawn:=w.drawn+1} w' _ x w1 K ⟨L.inj,L.obj,L.kinds⟩ J|@program R k N d i=>intro w w' M x w1 K L J;exact i w w' M x w1 K L J|@mark R m k N F d i=>intro w w' M x w1 K L J;exact i w w' _ x w1 K L J|dead h=>intro w w' M x w1 K L J;exact h.Wt _ _ _ _ _ L.kinds J
def SR.YY{A:BR->α->β->Prop}{R:BR}{s:Sem α}{s':Sem β}(h:SR P P' A R s s'):∀(w w':V)(es:Array bB)(a:α)(w1:V)(S:Array bB),HR R w w'->s.runT P w es=(.ok a w1,S)->∀n T d,w1.drawn<=w.drawn+n->TA n w (World.on w T d)->w.drawn<=w1.drawn/\s.runT P (World.on w T d) es=(.ok a (World.on w1 T (d+(w1.drawn-w.drawn))),S):=by induction h with
 |pure h=>intro w w' es a w1 S X W n T d hn Z;simp[Sem.runT,aX,eQ]at W;obtain⟨⟨rfl,rfl⟩,rfl⟩:=W;exact⟨ao _,by simp[Sem.runT]⟩|@load R m a a' k k' ha g i=>
  intro w w' es x w1 S X W n T d hn Z;simp only[Sem.runT]at W⊢;have e:(World.on w T d).cell? a=w.cell? a:=rfl;rw[e];split at W
  .rename_i v hv;have⟨v',I,F⟩:=X.cell ha hv;grind
  .have⟨e,D⟩:=zb5 (P:=P) X ha (m==.atomic);rw[D]at W;simp at W|@store R m a a' v v' k k' ha hv g i=>intro w w' es x w1 S X W n T d hn Z;have⟨u,hu,G,n1,J,W⟩:=QA W (λb=>Xq X ha v b);have⟨_,f,_⟩:=E0 X ha hv hu G;have O:(World.on w T d).cell? a=C u:=hu;rw[Me O G n1 J];exact i (w.setCell a v) (w'.setCell a' v') _ x w1 S f W n T d hn Z|@new R o z k k' ho g i=>intro w w' es x w1 S X W n T d hn Z;simp only[Sem.runT]at W⊢;exact i w.heap.size w'.heap.size {w with heap:=w.heap.push o} {w' with heap:=w'.heap.push z} _ x w1 S (Py X ho).1 W n T d hn Z|@shape R r B l k k' h g i=>intro w w' es x w1 S X W n T d hn Z;exact i _ _ (X.shape h) w w' _ x w1 S X W n T d hn Z|@getObj R r B l k k' h g i=>intro w w' es x w1 S X W n T d hn Z;have⟨o,z,j,K,ho⟩:=X.obj _ _ _ h;have p:(World.on w T d).heap[r]?=C o:=j;simp only[Sem.runT,j]at W;simp only[Sem.runT,p];have y:=ho;cases ho with |cells=>simp at W|map Ld D=>grind|chan cap c s t tm L=>grind|number cX ha=>grind
 |@setObj R r B l o z k k' h ho g i=>intro w w' es x w1 S X W n T d hn Z;have⟨u,u',j,K,hu⟩:=X.obj _ _ _ h;have p:(World.on w T d).heap[r]?=C u:=j;simp only[Sem.runT,j]at W;simp only[Sem.runT,p];cases hu with |cells=>simp at W|map Ld D=>exact i {w with heap:=w.heap.setIfInBounds r o} {w' with heap:=w'.heap.setIfInBounds B z} _ x w1 S (qX X h ho j (λ_ _ _=>Y1)).1 W n T d hn Z|chan cap c s t tm L=>exact i {w with heap:=w.heap.setIfInBounds r o} {w' with heap:=w'.heap.setIfInBounds B z} _ x w1 S (qX X h ho j (λ_ _ _=>Y1)).1 W n T d hn Z|number cX ha=>exact i {w with heap:=w.heap.setIfInBounds r o} {w' with heap:=w'.heap.setIfInBounds B z} _ x w1 S (qX X h ho j (λ_ _ _=>Y1)).1 W n T d hn Z
 |@choose R q k k' g i=>
  intro w w' es x w1 S X W n T d hn Z;simp only[Sem.runT]at W⊢;by_cases Q:q.forced=E;.grind
  .rw[if_neg Q]at W⊢;have f:HR R {w with drawn:=w.drawn+1} w':=⟨X.inj,X.obj,X.kinds⟩;cases n with|zero=>have:=(i _ {w with drawn:=w.drawn+1} w' es x w1 S f W 0 T d (by simp;omega) (λ_ _ h=>Y0)).1;simp  at this;omega|succ n=>have e:w.tape w.drawn q=T d q:=Z 0 q Y0;have⟨d1,o⟩:=i _ {w with drawn:=w.drawn+1} w' es x w1 S f W n T (d+1) (by simp;omega) (Z.add (k:=1) rfl rfl rfl rfl);simp  at d1;refine⟨Y0,?_⟩;have M:d+1+(w1.drawn-(w.drawn+1))=d+(w1.drawn-w.drawn):=Y0;simp only[M]at o;show(k (q.cut (T d q))).runT P (World.on {w with drawn:=w.drawn+1} T (d+1)) es=_;rw[<-e];exact o
 |@program R k k' g i=>intro w w' es x w1 S X W n T d hn Z;exact i w w' es x w1 S X W n T d hn Z|@mark R m k k' N g i=>intro w w' es x w1 S X W n T d hn Z;simp only[Sem.runT]at W⊢;grind|dead h=>intro w w' es x w1 S X W n T d hn Z;cases h.Eu _ _ _ _ _ W
structure PE(P P':al):Prop where
 Ag:∀t,P'.info? t=P.info? t
 none:P.globals.size=0
 no:P.info? rQ=Option.none
 depth:P'.depth=P.depth
 held:∀t,P'.stoodInHeld t=P.stoodInHeld t
def PE.under(h:PE P P')(t:ah):P'.underlying t=P.underlying t:=by simp[Program.underlying,h.Ag]
def ZOk(P:al)(t:ah):Prop:=∀i v,P.info? t=C i->i.zero=C v->∀R:BR,VR R v v
abbrev SV(P P':al)(R:BR)(s s':Sem Y):Prop:=SR P P' (λS a b=>VR S a b) R s s'
abbrev SE(P P':al)(R:BR)(s s':Sem α):Prop:=SR P P' (λ_ a b=>a=b) R s s'
abbrev SA(P P':al)(R:BR)(s s':Sem (Array Y)):Prop:=SR P P' (λS a b=>AV S a b) R s s'
section
variable{P P':al}{α β γ δ:Type}{A:BR->α->β->Prop}{B:BR->γ->δ->Prop}{R:BR}
def SR.seq{s:Sem α}{c:Sem β}{f:α->Sem γ}{d:β->Sem δ}(h:SR P P' A R s c)(k:∀S a b,R.le S->A S a b->SR P P' B S (f a) (d b)):SR P P' B R (s>>=f) (c>>=d):=h.bind k
def cR.seq{s:Sem α}{f:α->Sem γ}(h:cR P s):cR P (s>>=f):=h.bind f
def ai{w:String}:cR P (stuck w:Sem α):=.halt rfl
def bY(u:Unsupported)(h:Wt (.unsupported u)=E):cR P (unsupported u:Sem α):=.halt h
inductive Calm(P:al){α:Type}:Sem α->Prop|pure(a:α):Calm P (.pure a)|dead{s:Sem α}(h:cR P s):Calm P s|choose{q:c6}{k:Nat->Sem α}(hk:∀n,Calm P (k n)):Calm P (.choose q k)|program{k:al->Sem α}(hk:Calm P (k P)):Calm P (.program k)|new{c:Array Y}{e:ah}{f:Nat×Nat}{k:Nat->Sem α}(hk:∀n,Calm P (k n)):Calm P (.new (.cells c e f) k)|load{m:Mode}{a:bX}{k:Y->Sem α}(hk:∀v,Calm P (k v)):Calm P (.load m a k)|getObj{r:Nat}{k:Obj->Sem α}(hk:∀v,Calm P (k v)):Calm P (.getObj r k)|mark{m:Mark}{k:Sem α}(hk:Calm P k):Calm P (.mark m k)|shape{r:Nat}{k:Option (ah×Nat)->Sem α}(hk:∀n,Calm P (k n)):Calm P (.shape r k)|frozen{a:bX}{k:Bool->Sem α}(hk:∀n,Calm P (k n)):Calm P (.frozen a k)
def Calm.then{s:Sem α}(b:Calm P s){f:α->Sem γ}(h:∀a,cR P (f a)):cR P (s>>=f):=by induction b with|pure a=>exact h a|dead d=>exact d.bind f|choose _ i=>exact .choose i|program _ i=>exact .program i|new _ i=>exact .new i|load _ i=>exact .load i|getObj _ i=>exact .getObj i|mark _ i=>exact .mark i|shape _ i=>exact .shape i|frozen _ i=>exact .frozen i
def Calm.seq{s:Sem α}(b:Calm P s){f:α->Sem γ}(h:∀a,Calm P (f a)):Calm P (s>>=f):=by induction b with|pure a=>exact h a|dead d=>exact .dead (d.bind f)|choose _ i=>exact .choose i|program _ i=>exact .program i|new _ i=>exact .new i|load _ i=>exact .load i|getObj _ i=>exact .getObj i|mark _ i=>exact .mark i|shape _ i=>exact .shape i|frozen _ i=>exact .frozen i
def zfK(t:ah):Calm P (dq t):=by refine .program ?_;show Calm P (match P.info? t with|some i=>Sem.pure i|none=>stuck "no such type");cases P.info? t with|none=>exact .dead ai|some i=>exact .pure i
def P9(t:ah):Calm P (underlying t):=by refine .program ?_;show Calm P (match P.underlying t with|some i=>Sem.pure i|none=>stuck "no such type");cases P.underlying t with|none=>exact .dead ai|some i=>exact .pure i
def L4(t:ah):Calm P (elemOf t):=(P9 t).seq λd=>by cases d<;>first|exact .pure _|exact .dead ai
def L5(t:ah)(v:Y):Calm P (newVar t v):=.new λn=>.pure _
def zav(h:PE P P')(t:ah):SR P P' (λ_ a b=>a=b/\P.info? t=C a) R (dq t) (dq t):=by refine .program ?_;show SR P P' _ R (match P.info? t with|some i=>Sem.pure i|none=>stuck "no such type") (match P'.info? t with|some i=>Sem.pure i|none=>stuck "no such type");rw[h.Ag];cases P.info? t with|none=>exact .dead ai|some i=>exact .pure ⟨rfl,rfl⟩
def SR.mono{A':BR->α->β->Prop}{s:Sem α}{s':Sem β}(h:SR P P' A R s s')(k:∀S a b,A S a b->A' S a b):SR P P' A' R s s':=by induction h with|pure h=>exact .pure (k _ _ _ h)|load m h _ i=>exact .load m h i|store m h v _ i=>exact .store m h v i|new o _ i=>exact .new o i|shape h _ i=>exact .shape h i|getObj h _ i=>exact .getObj h i|setObj h o _ i=>exact .setObj h o i|choose q _ i=>exact .choose q i|program _ i=>exact .program i|mark c _ i=>exact .mark c i|dead h=>exact .dead h
def zn3(h:PE P P')(t:ah):SE P P' R (dq t) (dq t):=(zav h t).mono λ_ _ _ e=>e.1
def zgH(h:PE P P')(t:ah):SR P P' (λ_ a b=>a=b/\P.underlying t=C a) R (underlying t) (underlying t):=by refine .program ?_;show SR P P' _ R (match P.underlying t with|some i=>Sem.pure i|none=>stuck "no such type") (match P'.underlying t with|some i=>Sem.pure i|none=>stuck "no such type");rw[h.under];cases P.underlying t with|none=>exact .dead ai|some i=>exact .pure ⟨rfl,rfl⟩
def G2(h:PE P P')(t:ah):SE P P' R (underlying t) (underlying t):=(zgH h t).mono λ_ _ _ e=>e.1
def Ov(h:PE P P')(t:ah):SE P P' R (ie t) (ie t):=.seq (zn3 h t) λ_ _ _ _ e=>by subst e;exact .pure rfl
def zaw(h:PE P P')(t:ah):SE P P' R (nR t) (nR t):=.seq (G2 h t) λ_ a _ _ e=>by subst e;cases a<;>exact .pure rfl
variable{t:ah}
def Gu(h:PE P P')(z:ZOk P t):SV P P' R (c9 t) (c9 t):=by refine .seq (zav h t) λS a b _ e=>?_;obtain⟨rfl,i⟩:=e;cases c:a.zero with|none=>exact .dead (bY _ rfl)|some v=>exact .pure (z a v i c S)
def AV.nil:AV R #[] #[]:=⟨rfl,λi v a h=>by simp at h⟩
def AV.push{x c:Array Y}(h:AV R x c){v d:Y}(g:VR R v d):AV R (x.push v) (c.push d):=by
 refine⟨by simp[h.size],λi u f b a=>?_⟩;rw[bx]at b a;rw[<-h.size]at a;by_cases e:i=x.size;.simp_all
 .rw[if_neg e]at b a;exact h.at_ i u f b a
def AV.app{x e y b:Array Y}(h:AV R x e)(k:AV R y b):AV R (x++y) (e++b):=by
 refine⟨by simp[h.size,k.size],λi u f c a=>?_⟩;rw[zO]at c a;rw[<-h.size]at a;split at c;.rename_i d;rw[if_pos d]at a;exact h.at_ i u f c a
 .rename_i d;rw[if_neg d]at a;exact k.at_ _ u f c a
def AV.extract{x e:Array Y}(h:AV R x e)(a b:Nat):AV R (x.extract a b) (e.extract a b):=by
 refine⟨by simp[h.size],λi u f d c=>?_⟩;rw[Array.getElem?_extract]at d c;rw[<-h.size]at c;split at d;.rename_i g;rw[if_pos g]at c;exact h.at_ _ u f d c
 .cases d
def AV.get{x a:Array Y}(h:AV R x a)(i:Nat):(x[i]?=U/\a[i]?=U)\/∃v v',x[i]?=C v/\a[i]?=C v'/\VR R v v':=by
 cases b:x[i]? with|none=>refine .inl ⟨rfl,?_⟩;rw[uK]at b⊢;rw[<-h.size];exact b|some v=>
  have c:i<a.size:=by rw[<-h.size];grind
  exact .inr ⟨v,a[i],rfl,by simp[c],h.at_ i v _ b (by simp[c])⟩
def AV.one{v a:Y}(h:VR R v a):AV R #[v] #[a]:=AV.nil.push h
def VR.cells{v a:Y}(h:VR R v a):AV R v.cells a.cells:=by cases h with|agg x h=>exact⟨x,h⟩|bool b=>exact .one (.bool b)|int k n=>exact .one (.int k n)|string s=>exact .one (.string s)|pointer h=>exact .one (.pointer h)|slice l c h=>exact .one (.slice l c h)|map h=>exact .one (.map h)|chan h=>exact .one (.chan h)|func f x h y d=>exact .one (.func f x h y d)|nilFunc=>exact .one .nilFunc|iface t h=>exact .one (.iface t h)|nilIface=>exact .one .nilIface|tuple x h=>exact .one (.tuple x h)
def VR.zbx{x a:Array Y}(h:AV R x a):VR R (.agg x) (.agg a):=.agg h.size h.at_
def VR.Xa{x a:Array Y}(h:AV R x a):VR R (.tuple x) (.tuple a):=.tuple h.size h.at_
def AR.add{a a':bX}(h:AR R a a')(n:Nat):AR R (a.add n) (a'.add n):=by
 have⟨b,o,s⟩:=a;have⟨i,f,j⟩:=a';have⟨⟨l,r,c⟩,e,d⟩:=h;simp only at r e d c;subst e;subst d;by_cases g:n=0;.simp[Addr.add,if_pos g];omega
 .simp[Addr.add,if_neg g];exact⟨⟨l,r,by simp;omega⟩,rfl,rfl⟩
def XB{a b:bX}(h:AR R a b):SV P P' R (load a) (load b):=.load _ h λ_ _ v=>.pure v
variable{c:Y}
def zle{a b:bX}{v:Y}(h:AR R a b)(d:VR R v c):SR P P' (λ_ _ _=>True) R (store a v) (store b c):=.store _ h d (.pure trivial)
def yN(n:Nat):∀{R:BR}{a d:bX}(_:AR R a d)(i:Nat){x e:Array Y},AV R x e->SA P P' R (iq a i n x) (iq d i n e):=by induction n with|zero=>intro R a d _ i x e f;exact .pure f|succ n c=>intro R a d h i x e f;exact .seq (XB (h.add i)) λS v j b g=>c (h.mono b) (i+1) ((f.mono b).push g)
def LV(R:BR):List Y->List Y->Prop|[],[]=>True|v::l,b::a=>VR R v b/\LV R l a|_,_=>False
def LV.mono{R S:BR}(h:R.le S):∀{l a:List Y},LV R l a->LV S l a|[],[],_=>trivial|_::_,_::_,k=>⟨k.1.mono h,k.2.mono h⟩
def AV.YU{x f:Array Y}(h:AV R x f):LV R x.toList f.toList:=by have⟨l⟩:=x;have⟨a⟩:=f;obtain⟨b,c⟩:=h;simp[lE]at b;simp[dV]at c;induction l generalizing a with
 |nil=>cases a with|nil=>trivial|cons=>simp at b
 |cons v l e=>cases a with|nil=>simp at b|cons g a=>exact⟨c 0 v g rfl rfl,e a Y7 λi u j k d=>c (i+1) u j Y7 Y7⟩
def wI:∀{l b:List Y}{R:BR}{a a':bX}(_:AR R a a')(i:Nat),LV R l b->SR P P' (λ_ _ _=>True) R (storeCells a l i) (storeCells a' b i)|[],[],_,_,_,_,_,_=>.pure trivial|_::_,_::_,_,_,_,h,i,k=>.seq (zle (h.add i) k.1) λ_ _ _ S _=>wI (h.mono S) (i+1) (k.2.mono S)
def EV(h:PE P P')(t:ah){a i:bX}(j:AR R a i):SV P P' R (dx t a) (dx t i):=by refine .seq (zaw h t) λS b k d e=>?_;subst e;cases b with|true=>refine .seq (Ov h t) λf n g c e=>?_;subst e;exact .seq (yN n ((j.mono d).mono c) 0 AV.nil) λ_ _ _ _ x=>.pure (VR.zbx x)|false=>exact XB (j.mono d)
variable{f:Y}
def za5(h:PE P P')(t:ah){a d:bX}(i:AR R a d){v:Y}(j:VR R v f):SR P P' (λ_ _ _=>True) R (storeVar t a v) (storeVar t d f):=by
 refine .seq (Ov h t) λS n c b e=>?_;subst e;have g:=(j.mono b).cells;rw[<-g.size];by_cases e:v.cells.size≠n;.simp[if_pos e];exact .dead (cR.seq ai)
 .simp[if_neg e];exact wI (i.mono b) 0 g.YU
def xx(e:ah){x b:Array Y}(h:AV R x b):SR P P' AR R (xV e x) (xV e b):=.new (OR.row h e) λn a=>.pure ⟨⟨0,.inr ⟨rfl,rfl,rfl⟩,a7 _⟩,rfl,rfl⟩
def eo(e:RuntimeError):cR P (cJ e:Sem α):=by refine .program ?_;cases e with|bounds x y s c=>exact .halt rfl|error m=>exact .halt rfl|plain m=>exact .halt rfl|nilDeref=>exact .halt rfl|typeAssertion i c a m=>exact(L4 _).then λe=>(L5 _ _).then λr=>.halt rfl|panicNil=>exact(L4 _).then λe=>(L5 _ _).then λr=>.halt rfl|unhashable t=>exact .halt rfl
def rC(k:cZ)(x y:Int)(c:BoundsCode):cR P (boundsPanic k x y c:Sem α):=by
 unfold boundsPanic;split;.exact Calm.then (.choose λn=>.pure _) λ_=>eo _
 .exact Calm.then (.pure _) λ_=>eo _
variable{b:Y}
def zc3{v:Y}(h:VR R v b):SE P P' R (je v) (je b):=by cases h with
 |int k n=>exact .pure rfl|@pointer a c h=>cases a with |none=>exact .dead ai|some a=>exact .dead (bY _ rfl)
 |_=>exact .dead ai
def zk8{v a:Y}(h:VR R v a):SA P P' R (asAgg v) (asAgg a):=by cases h with|agg x h=>exact .pure ⟨x,h⟩|_=>exact .dead ai
def VT{v:Y}(h:VR R v b):SR P P' AR R (rP v) (rP b):=by cases h with
 |@pointer a c h=>cases a with|none=>exact .dead (eo .nilDeref)|some a=>cases c with |none=>cases h|some c=>exact .pure h
 |_=>exact .dead ai
def Mr{v:Y}(h:VR R v b):SR P P' AR R (cC v) (cC b):=by cases h with
 |@pointer a c h=>cases a with|none=>exact .dead ai|some a=>cases c with |none=>cases h|some c=>exact .pure h
 |_=>exact .dead ai
def JD(h:PE P P')(t:ah){v a:Y}(b:VR R v a):SV P P' R (dz t v) (dz t a):=.seq (Mr b) λ_ _ _ _ c=>EV h t c
variable{x:Y}
def QM(h:PE P P')(t:ah){v a:Y}(c:VR R v a)(d:VR R x b):SR P P' (λ_ _ _=>True) R (jG t v x) (jG t a b):=.seq (Mr c) λ_ _ _ S e=>za5 h t e (d.mono S)
def PS(h:PE P P')(z:ZOk P t):SV P P' R (nX t E (.tuple #[])) (nX t E (.tuple #[])):=.seq (Gu h z) λ_ _ _ _ v=>.seq (xx t v.cells) λ_ _ _ _ a=>.pure (.pointer a)
def zr6(t:ah){v a:Y}(h:VR R v a):SV P P' R (Instr.box t v) (Instr.box t a):=.seq (xx t h.cells) λ_ _ _ _ b=>.pure (.pointer b)
def LP(R:BR):List (Nat×Y)->List (Nat×Y)->Prop|[],[]=>True|x::l,b::a=>x.1=b.1/\VR R x.2 b.2/\LP R l a|_,_=>False
def LP.mono{R S:BR}(h:R.le S):∀{l a:List (Nat×Y)},LP R l a->LP S l a|[],[],_=>trivial|_::_,_::_,k=>⟨k.1,k.2.1.mono h,k.2.2.mono h⟩
def LP.map(f:aU->Y)(b:aU->Y):∀(l:List (Nat×aU)),(∀x∈l,VR R (f x.2) (b x.2))->LP R (l.map λx=>(x.1,f x.2)) (l.map λx=>(x.1,b x.2))|[],_=>trivial|x::l,h=>⟨rfl,h x Y1,LP.map f b l λy a=>h y (by simp[a])⟩
def AV.zt5{x x':Array Y}(o:Nat):∀{l a:List (Y×Nat)}{c b:Array Y},AV R c b->l.map (·.2)=a.map (·.2)->LV R (l.map (·.1)) (a.map (·.1))->AV R (l.foldl (λf y=>f.setIfInBounds (o+y.2) y.1) c) (a.foldl (λf y=>f.setIfInBounds (o+y.2) y.1) b)|[],[],_,_,h,_,_=>h|[],_::_,_,_,_,e,_=>by simp at e|_::_,[],_,_,_,e,_=>by simp at e|y::l,d::a,c,b,h,e,k=>by simp[cQ,kM]at e;simp[List.foldl_cons];rw[e.1];exact AV.zt5 (x:=x) (x':=x') o (h.set _ k.1) e.2 k.2
def Of(p:Nat->Option (Nat×Nat)):∀{l b:List (Nat×Y)}{c a:Array Y},AV R c a->LP R l b->(ep p c l=U/\ep p a b=U)\/∃d n,ep p c l=C d/\ep p a b=C n/\AV R d n|[],[],c,a,h,_=>.inr ⟨c,a,rfl,rfl,h⟩|[],_::_,_,_,_,k=>k.elim|_::_,[],_,_,_,k=>k.elim|(i,v)::l,(g,w)::b,c,a,h,⟨e,r,f⟩=>by simp  at e r;subst e;simp only[ep];cases z:p i with|none=>simp_all|some q=>
   have⟨o,s⟩:=q;have t:=r.cells;simp only[<-t.size,<-h.size];split;.simp_all
   .refine Of p (AV.zk5 o h t) f where
 AV.zk5{R:BR}{c a x j:Array Value}(o:Nat)(h:AV R c a)(u:AV R x j):AV R (x.zipIdx.foldl (λm(y:Value×Nat)=>m.setIfInBounds (o+y.2) y.1) c) (j.zipIdx.foldl (λm(y:Value×Nat)=>m.setIfInBounds (o+y.2) y.1) a):=by
  rw[<-Array.foldl_toList,<-Array.foldl_toList];apply AV.zt5 (x:=x) (x':=j) o h;.simp[u.size]
  .simpa using u.YU
def XC(h:PE P P')(t:ah){x i:Array Y}(j:AV R x i)(o:Nat):SV P P' R (part t x o) (part t i o):=by refine .seq (zaw h t) λS b l d e=>?_;subst e;cases b with|true=>exact .seq (Ov h t) λf n g a e=>by subst e;exact .pure (VR.zbx (((j.mono d).mono a).extract _ _))|false=>
 rcases(j.mono d).get o with⟨e,c⟩|⟨v,m,e,c,k⟩;.simp[e,c];exact .dead ai
 .simp[e,c];exact .pure k
def zlb(h:PE P P')(t:ah){v:Y}(i:VR R v c)(f:Nat):SV P P' R (AP t v f) (AP t c f):=by refine .seq (G2 h t) λS d b a e=>?_;subst e;cases d with
 |struct fields=>simp;cases fields[f]? with |none=>exact .dead ai|some g=>exact .seq (zk8 (i.mono a)) λ_ _ _ _ x=>XC h _ x _
 |_=>exact .dead ai
def zlc(h:PE P P')(t:ah){v o:Y}(p:VR R v f)(q:VR R x o):SV P P' R (kl t v x) (kl t f o):=by refine .seq (zc3 q) λS a w j e=>?_;subst e;have⟨k,i⟩:=a;refine .seq (G2 h t) λl d m b e=>?_;subst e;cases(p.mono j).mono b with
 |@agg c n r u=>cases d with|array len elem=>
   simp;split;.exact .seq (Ov h elem) λ_ _ _ g e=>by subst e;exact XC h _ (AV.mono g ⟨r,u⟩) _
   .exact .dead (rC _ _ _ _)|_=>exact .dead ai
 |string s=>cases d with |string=>
   simp;split;.exact .pure (.int _ _)
   .exact .dead (rC _ _ _ _)|_=>exact .dead ai
 |_=>cases d<;>exact .dead ai
def zc5{v d:Y}(h:VR R v d)(i:Nat):SV P P' R (kW v i) (kW d i):=by
 cases h with|@tuple c b f g=>
  rcases AV.get ⟨f,g⟩ i with⟨e,a⟩|⟨v,d,e,a,h⟩;.simp[kW,e,a];exact .dead ai
  .simp[kW,e,a];exact .pure h|_=>exact .dead ai
def K1(h:PE P P')(t:ah){v:Y}(f:VR R v c):SV P P' R (jM t v) (jM t c):=by refine .seq (G2 h t) λS d b a e=>?_;subst e;cases d<;>first|exact .dead ai|exact .pure (.iface t (f.mono a))
def OA.add{a a':Option bX}(h:OA R a a')(n:Nat):OA R (a.map (·.add n)) (a'.map (·.add n)):=by cases a<;>cases a'<;>first|exact h.elim|trivial|exact AR.add h n
def OV(R:BR):Option Y->Option Y->Prop|none,U=>True|some v,C a=>VR R v a|_,_=>False
def OV.mono{R S:BR}(h:R.le S):{v a:Option Y}->OV R v a->OV S v a|none,U,_=>trivial|some _,C _,k=>VR.mono h k
abbrev SQ(P P':al){α:Type}(R:BR)(s s':Sem α):Prop:=SR P P' (λS a b=>S=R/\a=b) R s s'
def SR.q{s:Sem α}{s':Sem α}{f:α->Sem γ}{c:α->Sem δ}(h:SQ P P' R s s')(k:∀a,SR P P' B R (f a) (c a)):SR P P' B R (s>>=f) (s'>>=c):=h.bind λS a b _ e=>Y7
def eW(a:α):SQ P P' R (b8 a:Sem α) (b8 a):=.pure ⟨rfl,rfl⟩
def kr(h:PE P P')(t:ah):SQ P P' R (underlying t) (underlying t):=by refine .program ?_;show SR P P' _ R (match P.underlying t with|some i=>Sem.pure i|none=>stuck "no such type") (match P'.underlying t with|some i=>Sem.pure i|none=>stuck "no such type");rw[h.under];cases P.underlying t with|none=>exact .dead ai|some i=>exact .pure ⟨rfl,rfl⟩
def zkN(h:PE P P')(t:ah):SR P P' (λS a b=>S=R/\a=b/\P.underlying t=C a) R (underlying t) (underlying t):=by refine .program ?_;show SR P P' _ R (match P.underlying t with|some i=>Sem.pure i|none=>stuck "no such type") (match P'.underlying t with|some i=>Sem.pure i|none=>stuck "no such type");rw[h.under];cases P.underlying t with|none=>exact .dead ai|some i=>exact .pure ⟨rfl,rfl,rfl⟩
def Xw(h:PE P P')(t:ah):SR P P' (λS a b=>S=R/\a=b/\P.info? t=C a) R (dq t) (dq t):=by refine .program ?_;show SR P P' _ R (match P.info? t with|some i=>Sem.pure i|none=>stuck "no such type") (match P'.info? t with|some i=>Sem.pure i|none=>stuck "no such type");rw[h.Ag];cases P.info? t with|none=>exact .dead ai|some i=>exact .pure ⟨rfl,rfl,rfl⟩
def Au(h:PE P P')(t:ah):SQ P P' R (dq t) (dq t):=by refine .program ?_;show SR P P' _ R (match P.info? t with|some i=>Sem.pure i|none=>stuck "no such type") (match P'.info? t with|some i=>Sem.pure i|none=>stuck "no such type");rw[h.Ag];cases P.info? t with|none=>exact .dead ai|some i=>exact .pure ⟨rfl,rfl⟩
def vQ(h:PE P P')(t:ah):SQ P P' R (ie t) (ie t):=.q (Au h t) λa=>eW _
def znC(h:PE P P')(t:ah):SQ P P' R (nR t) (nR t):=.q (kr h t) λa=>by cases a<;>exact eW _
def Jr{v:Y}(h:VR R v b):SQ P P' R (je v) (je b):=by cases h with
 |int k n=>exact eW _|@pointer a c h=>cases a with |none=>exact .dead ai|some a=>exact .dead (bY _ rfl)
 |_=>exact .dead ai
def Oo{v:Y}(h:VR R v b):SQ P P' R (asInt v) (asInt b):=.q (Jr h) λa=>eW _
def zkJ{v a:Y}(h:VR R v a):SQ P P' R (asBool v) (asBool a):=by cases h with|bool b=>exact eW _|_=>exact .dead ai
def znA{v:Y}(h:VR R v b)(y:Nat)(c:BoundsCode):SQ P P' R (e8 v y c) (e8 b y c):=by
 refine .q (Jr h) λa=>?_;have⟨k,i⟩:=a;simp;split;.exact eW _
 .exact .dead (rC _ _ _ _)
variable{i:Option Y}
def GV(b:Bool)(f g:Nat){l a j m c:Option Y}(h:OV R l a)(d:OV R j i)(e:OV R m c):SQ P P' R (cO b f g l j m) (cO b f g a i c):=by
 unfold cO;cases m<;>cases c<;>first|exact e.elim|skip
 all_goals cases j<;>cases i<;>first|exact d.elim|skip
 all_goals cases l<;>cases a<;>first|exact h.elim|skip
 all_goals simp[Option.isSome]
 all_goals repeat'(first|exact eW _|exact .dead (cR.seq ai)|(refine .q (znA Y3 _ _) λ_=>?_)|(refine .q (eW _) λ_=>?_))
def EN{v:Y}(h:VR R v c):SR P P' (λS a b=>S=R/\AR R a b) R (cC v) (cC c):=by cases h with
 |@pointer a d h=>cases a with|none=>exact .dead ai|some a=>cases d with |none=>cases h|some d=>exact .pure ⟨rfl,h⟩
 |_=>exact .dead ai
def zkI{v:Y}(h:VR R v c):SR P P' (λS a b=>S=R/\AR R a b) R (rP v) (rP c):=by cases h with
 |@pointer a d h=>cases a with|none=>exact .dead (eo .nilDeref)|some a=>cases d with |none=>cases h|some d=>exact .pure ⟨rfl,h⟩
 |_=>exact .dead ai
def zut{c:Prop}[Decidable c]{a b:Option bX}(h:OA R a b)(n:Nat):OA R (if c then a else a.map (·.add n)) (if c then b else b.map (·.add n)):=by
 split;.exact h
 .exact h.add n
def zld(h:PE P P')(t:ah){v w:Y}(y:VR R v w){l p x m f:Option Y}(g:OV R l p)(j:OV R x i)(o:OV R m f):SV P P' R (l7 t v l x m) (l7 t w p i f):=by refine .q (kr h t) λd=>?_;cases y with
 |string s=>cases d with |string=>
   simp;have e:m.isSome=f.isSome:=by cases m<;>cases f<;>first|exact o.elim|rfl
   rw[e];split;.exact .dead (cR.seq ai)
   .exact .q (GV _ _ _ g j trivial) λa=>.pure (.string _)|_=>exact .dead ai
 |@slice a z len cap u=>cases d with |slice elem=>refine .q (GV _ _ _ g j o) λb=>?_;exact .q (vQ h elem) λn=>.pure (.slice _ _ (zut u _))|_=>exact .dead ai
 |@pointer a z u=>cases d with
  |pointer arr=>
   refine(zkI (.pointer u)).bind λS b A _ e=>?_;obtain⟨rfl,r⟩:=e;refine .q (kr h arr) λd2=>?_
   cases d2 with|array n elem=>
    refine .q (GV _ _ _ g j o) λc=>?_;refine .q (vQ h elem) λk=>.pure ?_;split;.exact .slice _ _ r
    .exact .slice _ _ (r.add _)|_=>exact .dead ai
  |_=>exact .dead ai
 |_=>cases d<;>exact .dead ai
def zc9(h:PE P P')(t:ah){v r:Y}(s:VR R v r){l a u m f:Option Y}(g:OV R l a)(j:OV R u i)(o:OV R m f):SV P P' R (eN t v l u m) (eN t r a i f):=by
 refine .q (kr h t) λd=>?_
 cases d with|array n elem=>
  refine(EN s).bind λS b w _ e=>?_;obtain⟨rfl,p⟩:=e;refine .q (GV _ _ _ g j o) λc=>?_;refine .q (vQ h elem) λk=>.pure ?_;split;.exact .slice _ _ p
  .exact .slice _ _ (p.add _)|_=>exact zld h t s g j o
def zc7(h:PE P P')(t:ah){v z B:Y}(D:VR R v z)(G:VR R x B):SV P P' R (gm t v x) (gm t z B):=by
 refine .q (Jr G) λa=>?_;have⟨k,i⟩:=a;refine .q (kr h t) λd=>?_;cases d;case' array w u=>refine(EN D).bind λS b F _ e=>?_;obtain⟨rfl,s⟩:=e;refine SR.bind (A:=λg(a b:Option bX×Nat×ah)=>g=S/\OA g a.1 b.1/\a.2=b.2) (.pure (a:=(C b,w,u)) (b:=(C F,w,u)) ⟨rfl,(show OA S (C b) (C F)from s),rfl⟩) λS a b _ e=>?_
 case' slice u=>cases D;case' slice a0 j l c I=>refine SR.bind (A:=λg(a b:Option bX×Nat×ah)=>g=R/\OA g a.1 b.1/\a.2=b.2) (.pure (a:=(a0,l,u)) (b:=(j,l,u)) ⟨rfl,I,rfl⟩) λS a b _ e=>?_
 all_goals first|exact .dead (cR.seq ai)|skip
 all_goals obtain⟨rfl,m,p⟩:=e;have⟨y,w,u⟩:=a;have⟨f,r,o⟩:=b;simp[aX]at p;obtain⟨rfl,rfl⟩:=p;refine .q (kr h t) λd2=>?_;cases y with
  |none=>cases f with |none=>exact .dead (rC _ _ _ _)|some b=>cases m
  |some a=>cases f with|none=>cases m|some J=>
   simp;split;.exact .q (vQ h u) λn=>.pure (.pointer (AR.add m _))
   .refine .dead ?_;repeat' split
    all_goals first|exact bY _ rfl|exact rC _ _ _ _
def SR.under(h:PE P P')(t:ah){f:ej->Sem γ}{f':ej->Sem δ}(k:∀d,P.underlying t=C d->SR P P' B R (f d) (f' d)):SR P P' B R (underlying t>>=f) (underlying t>>=f'):=(zkN h t).bind λS a b _ e=>by obtain⟨rfl,rfl,e⟩:=e;exact k a e
def SR.Ag(h:PE P P')(t:ah){f:iC->Sem γ}{f':iC->Sem δ}(k:∀d,P.info? t=C d->SR P P' B R (f d) (f' d)):SR P P' B R (dq t>>=f) (dq t>>=f'):=(Xw h t).bind λS a b _ e=>by obtain⟨rfl,rfl,e⟩:=e;exact k a e
def cR.Ag{f:iC->Sem γ}(k:∀d,P.info? t=C d->cR P (f d)):cR P (dq t>>=f):=by refine cR.program ?_;show cR P ((match P.info? t with|some i=>Sem.pure i|none=>stuck "no such type").bind f);cases h:P.info? t with|none=>exact ai.bind f|some i=>exact k i h
def GU(P:al)(t:ah):Bool:=match P.info? t with|some {desc:=.named "sync.copyChecker" _,..}=>H|_=>E
def zms(P:al):Nat->ah->Bool|0,_=>H|d+1,t=>match P.underlying t with|some .bool=>E|some (.int _)=>GU P t|some .string=>E|some (.struct a)=>!P.stoodInHeld t&&a.all λf=>f.name== "_"||zms P d f.type|_=>H
def zfL(r:Nat):Calm P (numberAt r):=by
 unfold numberAt;refine Calm.seq (s:=shape r) (.shape λx=>.pure x) λx=>?_;split;.exact .pure _
 .refine Calm.seq (s:=getObj r) (.getObj λo=>.pure o) λo=>?_;split<;>exact .pure _
def oa(a:bX):Calm P (gk a):=(zfL _).seq λx=>.pure _
variable{y:Y}
def zam(h:PE P P')(d:Nat){F:cZ}(G:P.underlying t=C (.int F))(w:GU P t=E){B:Y}(I:VR R x B)(c:VR R y f):SR P P' (λS a b=>S=R/\a=b/\(a=E->∃k n,x=.int k n/\y=.int k n)) R (cY (d+1) t x y) (cY (d+1) t B f):=by unfold cY;refine SR.under h t λe g=>?_;rw[G]at g;cases g;cases I with
 |int k n=>
  cases c with |int K o=>
   simp only;split
   .rename_i l;subst l;refine .pure ⟨rfl,rfl,λe=>⟨k,n,rfl,?_⟩⟩;rw[eq_of_beq e]
   .exact .dead ai|@pointer a z A=>
   cases a<;>cases z<;>first|exact A.elim|skip
   .exact .dead (by first|exact ai|exact bY _ rfl)
   .by_cases s:n=0;.subst s;exact .pure ⟨rfl,rfl,Y9⟩
    .refine .dead ?_;split<;>first|(rename_i e;cases e;exact absurd rfl s)|exact bY _ rfl|exact ai|skip
     all_goals simp_all|_=>exact .dead (by first|exact ai|exact bY _ rfl)
 |@pointer a z A=>
  cases a<;>cases z<;>first|exact A.elim|skip
  .cases c with |@pointer b D j=>cases b<;>exact .dead (by first|exact ai|exact bY _ rfl)|_=>exact .dead (by first|exact ai|exact bY _ rfl)
  .rename_i p q
   cases c with |int k n=>
    by_cases s:n=0;.subst s;exact .pure ⟨rfl,rfl,Y9⟩
    .refine .dead ?_;split<;>first|(rename_i e;cases e;exact absurd rfl s)|exact bY _ rfl|exact ai|skip
     all_goals simp_all|@pointer b D j=>
    cases b<;>cases D<;>first|exact j.elim|skip
    .exact .dead (by first|exact ai|exact bY _ rfl)
    .refine .dead ?_;refine(oa _).then λu=>(oa _).then λv=>?_;have m:(u.1.block==v.1.block&&decide (u.1.block<P.globals.size))=H:=by simp[h.none]
     refine cR.program ?_;show cR P (if(u.1.block==v.1.block&&decide (u.1.block<P.globals.size))=E then _ else(dq t>>=_));rw[if_neg (by simp[m])];refine cR.Ag λi J=>?_;unfold GU at w;rw[J]at w;split
     .rename_i hd;obtain⟨r,_⟩:=i;simp only at hd;subst hd;simp at w
     .exact bY _ rfl|_=>exact .dead (by first|exact ai|exact bY _ rfl)
 |_=>cases c<;>exact .dead (by first|exact ai|exact bY _ rfl)
def zeM{σ:Type}{f f':σ->α->Sem (ForInStep α)}:∀(l:List σ)(a:α),(∀x∈l,∀a,SQ P P' R (f x a) (f' x a))->SQ P P' R (forIn l a f) (forIn l a f')|[],a,_=>by simp only[List.forIn_nil];exact eW _|x::l,a,h=>by simp only[List.forIn_cons];refine .q (h x Y1 a) λs=>?_;cases s with|done b=>exact eW _|yield b=>exact zeM l b λy c=>h y (by simp[c])
def zjf(h:PE P P')(t:ah){x d:Array Y}(f:AV R x d)(o:Nat):SR P P' (λS a b=>S=R/\VR R a b) R (part t x o) (part t d o):=by refine .q (znC h t) λb=>?_;cases b with|true=>exact .q (vQ h t) λn=>.pure ⟨rfl,VR.zbx (f.extract _ _)⟩|false=>
 rcases f.get o with⟨e,c⟩|⟨v,i,e,c,g⟩;.simp only[e,c];exact .dead ai
 .simp only[e,c];exact .pure ⟨rfl,g⟩
def VL(h:PE P P')(J:∀t,P'.stoodInHeld t=P.stoodInHeld t):∀(e d:Nat)(t:ah){x G y l:Y},zms P e t=E->VR R x G->VR R y l->SQ P P' R (cY d t x y) (cY d t G l)
 |0,_,_,_,_,_,_,g,_,_=>by cases g|_+1,0,_,_,_,_,_,_,_,_=>.dead (bY _ rfl)|e+1,d+1,t,x,G,y,l,g,F,i=>by
  unfold zms at g;split at g
  .rename_i hu;unfold cY;refine SR.under h t λe g=>?_;rw[hu]at g;cases g;cases F<;>first|(cases i<;>first|exact eW _|exact .dead ai)|exact .dead ai
  .rename_i k hu;exact(zam h d hu g F i).mono λS a b x=>⟨x.1,x.2.1⟩
  .rename_i hu;unfold cY;refine SR.under h t λe g=>?_;rw[hu]at g;cases g;cases F<;>first |(cases i<;>first|exact eW _|exact .dead ai)|exact .dead ai
  .rename_i K hu;simp only[aj,gG,aQ,dm,beq_iff_eq]at g;unfold cY;refine SR.under h t λr j=>?_;rw[hu]at j;cases j;cases F with
   |@agg c D L M=>cases i with |@agg c2 w m n=>
    refine .program ?_;show SR P P' _ R (if P.stoodInHeld t=E then _ else _) (if P'.stoodInHeld t=E then _ else _);rw[J,g.1];simp only[bt,if_false];refine SR.q (s:=forIn K _ _) (s':=forIn K _ _) ?_ λs=>?_
    .rw[<-nJ,<-nJ];refine zeM _ _ λf z a=>?_;by_cases I:f.name≠ "_"
     .simp only[if_pos I];have A:=(g.2 f (by simpa using z)).resolve_left I;refine(zjf h _ ⟨L,M⟩ _).bind λS u Q _ B=>?_;obtain⟨e0,o⟩:=B;replace e0:=e0.symm;subst e0;refine(zjf h _ ⟨m,n⟩ _).bind λS v T _ r=>?_;obtain⟨e0,p⟩:=r;replace e0:=e0.symm;subst e0;refine .q (VL h J _ _ _ A o p) λb=>?_;cases b<;>exact eW _
     .simp only[if_neg I];exact eW _
    .obtain⟨N,W⟩:=s;cases N<;>exact eW _|_=>exact .dead ai
   |_=>cases i<;>exact .dead ai
  .cases g
def EL(R:BR):List eB->List eB->Prop|[],[]=>True|e::l,a::b=>ME R e a/\EL R l b|_,_=>False
def EA.YU{x f:Array eB}(h:EA R x f):EL R x.toList f.toList:=by have⟨l⟩:=x;have⟨a⟩:=f;obtain⟨b,c⟩:=h;simp[lE]at b;simp[dV]at c;induction l generalizing a with
 |nil=>cases a with|nil=>trivial|cons=>simp at b
 |cons v l e=>cases a with|nil=>simp at b|cons g a=>exact⟨c 0 v g rfl rfl,e a Y7 λi u j k d=>c (i+1) u j Y7 Y7⟩
def zmx:Y->Bool|.int _ _|.string _=>E|_=>H
def Wr(P:al)(t:ah):Bool:=match P.underlying t with|some (.int _)=>GU P t|some .string=>E|_=>H
def zhZ(R:BR)(k:Y):Option (Nat×Y)->Option (Nat×Y)->Prop|none,U=>True|some (i,v),C (j,a)=>i=j/\VR R v a/\zmx k=E|_,_=>False
def zjb{k p:Y}(f:VR R k p){d:ej}(s:(∃v,d=.int v)\/d=.string):∀{l c:List eB}(n:Nat),EL R l c->(fg d k l n=U/\fg d p c n=U)\/∃a b,fg d k l n=C a/\fg d p c n=C b/\zhZ R k a b
 |[],[],n,_=>.inr ⟨U,U,rfl,rfl,aA⟩|[],_::_,_,h=>h.elim|_::_,[],_,h=>h.elim|e::l,m::c,n,⟨g,i⟩=>by
  have o:∀{u r:Y},VR R u r->jF d p r=jF d k u/\(jF d k u=C E->zmx k=E):=by intro u r j;rcases s with⟨v,rfl⟩|rfl<;>cases f<;>cases j<;>first|exact⟨rfl,λ_=>rfl⟩|exact⟨rfl,Y9⟩
  have o:=o g.key;simp only[fg,o.1];cases q:jF d k e.key with|none=>simp_all|some t=>cases t with|true=>exact .inr ⟨_,_,rfl,rfl,rfl,g.val,o.2 q⟩|false=>exact zjb f s (n+1) i
variable{j:Y}
def zkK(h:PE P P')(d:Nat)(i:Wr P t=E)(l:VR R x j)(f:VR R y c):SR P P' (λS a b=>S=R/\a=b/\(a=E->zmx x=E)) R (cY (d+1) t x y) (cY (d+1) t j c):=by
 unfold Wr at i;split at i;.rename_i k hu;refine(zam h d hu i l f).mono λS a b z=>⟨z.1,z.2.1,λe=>?_⟩;obtain⟨k,n,rfl,_⟩:=z.2.2 e;rfl
 .rename_i hu;refine SR.under h t λe g=>?_;rw[hu]at g;cases g;cases l<;>(cases f<;>first|exact .pure ⟨rfl,rfl,λ_=>rfl⟩|exact .dead ai)
 .cases i
def zak(h:PE P P'){t:ah}(p:Wr P t=E){k q:Y}(d:VR R k q):∀{l c:List eB}(n:Nat),EL R l c->SR P P' (λS a b=>S=R/\zhZ R k a b) R (Instr.findAsking t k l n) (Instr.findAsking t q c n)|[],[],n,_=>.pure ⟨rfl,aA⟩|[],_::_,_,h=>h.elim|_::_,[],_,h=>h.elim|e::l,m::c,n,⟨f,g⟩=>by refine(zkK h 9999 p d f.key).bind λS a b _ i=>?_;obtain⟨o,rfl,j⟩:=i;have o:=o.symm;subst o;cases a with|true=>exact .pure ⟨rfl,rfl,f.val,j rfl⟩|false=>exact zak h p d (n+1) g
variable{k:Y}
def zjd(h:PE P P')(j:Wr P t=E){n:Y}(e:VR R k n){o i:Array eB}(f:EA R o i):SR P P' (λS a b=>S=R/\zhZ R k a b) R (jD t k o.toList) (jD t n i.toList):=by
 refine SR.under h t λd p=>?_;have c:(∃g,d=.int g)\/d=.string:=by unfold Wr at j;rw[p]at j;cases d<;>first|(cases j;done)|simp_all|exact .inr rfl
 rcases zjb e c 0 f.YU with⟨l,m⟩|⟨a,b,l,m,q⟩;.simp[l,m];exact zak h j e 0 f.YU
 .simp[l,m];exact .pure ⟨rfl,q⟩
def Qz(h:PE P P')(a:Wr P t=E)(b c:Bool)(v e:Y):SQ P P' R (iH b 10000 t v) (iH c 10000 t e):=by refine SR.under h t λd f=>?_;unfold Wr at a;rw[f]at a;cases d<;>first|(cases a;done)|exact eW _
def zgz(n:Nat){v:Y}(h:VR R v b)(a:zmx k=E):Instr.sameBits n b k=Instr.sameBits n v k:=by
 cases k<;>first|(cases a;done)|skip
 all_goals cases h<;>first|rfl|(cases n<;>rfl)
def EA.push{x c:Array eB}(h:EA R x c){v d:eB}(g:ME R v d):EA R (x.push v) (c.push d):=by
 refine⟨by simp[h.size],λi u f b a=>?_⟩;rw[bx]at b a;rw[<-h.size]at a;by_cases e:i=x.size;.simp_all
 .rw[if_neg e]at b a;exact h.at_ i u f b a
def EA.get{x b:Array eB}(h:EA R x b){i:Nat}{e:eB}(a:x[i]?=C e):∃e',b[i]?=C e'/\ME R e e':=by
 have c:i<b.size:=by rw[<-h.size];grind
 exact⟨b[i],by simp[c],h.at_ i e _ a (by simp[c])⟩
def EA.modify{x l:Array eB}(h:EA R x l)(i:Nat){f n:eB->eB}(d:∀e o,ME R e o->ME R (f e) (n o)):EA R (x.modify i f) (l.modify i n):=by
 refine⟨by simp[h.size],λj u p g b=>?_⟩;rw[bh]at g b;by_cases e:i=j;.rw[if_pos e]at g b;cases k:x[j]? with|none=>rw[k]at g;cases g|some a=>have⟨q,c,m⟩:=h.get k;rw[k]at g;rw[c]at b;simp[cG,ay]at g b;subst g b;simp_all
 .rw[if_neg e]at g b;exact h.at_ j u p g b
variable{r:Nat}
def JC{i l:Nat}(h:R r i l){f:Obj->Sem γ}{u:Obj->Sem δ}(k:∀v t s,EA R v t->SR P P' B R (f (.map v s)) (u (.map t s)))(w:∀a b c d e g,cR P (f (.chan a b c d e g)))(j:∀c e g,cR P (f (.cells c e g)))(m:∀a b,cR P (f (.number a b))):SR P P' B R (getObj r>>=f) (getObj i>>=u):=.getObj h λo p x=>by cases x with|cells _ y z q=>exact .dead (j ..)|map s n=>exact k _ _ _ n|chan=>exact .dead (w ..)|number=>exact .dead (m ..)
def UW(P:al)(t:ah):Bool:=match P.underlying t with|some (.map k _)=>Wr P k|_=>H
def Qs(h:UW P t=E):∃k e,P.underlying t=C (.map k e)/\Wr P k=E:=by
 unfold UW at h;split at h;.simp_all
 .cases h
variable{v':Y}
def Hy(h:PE P P')(ht:UW P t=E){m W v:Y}(p:VR R m y)(c:VR R k W)(hv:VR R v v'):SR P P' (λ_ _ _=>True) R (fL t m k v) (fL t y W v'):=by have⟨I,e,K,z⟩:=Qs ht;refine SR.under h t λd hd=>?_;rw[K]at hd;cases hd;cases p with
 |@map r D O=>
  cases r<;>cases D<;>first|exact O.elim|skip
  .exact .dead (eo _)
  .have⟨l,O⟩:=O;refine JC O (λes f X g=>?_) (λ_ _ _ _ _ _=>ai) (λ_ _ _=>ai) (λ_ _=>ai);refine .q (Qz h z _ _ _ _) λ_=>?_;refine(zjd h z c g).bind λS a b _ x=>?_;have⟨N,L⟩:=x;have N:=N.symm;subst N;match a,b,L with
   |none,U,_=>exact .setObj O (λm=>.map _ (g.push ⟨c,hv,rfl⟩)) (.pure trivial)|some (i,u),C (j,u'),⟨s,hu,o⟩=>
    subst s;have Q:VR R (((es[i]?).map (·.key)).getD k) (((f[i]?).map (·.key)).getD W):=by cases Z:es[i]? with
     |none=>
      have:f[i]?=U:=by rw[uK]at Z⊢;rw[<-g.size];exact Z
      rw[this];exact c|some J=>have⟨F,G,M⟩:=g.get Z;rw[G];exact M.key
    have B:W=k:=by cases c<;>first|rfl|cases o
    subst B;refine .seq (A:=λT a b=>T=R/\VR R a b) ?_ λT a b _ x=>?_
    .unfold Instr.keyThatStays;rw[zgz _ Q o];split;.exact .pure ⟨rfl,c⟩
     .refine .choose _ λn=>?_;refine .pure ⟨rfl,?_⟩;split;.exact c
      .exact Q
    .have⟨N,w⟩:=x;have N:=N.symm;subst N;exact .setObj O (λm=>.map _ (g.modify i λe B p=>⟨w,hv,p.born⟩)) (.pure trivial)
 |_=>exact .dead ai
def zgE(h:PE P P')(L:UW P t=E)(z:∀k e,P.underlying t=C (.map k e)->ZOk P e){m g D:Y}(p:VR R m g)(s:VR R k D):SV P P' R (my t m k H) (my t g D H):=by
 have⟨c,e,n,o⟩:=Qs L;refine SR.under h t λd K=>?_;rw[n]at K;cases K;have fin:∀{B A:Array eB},EA R B A->SV P P' R (do
   iH B.isEmpty 10000 c k let x<-jD c k B.toList let(v,ok)<-match x with |some (_,v)=>b8 (v,E)|none=>b8 (<-c9 e,H)
   b8 (if H=E then .tuple #[v,.bool ok]else v)) (do
   iH A.isEmpty 10000 c D let x<-jD c D A.toList let(v,ok)<-match x with |some (_,v)=>b8 (v,E)|none=>b8 (<-c9 e,H)
   b8 (if H=E then .tuple #[v,.bool ok]else v)):=by intro B A f;refine .q (Qz h o _ _ _ _) λ_=>?_;refine(zjd h o s f).bind λS a b _ x=>?_;have⟨G,w⟩:=x;have G:=G.symm;subst G;match a,b,w with |none,U,_=>exact .seq (Gu h (z _ _ n)) λS u M _ I=>.pure I|some (i,u),C (j,M),⟨_,I,_⟩=>exact .pure I
 cases p with|@map r y F=>
  cases r<;>cases y<;>first|exact F.elim|skip
  .exact fin ⟨rfl,λi v N a b=>by simp at a⟩
  .have⟨l,F⟩:=F;exact JC F (λB A J f=>fin f) (λ_ _ _ _ _ _=>cR.seq ai) (λ_ _ _=>cR.seq ai) (λ_ _=>cR.seq ai)|_=>exact .dead (cR.seq ai)
def u5:Y->Bool|.bool _|.int _ _|.string _|.pointer U|.slice U _ _|.map U|.chan U|.nilFunc|.nilIface=>E|_=>H
def zdP:Y->Bool|.agg cs=>cs.all u5|v=>u5 v
def Gj{v:Y}(h:u5 v=E):VR R v v:=by unfold u5 at h;split at h<;>first|exact .bool _|exact .int _ _|exact .string _|exact .pointer trivial|exact .slice _ _ trivial|exact .map trivial|exact .chan trivial|exact .nilFunc|exact .nilIface|cases h
def zet{v:Y}(h:zdP v=E):VR R v v:=by
 unfold zdP at h;split at h
 .rename_i cs;refine .agg rfl λi u c b a=>?_;rw[b]at a;cases a;rw[aQ]at h;exact Gj (h u (dk b))
 .exact Gj h
def zOk(P:al)(t:ah):Bool:=match P.info? t with|some i=>(match i.zero with|some v=>zdP v|none=>E)|none=>E
def xl(h:zOk P t=E):ZOk P t:=by intro i v a b R;unfold zOk at h;rw[a]at h;simp[b]at h;exact zet h
def zje(h:PE P P'):∀(c:List Field)(b:Array (Nat×Nat)),SQ P P' R (c.foldlM (fun(d:Array (Nat×Nat))(f:Field)=>l6 d.push (do let x←ie f.type;b8 (f.offset,x):Sem (Nat×Nat))) b) (c.foldlM (fun(d:Array (Nat×Nat))(f:Field)=>l6 d.push (do let x←ie f.type;b8 (f.offset,x):Sem (Nat×Nat))) b)|[],b=>by simp[y8];exact eW _|f::c,b=>by simp only[fY];refine SR.q ?_ fun a=>zje h c a;exact .q (.q (vQ h _) fun n=>eW _) fun n=>eW _
def zkM(h:PE P P')(a:Array Field):SQ P P' R (a.mapM fun f=>(do b8 (f.offset,←ie f.type):Sem (Nat×Nat))) (a.mapM fun f=>(do b8 (f.offset,←ie f.type):Sem (Nat×Nat))):=by rw[e9,←fC];exact zje h a.toList #[]
def zla(h:PE P P')(z:ZOk P t){f p:Array (Nat×Y)}(o:LP R f.toList p.toList):SV P P' R (jj t f) (jj t p):=by
 refine(SR.mono (A':=λS a b=>S=R/\VR R a b) ?_ λ_ _ _ x=>x).bind λS v u _ x=>?_
 .refine(Xw h t).bind λS a b _ e=>?_;obtain⟨k,rfl,r⟩:=e;have k:=k.symm;subst k;cases l:a.zero with|none=>exact .dead (bY _ rfl)|some v=>exact .pure ⟨rfl,z a v r l _⟩
 .have⟨k,l⟩:=x;have k:=k.symm;subst k;refine .q (kr h t) λd=>?_
  cases d with|struct fields=>
   refine .q (zkM h fields) λj=>?_;rcases Of (λi=>j[i]?) l.cells o with⟨e,c⟩|⟨d,g,e,c,m⟩;.simp[e,c];exact .dead ai
   .simp[e,c];exact .pure (VR.zbx m)|array n elem=>
   refine .q (vQ h elem) λs=>?_;rcases Of (λi=>C (i*s,s)) l.cells o with⟨e,c⟩|⟨d,g,e,c,m⟩;.simp[e,c];exact .dead ai
   .simp[e,c];exact .pure (VR.zbx m)|_=>exact .dead ai
variable{z:Array Y}
def AV.rep{d:Array Y}(h:AV R z d)(n:Nat):AV R ((gw n).map λi=>z[i%z.size]!) ((gw n).map λi=>d[i%d.size]!)\/z.size=0:=by
 by_cases c:z.size=0;.exact .inr c
 .refine .inl ⟨Y1,λi u g e a=>?_⟩;simp only[ky]at e a;cases f:(gw n)[i]? with|none=>rw[f]at e;cases e|some j=>
  rw[f]at e a;simp[cG,ay]at e a;have b:j%z.size<z.size:=kv _ Y0;have l:j%d.size<d.size:=kv _ (by rw[<-h.size];omega);apply h.at_ (j%z.size) u g;.simp_all
  .rw[<-a,h.size,getElem!_pos d _ l,cB l]
def AV.zqW{f:Array Y}(h:AV R z f)(n:Nat):AV R ((gw n).map λi=>z[i%z.size]!) ((gw n).map λi=>f[i%f.size]!):=by
 rcases h.rep n with b|b;.exact b
 .have c:=qu b;have d:=qu (by rw[<-h.size];exact b);subst c d;refine⟨Y1,λi u k e a=>?_⟩;rw[e]at a;cases a;simp only[ky]at e;cases g:(gw n)[i]? with|none=>rw[g]at e;cases e|some j=>rw[g]at e;simp at e;subst e;exact .bool _
def zax(h:PE P P')(z:ZOk P t):SR P P' (λS a b=>S=R/\VR R a b) R (c9 t) (c9 t):=by refine(Xw h t).bind λS a b _ e=>?_;obtain⟨c,rfl,i⟩:=e;have c:=c.symm;subst c;cases d:a.zero with|none=>exact .dead (bY _ rfl)|some v=>exact .pure ⟨rfl,z a v i d _⟩
def Lo(P:al)(t:ah):Bool:=match P.underlying t with|some (.slice e)=>zOk P e|_=>H
def E5{e:ah}(h:Lo P t=E)(u:P.underlying t=C (.slice e)):ZOk P e:=by unfold Lo at h;rw[u]at h;exact xl h
def Ut(h:PE P P')(r:Lo P t=E)(n:Nat){b p:Array (Nat×Y)}(u:LP R b.toList p.toList):SV P P' R (mE t n b) (mE t n p):=by
  refine SR.under h t fun d m=>?_
  cases d with|slice elem=>
    refine .q (vQ h elem) fun s=>?_;by_cases f:n*s>2^24;.simp[if_pos f];exact .dead (cR.seq (bY _ rfl))
    . simp[if_neg f];have fin:∀{z l:Array Y},AV R z l→SV P P' R (match ep (fun i=>C (i*s,s)) ((gw (n*s)).map (z[.%z.size]!)) b.toList with|some cells=>(do b8 (.slice (C (←xV elem cells)) n n):Sem Y)|_=>stuck "buildSlice: a part of the wrong size") (match ep (fun i=>C (i*s,s)) ((gw (n*s)).map (l[.%l.size]!)) p.toList with|some cells=>(do b8 (.slice (C (←xV elem cells)) n n):Sem Y)|_=>stuck "buildSlice: a part of the wrong size"):=by
        intro z l j;rcases Of (fun i=>C (i*s,s)) (j.zqW (n*s)) u with⟨e,c⟩|⟨d,k,e,c,m⟩;.simp[e,c];exact .dead ai
        . simp[e,c];exact .seq (xx elem m) fun S a A _ w=>.pure (.slice _ _ w)
      by_cases g:n*s=0
      . simp[if_pos g];exact fin AV.nil
      . simp[if_neg g];refine(zax h (E5 r m)).bind fun S v B _ x=>?_;have⟨o,y⟩:=x;have o:=o.symm;subst o;exact fin y.cells|_=>exact .dead ai
def VK(n:Nat):SQ P P' R (askRoom n) (askRoom n):=by
 unfold askRoom;split;.exact .mark rfl (eW ())
 .exact eW _
def zc8(t:ah):SV P P' R (Dx t U) (Dx t U):=.new (.map 0 ⟨rfl,λi v c a=>by simp at a⟩) λn b=>.pure (.map ⟨0,.inr ⟨rfl,rfl,rfl⟩⟩)
def za4(h:PE P P')(t:ah){v:Y}(c:VR R v b):SV P P' R (Bn t v) (Bn t b):=by
 refine .q (Oo c) λn=>?_;refine .q (kr h t) λd=>?_;cases d with|chan dir elem=>
  refine .q (Au h elem) λi=>?_;split;.exact .dead (cR.seq (eo _))
  .exact .new (.chan _ H 0 0 H AV.nil) λn a=>.pure (.chan ⟨0,.inr ⟨rfl,rfl,rfl⟩⟩)|_=>exact .dead ai
def Yo(h:PE P P')(r:Lo P t=E){l e:Y}(g:VR R l b)(s:VR R c e):SV P P' R (Instr.makeSlice t l c) (Instr.makeSlice t b e):=by
  refine SR.under h t fun d u=>?_
  cases d with|slice elem=>
    refine .q (Oo g) fun n=>?_;refine .q (Oo s) fun f=>?_;refine .q (Au h elem) fun i=>?_;dsimp only;split
    . refine .dead ?_;repeat' split
      all_goals first|exact cR.seq (eo _)|exact Calm.then (.choose fun n=>.pure n) fun _=>cR.seq (eo _)
    . refine .q (VK _) fun _=>?_;refine .q (vQ h elem) fun k=>?_;have fin:∀{S:BR}{z o:Array Y}(m:Nat),AV S z o→SV P P' S (do let a←xV elem ((gw m).map (z[.%z.size]!));b8 (.slice (C a) (aD.wrap n).toNat (aD.wrap f).toNat)) (do let a←xV elem ((gw m).map (o[.%o.size]!));b8 (.slice (C a) (aD.wrap n).toNat (aD.wrap f).toNat)):=by intro S z o m j;exact .seq (xx elem (AV.zqW j _)) fun T a w _(y:AR T a w)=>.pure (VR.slice _ _ y)
      split;.exact fin _ AV.nil
      . refine(zax h (E5 r u)).bind fun S v B _ x=>?_;have⟨p,A⟩:=x;have p:=p.symm;subst p;exact fin _ A.cells|_=>exact .dead ai
def Uv(h:PE P P'){v:Y}(hv:VR R v v')(xt:ah)(ht:ZOk P t)(ok:Bool):SV P P' R (qd v xt t ok) (qd v' xt t ok):=by
 have o:∀{u u':Y},VR R u u'→SV P P' R (b8 (if ok=E then .tuple #[u,.bool E]else u)) (b8 (if ok=E then .tuple #[u',.bool E]else u')):=by intro u u' a;cases ok with|true=>exact .pure (VR.Xa ((AV.one a).push (.bool E)))|false=>exact .pure a
 have Zh:∀(s d:Option ah)(m:String),SV P P' R (if ok=E then(do b8 (.tuple #[←c9 t,.bool H]))else cJ (.typeAssertion s d t m)) (if ok=E then(do b8 (.tuple #[←c9 t,.bool H]))else cJ (.typeAssertion s d t m)):=by intro s d m;cases ok with |true=>exact .seq (Gu h ht) fun S u u' _ a=>.pure (VR.Xa ((AV.one a).push (.bool H)))|false=>simp only[bt,if_false];exact .dead (eo _)
 unfold qd;refine .q (kr h t) fun d=>?_;cases hv with
 |@iface ty u u' a=>cases d with
  |interface want=>refine .q (Au h ty) fun i=>?_;cases Instr.missingMethod want i.methods with|none=>exact o (.iface ty a)|some m=>exact Zh _ _ _
  |_=>
   simp only;split;.exact o a
   .exact Zh _ _ _
 |nilIface=>cases d<;>exact Zh _ _ _|_=>cases d<;>exact .dead ai
def wH(e n:Nat){v:Y}(hv:VR R v v'):SA P P' R (Builtin.firstCells e n v) (Builtin.firstCells e n v'):=by cases hv with
 |@slice a j l c h=>
  cases a<;>cases j<;>first|exact h.elim|skip
  .exact .pure AV.nil
  .exact yN _ h 0 AV.nil|string s=>refine .pure ⟨rfl,λi u u' f d=>?_⟩;rw[f]at d;cases d;simp only[ky]at f;cases g:(s.extract 0 n).data[i]? with |none=>rw[g]at f;cases f|some b=>rw[g]at f;simp only[cG,ay]at f;subst f;exact .int _ _
 |_=>exact .dead ai
def znD{v:Y}(hv:VR R v v'):SQ P P' R (Builtin.lenOf v) (Builtin.lenOf v'):=by cases hv with|slice l c h=>exact eW _|string s=>exact eW _|_=>exact .dead ai
def AV.zeroCells{a:Array Y}(h:AV R z a)(n:Nat):AV R (vv z n) (vv a n):=by unfold vv;rw[<-h.size];have:=h.zqW (n*z.size);rw[<-h.size]at this;exact this
def P8(a:bX)(n:Nat):Calm P (uv a n):=by unfold uv;refine Calm.seq (s:=shape a.block) (.shape λx=>.pure x) λx=>?_;split<;>exact .pure _
def Tl(c l n:Nat)(b:Option bX)(x:Y):Calm P (Builtin.mayShare c l n b x):=by
  have fin:∀t:Bool,Calm P (if(!t)=E then b8 E else match x with|.slice (C d) _ _=>do b8 (!(←uv d (n*c))||b.any (·.block==d.block))|_=>b8 H):=by
    intro t;split;.exact .pure _
    . split;.exact(P8 _ _).seq fun u=>.pure _
      .exact .pure _
  unfold Builtin.mayShare;cases b with|none=>exact Calm.seq (.pure E) fin|some a=>refine(P8 _ _).seq fun u=>?_;refine Calm.seq (s:=frozen _) (.frozen fun x=>.pure x) fun v=>?_;exact Calm.seq (.pure _) fin
def zgC(h:PE P P'){J O:ah}(ht:Lo P t=E)(r:∀k,P.underlying J≠C (.int k)){v Q:Y}(hv:VR R v v')(M:VR R x Q):SV P P' R (gM #[t,J] O #[v,x]) (gM #[t,J] O #[v',Q]):=by unfold gM;simp only[dV,List.getElem?_cons_zero,List.getElem?_cons_succ];refine SR.under h t λd X=>?_;cases d with
 |slice elem=>have w:=E5 ht X;cases hv with |@slice a K l c L=>
  refine .q (vQ h elem) λI=>?_;refine SR.under h J λd2 f=>?_;cases d2<;>first|exact absurd f (r _)|skip
  all_goals
   simp only[pure_bind];simp only[bt,if_false,Bool.not_false,if_true,false_or];refine .q (znD M) λn=>?_;by_cases W:l+n<=c
   .simp only[if_pos W];refine .seq (wH I n M) λS y A e g=>?_;cases a<;>cases K<;>first|exact L.elim|skip
    .exact .pure (VR.slice (R:=S) (a:=U) (a':=U) _ _ trivial)
    .rename_i p B;exact .seq (wI ((AR.mono e L).add _) 0 g.YU) λT _ _ N _=>.pure (VR.slice (R:=T) (a:=C p) (a':=C B) _ _ (AR.mono N (AR.mono e L)))
   .simp only[if_neg W];refine .q (Au h elem) λi=>?_;split;.exact .dead (cR.seq (eo _))
    .refine .q (Au h elem) λi2=>?_;split
     .refine .dead (cR.seq ?_);refine(Tl _ _ _ _ _).then λb=>?_;cases b;.exact cR.mark (bY _ rfl)
      .exact bY _ rfl
     .refine SR.q (s:=choose _) (s':=choose _) (.choose _ λn=>eW n) λZ=>?_;refine .q (Au h elem) λi3=>?_;refine .q (VK _) λ_=>?_;refine .seq (wH I l (.slice l c L)) λS y A e g=>?_;refine .seq (wH I n (M.mono e)) λT u u' N hu=>?_;refine .seq (Gu h w) λD z z' m j=>?_;exact .seq (xx elem ((((g.mono N).mono m).app (hu.mono m)).app (j.cells.zeroCells _))) λF q o _(G:AR F q o)=>.pure (VR.slice (R:=F) (a:=C q) (a':=C o) _ _ G)|_=>exact .dead ai
 |_=>exact .dead ai
def PE.cellsOf(h:PE P P')(t:ah):P'.cellsOf t=P.cellsOf t:=by simp[Program.cellsOf,h.Ag]
def PE.bytesOf(h:PE P P')(t:ah):P'.bytesOf t=P.bytesOf t:=by simp[Program.bytesOf,h.Ag]
def PE.byteOfCell(h:PE P P'):∀(d:Nat)(t:ah)(o:Nat),byteOfCell P' d t o=byteOfCell P d t o|0,_,_=>rfl|d+1,t,o=>by simp[Go.byteOfCell,h.under,h.cellsOf,h.bytesOf,h.byteOfCell d]
def PE.cellOfByte(h:PE P P'):∀(d:Nat)(t:ah)(o:Nat),cellOfByte P' d t o=cellOfByte P d t o|0,_,_=>rfl|d+1,t,o=>by simp[Go.cellOfByte,h.under,h.cellsOf,h.bytesOf,h.cellOfByte d]
def PE.guard(h:PE P P'):∀(d:Nat)(t:ah),P'.eqGuardType d t=P.eqGuardType d t|0,_=>rfl|d+1,t=>by simp[Program.eqGuardType,h.under,h.guard d]
def PE.WI(h:PE P P'){d:Nat}{e:ah}{n m o:Nat}{b:Int}{x:Nat}(i:n<=m)(g:km P d e n o b=C x):km P' d e m o b=C x:=by
 unfold km at g⊢;simp only[h.cellsOf,h.bytesOf,h.byteOfCell,h.cellOfByte];by_cases a:(P.cellsOf e=0||P.bytesOf e=0)=E;.simp_all
 .simp[a,bt]at g⊢;cases c:Go.byteOfCell P d e (o%P.cellsOf e)with|none=>rw[c]at g;cases g|some here=>
  rw[c]at g;simp only[fZ]at g⊢;split at g;.cases g
  .rename_i j;have f:n*P.bytesOf e<=m*P.bytesOf e:=Nat.mul_le_mul_right _ i;rw[if_neg ?_];.exact g
   .omega
def NA(R:BR):Option (bX×Bool)->Option (bX×Bool)->Prop|none,U=>True|some x,C a=>AR R x.1 a.1/\x.2=a.2|_,_=>False
def SH.isSome{l:Nat}:∀{x a:Option (ah×Nat)},SH l x a->a.isSome=x.isSome|none,U,_=>rfl|some _,C _,_=>rfl
def Gq{c l:Nat}(h:R r c l):SR P P' (λS a b=>S=R/\SH l a b) R (shape r) (shape c):=.shape h λx e d=>.pure ⟨rfl,d⟩
def zcQ{c l:Nat}(h:R r c l):SR P P' (λS a b=>S=R/\NA R a b) R (numberAt r) (numberAt c):=by
 refine(Gq h).bind λS x j _ e=>?_;obtain⟨rfl,f⟩:=e;rw[f.isSome];split;.exact .pure ⟨rfl,aA⟩
 .refine .getObj h λo d g=>?_;cases g with|number cX i=>exact .pure ⟨rfl,i,rfl⟩|_=>exact .pure ⟨rfl,aA⟩
def zan{c l:Nat}(h:R r c l):SR P P' (λS a b=>S=R/\a=U/\b=U) R (viewAt r) (viewAt c):=by
 refine(Gq h).bind λS x i _ e=>?_;obtain⟨rfl,f⟩:=e;rw[f.isSome];split;.exact .pure ⟨rfl,rfl,rfl⟩
 .refine .getObj h λo d g=>?_;cases g<;>exact .pure ⟨rfl,rfl,rfl⟩
def zal{a b:bX}(h:AR R a b):SR P P' (λS x y=>S=R/\AR R x.1 y.1/\x.2=y.2) R (gk a) (gk b):=by
 have⟨⟨l,r,_⟩,_⟩:=h;refine(zcQ r).bind λS x d _ e=>?_;obtain⟨rfl,c⟩:=e;cases x<;>cases d<;>first|exact c.elim|skip
 .exact .pure ⟨rfl,h,rfl⟩
 .exact .pure ⟨rfl,c⟩
def zaX(h:PE P P')(t:ah){a m:bX}(w:AR R a m){i:Y}(k:VR R y i):SR P P' (λS x o=>S=R/\∃b z,x=.pointer (C b)/\o=.pointer (C z)/\AR R b z) R (iK #[] t #[.pointer (C a),y]) (iK #[] t #[.pointer (C m),i]):=by
 have⟨⟨l,r,v⟩,p,s⟩:=w;refine .q (Oo k) λn=>?_;by_cases A:n=0;.simp only[if_pos A];refine(zan r).bind λS x o _ e=>?_;obtain⟨rfl,rfl,rfl⟩:=e;exact .pure ⟨rfl,a,m,rfl,rfl,w⟩
 .simp only[if_neg A];by_cases j:n<0;.simp[if_pos j];exact .dead (cR.seq (bY _ rfl))
  .simp only[if_neg j];refine(Gq r).bind λS x o _ e=>?_;obtain⟨rfl,B⟩:=e;match x,o,B with
   |none,U,_=>exact .dead (bY _ rfl)|some (e,d),C (c,m0),.inl ⟨f,g,u⟩=>subst f;refine .program ?_;show SR P P' _ S (match km P P.depth c (d/P.cellsOf c) a.off n with|some off=>_|none=>_) (match km P' P'.depth c (m0/P'.cellsOf c) m.off n with|some off=>_|none=>_);cases D:km P P.depth c (d/P.cellsOf c) a.off n with |none=>exact .dead (bY _ rfl)|some off=>have:=h.WI (Nat.div_le_div_right g) D;rw[h.depth,h.cellsOf,<-p,this];exact .pure ⟨rfl,_,_,rfl,rfl,⟨l,r,by simp;omega⟩,rfl,s⟩
   |some (e,d),C (c,m0),.inr ⟨f,_⟩=>
    subst f;refine .dead (cR.program ?_);show cR P (match km P P.depth rQ (d/P.cellsOf rQ) a.off n with|some off=>_|none=>_);have:km P P.depth rQ (d/P.cellsOf rQ) a.off n=U:=by
     unfold km;have:P.cellsOf rQ=0:=by simp only[Program.cellsOf,h.no];rfl
     simp[this]
    rw[this];exact bY _ rfl
def pf(h:PE P P'){B:Y}(F:VR R x B)(j:VR R y f)(G:∃a,x=.pointer a):SV P P' R (A0 t x y) (A0 t B f):=by obtain⟨a,rfl⟩:=G;cases F with|@pointer _ z D=>
 refine .q (kr h t) λd=>?_;have A:SV P P' R (match kY a with|.pointer (C n)=>(do let(a,w)<-gk n match<-iK #[] t #[.pointer (C a),y]with|.pointer (C b)=>asNumber b w|v=>pure v)|_=>iK #[] t #[.pointer a,y]) (match kY z with |.pointer (C n)=>(do let(a,w)<-gk n match<-iK #[] t #[.pointer (C a),f]with|.pointer (C b)=>asNumber b w|v=>pure v)|_=>iK #[] t #[.pointer z,f]):=by
  cases a<;>cases z<;>first|exact D.elim|skip
  .refine .dead ?_;have c:Calm P (asInt y):=by
    cases y<;>first|exact .pure _|exact .dead (cR.seq ai)|skip
    rename_i p;cases p;.exact .dead (cR.seq ai)
    .exact .dead (cR.seq (bY _ rfl))
   refine c.then λn=>?_;dsimp only;split;.exact bY _ rfl
   .split;.exact bY _ rfl
    .exact bY _ rfl
  .rename_i n k;refine(zal D).bind λS p m _ e=>?_;obtain⟨rfl,g,i⟩:=e;have⟨s,w⟩:=p;have⟨o,l⟩:=m;simp  at g i;subst i;refine(zaX h t g j).bind λT u I _ e=>?_;obtain⟨rfl,b,J,rfl,rfl,r⟩:=e;exact .new (.number w r) λn k=>.pure (.pointer ⟨⟨0,.inr ⟨rfl,rfl,rfl⟩,a7 _⟩,rfl,rfl⟩)
 cases d with|unsafePointer=>exact .dead (cR.seq (bY _ rfl))|_=>cases a<;>cases z<;>exact A
def zgG{a a':bX}{l:Nat}(r:R a.block a'.block l):SQ P P' R (noView a) (noView a'):=by unfold noView;refine(zan r).bind λS x b _ e=>?_;obtain⟨rfl,rfl,rfl⟩:=e;exact eW _
def SR.prog{f:al->Sem γ}{a:al->Sem δ}(h:SR P P' B R (f P) (a P')):SR P P' B R (Go.program>>=f) (Go.program>>=a):=.program h
def zgq(h:PE P P'){a a':bX}(w:AR R a a')(k:cZ)(n:Int):SR P P' (λS x y=>S=R/\VR R x y) R (ya k a n) (ya k a' n):=by obtain⟨⟨l,r,p⟩,m,o⟩:=w;unfold ya;refine(Gq r).bind λS x t _ e=>?_;obtain⟨rfl,u⟩:=e;match x,t,u with
 |none,U,_=>exact .dead (bY _ rfl)|some (e,g),C (f,m0),.inr ⟨c,_⟩=>subst c;refine .dead (cR.Ag λd v=>?_);rw[h.no]at v;cases v|some (e,g),C (f,m0),.inl ⟨c,_,j⟩=>
  subst c;refine .q (Au h _) λi=>?_;dsimp only;split;.exact .dead (cR.seq (bY _ rfl))
  .refine SR.q (s:=byteOf a) (s':=byteOf a') ?_ λb=>.pure ⟨rfl,.int _ _⟩;unfold byteOf;rw[<-o];cases a.spot with|some s=>exact eW _|none=>refine SR.prog ?_;refine SR.q (zgG r) λ_=>?_;refine(Gq r).bind λS x t _ e=>?_;obtain⟨e0,u⟩:=e;replace e0:=e0.symm;subst e0;match x,t,u with
   |none,U,_=>exact .dead ai|some (e,g),C (f,m0),.inr ⟨_,c⟩=>exact absurd j c|some (e,g),C (f,m0),.inl ⟨c,_,_⟩=>
    subst c;simp only[h.cellsOf,h.bytesOf,h.byteOfCell,h.depth,<-m];split;.exact eW _
    .cases byteOfCell P P.depth f (a.off%P.cellsOf f)with|none=>exact .dead ai|some b=>exact eW _
def ZI{a b:bX}(h:PE P P'){f:Nat×Nat->Sem γ}:cR P (Op.twoPlaces a b>>=f):=by refine cR.seq ?_;unfold Op.twoPlaces;refine cR.program ?_;show cR P (if(a.block !=b.block||decide (a.block≥P.globals.size))=E then _ else _);rw[if_pos (by simp[h.none])];exact cR.seq (bY _ rfl)
def zi0(op:jN)(t:ah)(k c:cZ)(a b:Int):(∃v,binOp op t (.int k a) (.int c b)=.pure v/\∀R:BR,VR R v v)\/∀P:al,cR P (binOp op t (.int k a) (.int c b)):=by
 have s:∀op,(∃v,wZ op k a c b=.pure v/\∀R:BR,VR R v v)\/∀P:al,cR P (wZ op k a c b):=by
  intro op;unfold wZ;split;.exact .inr λP=>eo _
  .cases op<;>first|exact .inl ⟨_,rfl,λ_=>.int _ _⟩|exact .inr λP=>ai
 have d:∀op,(∃v,pQ op k a b=.pure v/\∀R:BR,VR R v v)\/∀P:al,cR P (pQ op k a b):=by
  intro op;unfold pQ;split;.exact .inr λP=>eo _
  .cases op<;>first|exact .inl ⟨_,rfl,λ_=>.int _ _⟩|exact .inr λP=>ai
 cases op<;>first|exact s .shl|exact s .shr|(
   show(∃v,(if k≠c then _ else _)=_/\_)\/∀P,cR P (if k≠c then _ else _);split;.exact .inr λP=>ai
   .first|exact .inl ⟨_,rfl,λ_=>.int _ _⟩|exact .inl ⟨_,rfl,λ_=>.bool _⟩|exact d .quo|exact d .rem|exact .inr λP=>ai)
def zsa(op:jN)(t:ah)(a b:ByteArray):(∃v,binOp op t (.string a) (.string b)=.pure v/\∀R:BR,VR R v v)\/∀P:al,cR P (binOp op t (.string a) (.string b)):=by cases op<;>first|exact .inl ⟨_,rfl,λ_=>.bool _⟩|exact .inr λP=>ai|(
 simp only[binOp,Op.stringOp];split;.exact .inr λP=>bY _ rfl
 .exact .inl ⟨_,rfl,λ_=>.string _⟩)
def zfx:jN->Bool|.eql|.neq=>E|_=>H
def zk9(h:PE P P'){op:jN}(q:zfx op=H)(z:(∃I,P.underlying t=C (.int I))∨P.underlying t=C .string){r:Y}(A:VR R x r)(f:VR R y c):SV P P' R (binOp op t x y) (binOp op t r c):=by
 have w:∀{x r:Y},VR R x r→(∃a,x=.pointer a)→∀{y c:Y},VR R y c→SV P P' R (do if(←underlying t)matches .unsafePointer then movedPointer t x y else A0 t x y) (do if(←underlying t)matches .unsafePointer then movedPointer t r c else A0 t r c):=by intro x r A K y c f;refine SR.under h t fun d u=>?_;rcases z with⟨I,z⟩|z<;>(rw[z]at u;cases u;exact pf h A f K)
 have B:∀{a b:bX},cR P (do Op.addrSub .u64 (←gk a).1 (←gk b).1):=(oa _).then fun _=>(oa _).then fun _=>ZI h;have D:∀{a b:bX}{op:jN},cR P (do Op.addrCmp op (←gk a).1 (←gk b).1):=(oa _).then fun _=>(oa _).then fun _=>ZI h;have J:∀{a a':bX}(k:cZ)(n:Int),AR R a a'→SV P P' R (do ya k (←gk a).1 n) (do ya k (←gk a').1 n):=by intro a a' k n o;refine(zal o).bind fun S p i _ e=>?_;obtain⟨rfl,j,m⟩:=e;exact(zgq h j k n).mono fun S a b x=>by obtain⟨rfl,x⟩:=x;exact x
 cases A;case int k n=>
  cases f;case int L l=>
   rcases zi0 op t k L n l with⟨v,e,F⟩|u;.rw[e];exact .pure (F _)
   .exact .dead (u P)
  case pointer a a' o=>
   cases a<;>cases a'<;>first|exact o.elim|skip
   all_goals cases op<;>first|(cases q;done)|exact .dead ai|exact .dead (bY _ rfl)|exact pf h (.pointer o) (.int k n) ⟨_,rfl⟩|exact J _ _ o
  all_goals cases op<;>first|(cases q;done)|exact .dead ai
 case string s=>
  cases f;case string M=>
   rcases zsa op t s M with⟨v,e,F⟩|u;.rw[e];exact .pure (F _)
   .exact .dead (u P)
  all_goals cases op<;>first|(cases q;done)|exact .dead ai|exact .dead (bY _ rfl)
 case pointer a a' o=>
  cases a<;>cases a'<;>first|exact o.elim|skip
  all_goals cases f
  case none.none.int k n=>cases op<;>first|(cases q;done)|exact .dead ai|exact .dead (bY _ rfl)|exact w (.pointer o) ⟨_,rfl⟩ (.int k n)|exact pf h (.pointer o) (.int k _) ⟨_,rfl⟩
  case some.some.int p i k n=>cases op<;>first|(cases q;done)|exact .dead ai|exact .dead (bY _ rfl)|exact w (.pointer o) ⟨_,rfl⟩ (.int k n)|exact pf h (.pointer o) (.int k _) ⟨_,rfl⟩|exact J _ _ o
  case none.none.pointer b G g=>
   cases b<;>cases G<;>first|exact g.elim|skip
   all_goals cases op<;>first|(cases q;done)|exact .dead ai|exact .dead (bY _ rfl)
  case some.some.pointer p i b G g=>
   cases b<;>cases G<;>first|exact g.elim|skip
   all_goals cases op<;>first|(cases q;done)|exact .dead ai|exact .dead (bY _ rfl)|exact .dead B|exact .dead D
  all_goals cases op<;>first|(cases q;done)|exact .dead ai|exact .dead (bY _ rfl)
 all_goals cases f<;>cases op<;>first|(cases q;done)|exact .dead ai|exact .dead (bY _ rfl)
def znB(h:PE P P')(i:P.eqGuardType P.depth t=H)(op:jN)(a e:aU){o:Y}(p:VR R x o)(g:VR R y f):SQ P P' R (iS op t a e x y) (iS op t a e o f):=by
 have nil:∀b:Bool,SQ P P' R (do
   if b then return
   if<-sJ rq t .nilIface .nilIface then unsupported (.noEntry "binop/eql: two nil values of an interface type with methods, neither of them the literal nil")) (do
   if b then return
   if<-sJ rq t .nilIface .nilIface then unsupported (.noEntry "binop/eql: two nil values of an interface type with methods, neither of them the literal nil")):=by intro b;cases b with|true=>exact eW _|false=>
   refine SR.q (s:=sJ rq t .nilIface .nilIface) (s':=sJ rq t .nilIface .nilIface) ?_ λb=>?_
   .unfold sJ rq;refine .q (kr h t) λd=>?_;cases d<;>exact eW _
   .cases b;.exact eW _
    .exact .dead (bY _ rfl)
 unfold iS;generalize l:(!(match op with|.eql|.neq=>E|_=>H))=b;cases b with|true=>exact eW _|false=>
  rw[if_neg (c:=H=E) Y5,if_neg (c:=H=E) Y5];cases p;case nilIface=>
   cases g;case nilIface=>exact nil _
   all_goals exact eW _
  case agg c m u j=>
   cases g;case agg d n hd k=>refine SR.prog ?_;refine SR.prog ?_;rw[h.guard,h.depth,i];exact eW _
   all_goals exact eW _
  all_goals exact eW _
def zqS(P:al)(t:ah):Bool:=match P.underlying t with|some (.pointer _)|some (.interface _)|some (.slice _)|some (.map _ _)=>E|_=>H
def zdV:aU->Bool|.const (.pointer U)|.const .nilIface|.const (.slice U _ _)|.const (.map U)=>E|_=>H
def zkL(h:PE P P')(d:Nat)(i:zqS P t=E)(k:VR R x j)(b:zdV (.const y)=E):SQ P P' R (cY (d+1) t x y) (cY (d+1) t j y):=by
 unfold cY;refine SR.under h t λe f=>?_;unfold zqS at i;rw[f]at i;unfold zdV at b;split at b;case h_5=>cases b
 all_goals rename_i q;cases q
 all_goals cases e<;>first|(cases i;done)|skip
 all_goals
  cases k;case pointer a a' g=>cases a<;>cases a'<;>first|exact g.elim|exact eW _|exact .dead ai
  case map a a' g=>cases a<;>cases a'<;>first|exact g.elim|exact eW _|exact .dead ai
  case slice a a' l c g=>cases a<;>cases a'<;>first|exact g.elim|exact eW _|exact .dead ai
  all_goals first|exact .dead ai|exact eW _
def zd3(P:al)(op:jN)(t:ah)(y:aU):Bool:=if zfx op then !P.eqGuardType P.depth t&&zms P 8 t||zqS P t&&zdV y else match P.underlying t with|some (.int _)=>E|some .string=>E|_=>H
def zbF(P:al)(t:ah):Bool:=match P.underlying t with|some (.int _)=>E|_=>H
def zbS(P:al)(s t:ah):Bool:=match P.underlying s with|some (.slice e)=>(match P.underlying e,P.underlying t with|some (.int .u8),C .string=>E|_,_=>H)|_=>H
def zeU:∀{l a:List Y}(s:ByteArray),LV R l a->SE P P' R (forIn l s λc s=>(match c with|.int .u8 n=>b8 (ForInStep.yield (s.push (gz n.toNat)))|_=>stuck "bytesToString: byte expected":Sem (ForInStep ByteArray))) (forIn a s λc s=>(match c with|.int .u8 n=>b8 (ForInStep.yield (s.push (gz n.toNat)))|_=>stuck "bytesToString: byte expected":Sem (ForInStep ByteArray)))|[],[],s,_=>by simp[List.forIn_nil];exact .pure rfl|[],_::_,_,h=>h.elim|_::_,[],_,h=>h.elim|c::l,d::a,s,⟨h,b⟩=>by simp[List.forIn_cons];cases h with
 |int k n=>cases k<;>first|exact zeU _ b|exact .dead (cR.seq ai)
 |_=>exact .dead (cR.seq ai)
def zn1{v d:Y}(f:VR R v d):SV P P' R (iN v) (iN d):=by
 unfold iN
 cases f with|@slice a g l c h=>
  cases a<;>cases g<;>first|exact h.elim|skip
  .exact .pure (.string _)
  .refine .seq (yN l h 0 AV.nil) λS x j _ i=>?_;refine .seq (A:=λ_ a b=>a=b) ?_ λT a b _ e=>by subst e;exact .pure (.string _)
   rw[<-nJ,<-nJ];exact zeU _ i.YU|_=>exact .dead ai
def zc4(h:PE P P'){s:ah}(i:(zbF P s&&zbF P t||zbS P s t)=E){v:Y}(p:VR R v j):SV P P' R (convert s t v) (convert s t j):=by
  unfold convert;refine SR.under h s fun d m=>SR.under h t fun e b=>?_;rw[dm,aj]at i;rcases i with⟨q,i⟩|i
  . unfold zbF at q i;rw[m]at q;rw[b]at i;cases d<;>first|(cases q;done)|skip
    cases e<;>first|(cases i;done)|skip
    cases p;case int k n=>exact .pure (.int _ _)
    case pointer a r o=>cases a<;>cases r<;>first|exact o.elim|exact .dead (bY _ rfl)
    all_goals exact .dead (bY _ rfl)
  . unfold zbS at i;rw[m]at i;cases d<;>first|(cases i;done)|skip
    rename_i el;simp  at i;split at i
    . rename_i g f;rw[b]at f;cases f;have go:∀{v j:Y},VR R v j→SV P P' R (do match←underlying el with|.int .u8=>iN v|.int .i32=>Conv.runesToString v|_=>stuck "Convert: a slice of what to string?") (do match←underlying el with|.int .u8=>iN j|.int .i32=>Conv.runesToString j|_=>stuck "Convert: a slice of what to string?"):=by intro v j p;refine SR.under h el fun d m=>?_;rw[g]at m;cases m;exact zn1 p
      cases p;case int k n=>exact .pure (.string _)
      case string s=>exact .pure (.string _)
      case pointer a r o=>exact go (.pointer o)
      case slice a r l c o=>exact go (.slice l c o)
      case bool=>exact go (.bool _)
      case map h=>exact go (.map h)
      case chan h=>exact go (.chan h)
      case func x h y u=>exact go (.func _ x h y u)
      case nilFunc=>exact go .nilFunc
      case iface h=>exact go (.iface _ h)
      case nilIface=>exact go .nilIface
      case agg x h=>exact go (.agg x h)
      case tuple x h=>exact go (.tuple x h)
    .cases i
def zlf(op:UnOp){v:Y}(h:VR R v c):SV P P' R (Op.unary op v) (Op.unary op c):=by
 cases h;case int k n=>cases op<;>first|exact .pure (.int _ _)|exact .dead ai
 case bool b=>cases op<;>first|exact .pure (.bool _)|exact .dead ai
 case pointer a d e=>cases a<;>cases d<;>first|exact e.elim|(cases op<;>first|exact .dead ai|exact .dead (bY _ rfl))
 all_goals cases op<;>exact .dead ai
def u9(P:al)(s:ah)(f:Nat):Bool:=match P.underlying s with|some (.struct a)=>(match a[f]? with|some g=>(match P.info? g.type with|some i=>i.size !=0|none=>E)|none=>E)|_=>E
def zc6(h:PE P P'){s:ah}{f:Nat}(c:u9 P s f=E){v l:Y}(m:VR R v l):SV P P' R (kX s v f) (kX s l f):=by unfold kX;refine SR.under h s λd n=>?_;unfold u9 at c;rw[n]at c;cases d with
 |struct fields=>simp  at c⊢;cases j:fields[f]? with |none=>exact .dead ai|some g=>rw[j]at c;simp  at c⊢;refine(EN m).bind λS a q _ e=>?_;obtain⟨rfl,o⟩:=e;unfold fieldPlace ie;refine SR.seq ?_ λT b r _ k=>.pure (VR.pointer k);rw[bind_assoc,bind_assoc];refine SR.Ag h _ λi p=>?_;rw[p]at c;simp[bne_iff_ne,ne_eq]at c;show SR P P' _ S (if i.size=0 then _ else _) (if i.size=0 then _ else _);rw[if_neg c,if_neg c];exact .pure (AR.add o _)
 |_=>exact .dead ai
def zr7(h:PE P P')(t m:ah){v n:Y}(j:VR R v n):SV P P' R (ij #[t] m #[v]) (ij #[t] m #[n]):=by
 unfold ij;simp;refine .q (kr h t) λd=>?_;cases d;case string=>cases j<;>first|exact .pure (.int _ _)|exact .dead ai
 case array=>exact .pure (.int _ _)
 case pointer arr=>refine .q (kr h arr) λe=>?_;cases e<;>first|exact .pure (.int _ _)|exact .dead ai
 case slice=>cases j<;>first|exact .pure (.int _ _)|exact .dead ai
 case map=>
  cases j;case map r a i=>
   cases r<;>cases a<;>first|exact i.elim|skip
   .exact .pure (.int _ _)
   .have⟨l,i⟩:=i;exact JC i (λu b k c=>.pure (by rw[<-c.size];exact .int _ _)) (λ_ _ _ _ _ _=>ai) (λ_ _ _=>ai) (λ_ _=>ai)
  all_goals exact .dead ai
 case chan=>
  cases j;case chan r a i=>
   cases r<;>cases a<;>first|exact i.elim|skip
   .exact .pure (.int _ _)
   .have⟨l,i⟩:=i;refine .getObj i λo g p=>?_;cases p with|chan cap closed s r w f=>exact .pure (by rw[f.size];exact .int _ _)|_=>exact .dead ai
  all_goals exact .dead ai
 all_goals exact .dead ai
def zn4{i d:Y}(j:VR R x i)(h:VR R y d):SV P P' R (sF x y) (sF i d):=by
 cases j;case int k n=>
  cases h;case int=>exact .pure (.int _ _)
  case pointer a e f=>cases a<;>cases e<;>first|exact f.elim|exact .dead ai|exact .dead (bY _ rfl)
  all_goals exact .dead ai
 case string s=>
  cases h;case string l=>exact .pure (.string _)
  case pointer a e f=>cases a<;>cases e<;>first|exact f.elim|exact .dead ai|exact .dead (bY _ rfl)
  all_goals exact .dead ai
 case pointer a e f=>
  cases a<;>cases e<;>first|cases f|skip
  .cases h;case pointer b g c=>cases b<;>cases g<;>first|exact c.elim|exact .dead ai|exact .dead (bY _ rfl)
   all_goals exact .dead ai
  .exact .dead (by cases y<;>exact bY _ rfl)
 all_goals
  cases h;case pointer b g c=>cases b<;>cases g<;>first|exact c.elim|exact .dead ai|exact .dead (bY _ rfl)
  all_goals exact .dead ai
def ze4:∀{l a:List Y}{R:BR}{x d:Y},VR R x d->LV R l a->SV P P' R (l.foldlM sF x) (a.foldlM sF d)|[],[],_,_,_,c,_=>.pure c|[],_::_,_,_,_,_,h=>h.elim|_::_,[],_,_,_,_,h=>h.elim|_::_,_::_,_,_,_,c,h=>by simp[fY];exact .seq (zn4 c h.1) λS u f b e=>ze4 e (h.2.mono b)
def zr8(t:Array ah)(d:ah){c x:Array Y}(h:AV R c x):SV P P' R (sG t d c) (sG t d x):=by
 unfold sG;have a:=h.YU;generalize c.toList=l at a;generalize x.toList=b at a;cases l<;>cases b<;>first|exact a.elim|skip
 .exact .dead ai
 .exact ze4 a.1 a.2
def zkP{c:ah->Option iC}{d:ej}{i:iC}(h:Made.reckon c d=C i):i.methods=#[]:=by
 have b:∀{α:Type}{x:Option α}{f:α->Option iC},(∀a,f a=C i->i.methods=#[])->x.bind f=C i->i.methods=#[]:=by intro α x f k e;cases x with|none=>cases e|some a=>exact k a e
 unfold Made.reckon at h;split at h;case h_7=>unfold Made.reckonStruct at h;grind
 all_goals first|(cases h;done)|skip
 all_goals repeat'(first|(refine b (λa e=>?_) h;clear h;rename _=C i=>h)|(cases h;rfl)|(cases h;done)|(split at h))
def zka{T:Tables}{i:iC}(a:¬t<T.types.size):∀{f:Nat},vh T f t=C i->i.methods=#[]|0,h=>by cases h|f+1,h=>by unfold vh at h;rw[if_neg a]at h;cases hd:Made.decode (t-T.types.size)with|none=>rw[hd]at h;cases h|some d=>rw[hd]at h;exact zkP h
def WY(P:al)(name:String):Bool:=P.types.all λi=>match i.methods.find? (·.name==name)with|some m=>(m.path.all λx=>!x.deref)&&m.func.isSome|none=>E
def zn5(x:ah)(t:ah)(m:String){v:Y}(c:VR R v b):SV P P' R (po #[x] t #[v,strVal "",strVal m]) (po #[x] t #[b,strVal "",strVal m]):=by
 unfold po strVal;cases c;case pointer a e h=>
  cases a<;>cases e<;>first|exact h.elim|skip
  .refine .dead (cR.choose λn=>?_);show cR P (if(n==1)=E then(cJ .nilDeref>>=λ_=>_)else _);split;.exact cR.seq (eo _)
   .refine(P9 _).then λd=>?_;cases d<;>first|exact ai|skip
    refine(zfK _).then λi=>?_;split
    .split
     .dsimp only;split;.exact eo _
      .exact bY _ rfl
     .exact ai
    .exact ai
  .exact .pure (.pointer h)
 all_goals exact .dead ai
def VU(h:PE P P'):∀(l:List FieldStep)(t:ah){R:BR}{v e:Y},(∀x∈l,x.deref=H)->VR R v e->SR P P' (λS a b=>a.1=b.1/\∃u g,a.2=Place.val u/\b.2=Place.val g/\VR S u g) R (follow l t (.val v)) (follow l t (.val e))|[],t,R,v,e,_,i=>.pure ⟨rfl,v,e,rfl,rfl,i⟩|s::rest,t,R,v,e,c,i=>by unfold follow;refine .q (kr h _) λd=>?_;cases d with
 |struct fields=>simp only;cases fields[s.index]? with|none=>exact .dead ai|some f=>simp only[c s Y1,bt,if_false];cases i with |agg j k=>exact .seq (XC h f.type ⟨j,k⟩ f.offset) λS u g _ m=>VU h rest f.type (λx j=>c x (by simp[j])) m|_=>exact .dead ai
 |_=>exact .dead ai
def zgF(h:PE P P')(d M:Nat)(t:ah){name:String}(g:WY P name=E){v J:Y}(G:VR R v J):SR P P' (fun S a b=>a.1=b.1∧VR S a.2 b.2) R (method (d+1) t v name) (method (M+1) t J name):=by
 unfold method;refine SR.Ag h t fun i N=>?_;have k:(match i.methods.find? (·.name==name)with|some m=>(m.path.all fun x=>!x.deref)&&m.func.isSome|none=>E)=E:=by
  unfold WY at g;rw[aQ]at g;by_cases L:t<P.types.size;.grind[Tables.info?]
  . rw[zka L (by simpa only[Tables.info?,if_neg L]using N)];rfl
 cases w:i.methods.find? (·.name==name)with|none=>exact .dead ai|some m=>
  rw[w]at k;simp only[aj]at k;have F:∀x∈m.path.toList,x.deref=H:=by grind[aQ]
  cases c:m.func with|none=>rw[c]at k;cases k.2|some q=>
   have⟨f,y⟩:=q;refine .seq (VU h m.path.toList t F G) fun z a b B j=>?_;have⟨K,D⟩:=a;have⟨s,A⟩:=b;have⟨n,v,J,o,r,G⟩:=j;simp  at n o r;subst n o r;simp[c];refine SR.seq ?_ fun S u O _ I=>.pure ⟨rfl,I⟩;unfold receiverAt;refine .q (kr h K) fun e=>?_;cases e<;>cases y;case pointer.false elem=>
    refine SR.seq (.pure G) fun S u O _ I=>?_;have fin:∀{S:BR}{p l:Y},VR S p l→SV P P' S (do dx elem (←rP p)) (do dx elem (←rP l)):=fun F=>.seq (VT F) fun T a W _ Q=>EV h elem Q;split;.exact .seq (zn5 K K _ I) fun T p l _ F=>fin F
    .exact fin I
   all_goals first|exact .pure G|exact .dead ai
end
def Du:dH:={(default:dH)with name:= "no such function",origin:= "no such function",body:=U}
def zcx:et Du=U:=gK
def zcv:fJ Du=U:=gK
def zfY:(Du.name== "runtime.NumGoroutine")=H:=gK
def zcw:(Du.name.endsWith ".init"&&!Du.name.startsWith "("&&!Du.name.startsWith "gosem.")=H:=gK
def US(f:dH):Bool:=(f.name== "internal/bytealg.CountString"||f.name== "internal/bytealg.IndexByteString")&&f.origin== ""&&f.body.isNone
theorem zjW:uw.lookup "internal/bytealg.CountString"=U/\uw.lookup "internal/bytealg.IndexByteString"=U/\uw.lookup ""=U:=⟨gK,gK,gK⟩
variable{f:dH}
def zjV(h:US f=E):et f=U:=by simp[US,aj,dm,beq_iff_eq]at h;grind[et,zjW]
def zf3(h:f.name= "internal/bytealg.CountString"):fJ f=C ja:=by unfold fJ;simp only[h];have e:Extern.allGenericRows.lookup "internal/bytealg.CountString"=U:=gK;have a:Extern.allTypedRows.lookup "internal/bytealg.CountString"=U:=gK;have b:Extern.allRows.lookup "internal/bytealg.CountString"=C ja:=gK;grind
def zf4(h:f.name= "internal/bytealg.IndexByteString"):fJ f=C fc:=by unfold fJ;simp only[h];have e:Extern.allGenericRows.lookup "internal/bytealg.IndexByteString"=U:=gK;have a:Extern.allTypedRows.lookup "internal/bytealg.IndexByteString"=U:=gK;have b:Extern.allRows.lookup "internal/bytealg.IndexByteString"=C fc:=gK;grind
structure PG(P P':al):Prop where
 pe:PE P P'
 fn:∀(f:bu)(fn:dH),P.funcs[f]?=C fn->fn=Du\/((fn.name== "runtime.NumGoroutine")=H/\(fn.body.isSome=E\/US fn=E)/\P'.funcs[f]?=C fn)size:P'.funcs.size=P.funcs.size
 mixed:P'.follows .mixedOrders=P.follows .mixedOrders
structure CR(R:BR)(c c':lV):Prop where
 chan:VR R c.chan c'.chan
 send:OV R c.send c'.send
 zero:VR R c.zero c'.zero
def clF:bu:=36
inductive DR(R:BR):dI->dI->Prop|close(ts:Array ah)(t:ah)(cs:Array Bool){x x':Array Y}(args:AV R x x'):DR R ⟨.builtin .close ts t cs,x⟩ ⟨.builtin .close ts t cs,x'⟩|clo{v v':Y}(h:VR R v v'):DR R ⟨.nil,#[v]⟩ ⟨.fn (.func clF) #[v'],#[]⟩
def zja:jV->Bool|.select=>H|_=>E
inductive NR(P:al)(R:BR):s3->s3->Prop|value{v v':Y}(h:VR R v v'):NR P R (.value v) (.value v')|skip:NR P R .skip .skip|enter(f:bu)(hf:∃fn,P.funcs[f]?=C fn/\fn.body.isSome=E){x x':Array Y}(h:AV R x x'):NR P R (.enter f x) (.enter f x')|defer{d d':dI}(h:DR R d d')(hc:∃ts t cs,d.target=.builtin .close ts t cs):NR P R (.defer d) (.defer d')|comm{c c':lV}(h:CR R c c')(sh:jV)(hs:zja sh=E):NR P R (.comm #[c] E sh) (.comm #[c'] E sh)
abbrev SN(P P':al)(R:BR)(s s':Sem s3):Prop:=SR P P' (λS a b=>NR P S a b) R s s'
section
variable{P P':al}{α β γ δ:Type}{A:BR->α->β->Prop}{B:BR->γ->δ->Prop}{R:BR}
def ow{s a:Sem Y}(h:SV P P' R s a):SN P P' R (do pure (.value (<-s))) (do pure (.value (<-a))):=.seq h λ_ _ _ _ v=>.pure (.value v)
def zq2{s a:Sem Unit}(h:SR P P' (λ_ _ _=>True) R s a):SN P P' R (do s;pure .skip) (do a;pure .skip):=.seq h λ_ _ _ _ _=>.pure .skip
def QL{v e:Y}(g:VR R v e):SE P P' R (Extern.Bytes.bytesOf v) (Extern.Bytes.bytesOf e):=by
 cases g with |string s=>exact .pure rfl|@slice a d l c h=>
  cases a<;>cases d<;>first|exact h.elim|skip
  .exact .pure rfl
  .have go:∀(n:Nat){S:BR}{a d:bX}(b:ByteArray),AR S a d->SE P P' S (yR a n b) (yR d n b):=by intro n;induction n with |zero=>intro S a d b _;exact .pure rfl|succ n i=>intro S a d b f;refine .seq (XB f) λT u p j o=>?_;cases o with
    |int k m=>cases k<;>first|exact i _ ((f.mono j).add 1)|exact .dead ai
    |_=>exact .dead ai
   exact go l _ h|_=>exact .dead ai
def zgD{v a:Y}(h:VR R v a):SE P P' R (Extern.Bytes.asByte v) (Extern.Bytes.asByte a):=by cases h with
 |int k n=>cases k<;>first|exact .pure rfl|exact .dead ai
 |_=>exact .dead ai
def zmo{α:Type}{x:Array α}(h:x.size=2):∃a b,x=#[a,b]:=by have⟨l⟩:=x;match l,h with|[a,b],_=>simp_all
variable{x:Array Y}
def zjl{j:Array Y}(h:AV R x j):SV P P' R (ja x) (ja j)/\SV P P' R (fc x) (fc j):=by
 by_cases a:x.size=2
 .obtain⟨b,c,rfl⟩:=zmo a;obtain⟨k,g,rfl⟩:=zmo (h.size▸a);have d:=h.at_ 0 b k rfl rfl;have m:=h.at_ 1 c g rfl rfl;refine⟨.seq (QL d) λS u n f e=>?_,.seq (QL d) λS u n f e=>?_⟩<;>subst e<;>refine .seq (zgD (m.mono f)) λT y i o e=>?_<;>subst e;.exact .pure (.int _ _)
  .split<;>exact .pure (.int _ _)
 .have⟨l⟩:=x;match l,a with|[],_=>exact⟨.dead ai,.dead ai⟩|[_],_=>exact⟨.dead ai,.dead ai⟩|[_,_],a=>cases a rfl|_::_::_::_,_=>exact⟨.dead ai,.dead ai⟩
def Mp(g:PG P P')(f:bu){c:Array Y}(h:AV R x c):SN P P' R (dp f x) (dp f c):=by unfold dp;apply SR.prog;cases d:P.funcs[f]? with|none=>exact .dead ai|some fn=>
 rcases g.fn f fn d with rfl|⟨i,a,j⟩
 .refine .dead ?_;simp[zfY,zcx,zcv,zcw,bt];exact cR.mark (bY _ rfl)
 .simp only[j,i,bt,if_false];rcases a with a|a
  .have b:fn.body.isNone=H:=by simp_all
   simp[b,bt];exact .pure (.enter f ⟨fn,d,a⟩ h)
  .have b:fn.body.isNone=E:=by simp_all[US,aj]
   simp[b,zjV a];refine .mark rfl ?_;simp[US,aj,dm,beq_iff_eq]at a;rcases a.1.1 with e|e;.simp[zf3 e];exact ow (zjl h).1
   .simp[zf4 e];exact ow (zjl h).2
def Uu(g:PG P P'){name:String}(m:WY P name=E){v c:Y}(j:VR R v c){d:Array Y}(k:AV R x d):SN P P' R (EE v name x) (EE c name d):=by unfold EE;cases j with|@iface t u n hu=>apply SR.prog;refine .seq (zgF g.pe _ _ t m hu) λS p a h l=>?_;have⟨f,r⟩:=p;have⟨o,b⟩:=a;have⟨e,i⟩:=l;simp  at e i;subst e;exact Mp g f ((AV.one i).app (k.mono h))|nilIface=>exact .dead (eo _)|_=>exact .dead ai
def nGl:Nat:=2
def oC:aU->Bool|.tmp _|.func _=>E|.const v=>zdP v|.global g=>lA g nGl
def W3(P:al)(c:Call):Bool:=c.args.all oC&&match c.callee with|.builtin .len=>c.argTypes.size==1&&c.args.size==1|.builtin .append=>c.argTypes.size==2&&c.args.size==2&&Lo P (c.argTypes.getD 0 0)&&!zbF P (c.argTypes.getD 1 0)|.builtin .min=>E|.invoke r name=>oC r&&WY P name|.value f=>oC f|_=>H
def zue(P:al)(t:ah):Bool:=match P.underlying t with|some (.map _ e)=>zOk P e|_=>E
def zox(P:al)(t:ah):Bool:=match P.underlying t with|some (.chan _ e)=>zOk P e|_=>E
def MD(P:al)(o:Op):Bool:=match o with|.move x|.assign x|.box _ x|.load _ x|.nilCheck x|.unOp _ _ x|.makeInterface _ x|.makeChan _ x|.field _ x _|.extract x _=>oC x|.pick c a b=>oC c&&oC a&&oC b|.alloc t=>zOk P t|.build t p=>zOk P t&&p.all λx=>oC x.2|.buildSlice t _ p=>Lo P t&&p.all λx=>oC x.2|.store _ a x=>oC a&&oC x|.binOp op t x y _=>oC x&&oC y&&zd3 P op t y|.convert s d x=>oC x&&(zbF P s&&zbF P d||zbS P s d)|.makeMap _ U=>E|.makeSlice t l c=>oC l&&oC c&&Lo P t|.slice _ x l h m=>oC x&&l.all oC&&h.all oC&&m.all oC|.fieldAddr s x f=>oC x&&u9 P s f|.indexAddr _ x i|.index _ x i=>oC x&&oC i|.lookup t x i ok=>oC x&&oC i&&!ok&&UW P t&&zue P t|.mapUpdate t m k x|.insert t m k x=>oC m&&oC k&&oC x&&UW P t|.typeAssert x _ t _=>oC x&&zOk P t|.call c=>W3 P c|.defer c=>c.args.all oC&&(c.callee matches .builtin .close)|.send ch x=>oC ch&&oC x|.recv t ch _=>oC ch&&zox P t|.panic _=>E|_=>H
def AV.map{f d:aU->Y}{c:Array aU}(h:c.all oC=E)(b:∀x,oC x=E->VR R (f x) (d x)):AV R (c.map f) (c.map d):=by refine⟨Y1,λi u e g a=>?_⟩;grind
def OV.map{f b:aU->Y}{x:Option aU}(h:x.all oC=E)(a:∀x,oC x=E->VR R (f x) (b x)):OV R (x.map f) (x.map b):=by cases x with|none=>trivial|some x=>exact a x h
def LP.zoV{f b:aU->Y}{p:Array (Nat×aU)}(h:(p.all λx=>oC x.2)=E)(a:∀x,oC x=E->VR R (f x) (b x)):LP R (p.map λx=>(x.1,f x.2)).toList (p.map λx=>(x.1,b x.2)).toList:=by simp[Array.toList_map];rw[aQ]at h;exact LP.map f b _ λx c=>a _ (h x Y7)
def zu8(h:PE P P'){op:jN}(r:zfx op=E){t:ah}(d f:aU)(j:zd3 P op t f=E){x p y a:Y}(u:VR R x p)(g:VR R y a)(A:∀v,f=.const v→y=v∧a=v):SV P P' R (do iS op t d f x y;binOp op t x y) (do iS op t d f p a;binOp op t p a):=by
 have fin:∀op,zfx op=E→SQ P P' R (oO t x y) (oO t p a)→SV P P' R (binOp op t x y) (binOp op t p a):=by
  intro op r i;have w:SV P P' R (do pure (.bool (←oO t x y))) (do pure (.bool (←oO t p a))):=.q i fun b=>.pure (.bool _);have l:SV P P' R (do pure (.bool (!(←oO t x y)))) (do pure (.bool (!(←oO t p a)))):=.q i fun b=>.pure (.bool _);clear i A;cases op<;>first|(cases r;done)|skip
  all_goals
   cases u;case int k n=>
    cases g;case int z m=>
     clear w l;refine(?_:SV P P' R (binOp _ t (.int k n) (.int z m)) (binOp _ t (.int k n) (.int z m)));rcases zi0 _ t k z n m with⟨v,e,B⟩|D;.rw[e];exact .pure (B _)
     .exact .dead (D P)
    all_goals first|exact w|exact l
   case string s=>
    cases g;case string F=>exact .pure (.bool _)
    all_goals first|exact w|exact l
   all_goals cases g<;>first|exact w|exact l
 unfold zd3 at j;rw[if_pos r]at j;simp[dm,aj]at j;rcases j with⟨o,c⟩|⟨o,c⟩;.exact .q (znB h o op d f u g) fun _=>fin op r (VL h h.held 8 10000 t c u g)
 .cases f with|const v=>
   obtain⟨rfl,rfl⟩:=A v rfl;refine .q ?_ fun _=>fin op r (zkL h 9999 o u c);have :∀x,iS op t d (.const a) x a=Sem.pure ():=by
    intro x;unfold zdV at c;split at c;case h_5=>cases c
    all_goals rename_i i;cases i;cases op<;>first|(cases r;done)|(cases x<;>first|rfl|(cases d<;>rfl))
   rw[this,this];exact eW _|tmp _=>cases c|global _=>cases c|func _=>cases c
def zmn{α:Type}{x:Array α}(h:x.size=1):∃a,x=#[a]:=by have⟨l⟩:=x;match l,h with|[a],_=>simp_all
def zn2(g:PG P P'){c:Call}(w:W3 P c=E)(D:ah){f F:aU→Y}(a:∀x,oC x=E→VR R (f x) (F x)):SN P P' R (do let d←resolve f c D;invoke d.target d.args) (do let d←resolve F c D;invoke d.target d.args):=by unfold W3 at w;rw[aj]at w;have⟨A,w⟩:=w;have args:=AV.map A a;have⟨z,as,s⟩:=c;simp only at A w args;cases z with
 |builtin b=>
  simp[resolve,pure_bind,invoke];generalize(as.map fun|.const _=>E|_=>H)=cs;cases b<;>first|(cases w;done)|skip
  case len=>simp[aj,beq_iff_eq]at w;have⟨i,j⟩:=w;obtain⟨t,rfl⟩:=zmn i;obtain⟨x,rfl⟩:=zmn j;simp[qe,cQ,sH];exact ow (zr7 g.pe t D (a x (by simpa using A)))
  case min=>exact ow (zr8 _ _ args)
  case append=>simp only[aj,beq_iff_eq,gG]at w;have⟨⟨⟨i,j⟩,m⟩,l⟩:=w;obtain⟨t,t2,rfl⟩:=zmo i;obtain⟨x,y,rfl⟩:=zmo j;simp only[List.all_toArray,List.all_cons,aj]at A;simp[qe,cQ,sH];refine ow (zgC g.pe (by simpa using m) ?_ (a x A.1) (a y A.2.1));intro k n;simp only[zbF]at l;have :(#[t,t2]:Array ah).getD 1 0=t2:=rfl;rw[this,n]at l;cases l|invoke r name=>
  simp[aj]at w;simp only[resolve,pure_bind,invoke];have e:∀f:aU→Y,(#[f r]++as.map f)[0]?=C (f r):=fun f=>by rw[zO];rfl
  have o:∀f:aU→Y,(#[f r]++as.map f).extract 1 (#[f r]++as.map f).size=as.map f:=fun f=>Y1;simp only[e,o];exact Uu g w.2 (a r w.1) args|value x=>
  simp[resolve];have B:=a x w;generalize f x=u at B;generalize F x=I at B;cases B;case func q x J y v B h p G=>simp only[Deferred.ofValue,pure_bind,invoke];exact Mp g q ((AV.app ⟨B,h⟩ args).app ⟨p,G⟩)
  case nilFunc=>exact .dead (show cR P (cJ .nilDeref)from eo _)
  all_goals exact .dead (cR.seq ai)
def zcu(v:Y):cR P (do pure (dU (←Instr.panic v)):Sem s3):=by unfold Instr.panic;cases v with
 |iface t u=>exact .halt rfl|nilIface=>
  refine cR.sys fun r=>?_
  cases r with |strings env=>
   refine .program ?_;show cR P ((if(_:Int)==1 then goPanic .nilIface else cJ .panicNil:Sem Y)>>=_);split;.exact .halt rfl
   .exact cR.seq (eo _)|_=>exact .halt rfl
 |_=>exact .halt rfl
def Ou(g:PG P P'){o:bU}(ho:MD P o.op=E){f f':aU->Y}(j:∀x,oC x=E->VR R (f x) (f' x))(hc:∀v,f (.const v)=v/\f' (.const v)=v):SN P P' R (aG f o) (aG f' o):=by
 have h:=g.pe;have⟨dst,op,ty,pos,M,N⟩:=o;simp  at ho;unfold aG;cases op<;>simp only[MD,aj,bt]at ho;case move x=>exact .pure (.value (j x ho))
 case assign x=>exact .pure (.value (j x ho))
 case pick c a b=>exact .q (zkJ (j c ho.1.1)) λb=>.pure (.value Y8)
 case alloc t=>exact ow (PS h (xl ho))
 case box t x=>exact ow (zr6 t (j x ho))
 case build t F=>exact ow (zla h (xl ho.1) (LP.zoV ho.2 j))
 case buildSlice t n F=>exact ow (Ut h ho.1 n (LP.zoV ho.2 j))
 case load t x=>exact ow (JD h t (j x ho))
 case store t a x=>exact zq2 (QM h t (j a ho.1) (j x ho.2))
 case nilCheck x=>
  have hx:=j x ho;simp;generalize f x=u at hx;generalize f' x=u' at hx;cases hx;case pointer a a' ha=>
   cases a<;>cases a'<;>first|exact ha.elim|skip
   .exact .dead (eo _)
   .exact .pure (.value (.pointer ha))
  case nilIface=>exact .dead (eo _)
  case nilFunc=>exact .dead (eo _)
  case bool b=>exact .pure (.value (.bool b))
  case int k n=>exact .pure (.value (.int k n))
  case string s=>exact .pure (.value (.string s))
  case slice a a' l c h=>exact .pure (.value (.slice l c h))
  case map a a' h=>exact .pure (.value (.map h))
  case chan a a' h=>exact .pure (.value (.chan h))
  case func q x x' y O hx h G h'=>exact .pure (.value (.func q hx h G h'))
  case iface t u u' h=>exact .pure (.value (.iface t h))
  case agg x x' hx h=>exact .pure (.value (.agg hx h))
  case tuple x x' hx h=>exact .pure (.value (.tuple hx h))
 case binOp op t x y Q=>
  apply ow;by_cases p:zfx op=E;.exact zu8 h p x y ho.2 (j x ho.1.1) (j y ho.1.2) (λv hv=>Y7)
  .have w:zfx op=H:=Y7;have A:=ho.2;unfold zd3 at A;rw[if_neg p]at A;have W:∀a b:Y,iS op t x y a b=Sem.pure ():=by intro a b;unfold iS;cases op<;>first|(cases w;done)|rfl
   rw[W,W];refine zk9 h w ?_ (j x ho.1.1) (j y ho.1.2);grind
 case unOp op t x=>exact ow (zlf op (j x ho))
 case convert s d x=>exact ow (zc4 h ho.2 (j x ho.1))
 case makeInterface t x=>exact ow (K1 h t (j x ho))
 case makeMap t r=>cases r with|none=>exact ow (zc8 t)|some r=>cases ho
 case makeChan t s=>exact ow (za4 h t (j s ho))
 case makeSlice t l c=>exact ow (Yo h ho.2 (j l ho.1.1) (j c ho.1.2))
 case slice t x T hi X=>exact ow (zc9 h t (j x ho.1.1.1) (OV.map ho.1.1.2 j) (OV.map ho.1.2 j) (OV.map ho.2 j))
 case fieldAddr s x i=>exact ow (zc6 h ho.2 (j x ho.1))
 case field t x i=>exact ow (zlb h t (j x ho) i)
 case indexAddr t x i=>exact ow (zc7 h t (j x ho.1) (j i ho.2))
 case index t x i=>exact ow (zlc h t (j x ho.1) (j i ho.2))
 case lookup t x i ok=>have⟨⟨⟨⟨Z,I⟩,J⟩,K⟩,B⟩:=ho;cases ok with|true=>cases J|false=>refine ow (zgE h K (λk e p=>?_) (j x Z) (j i I));unfold zue at B;rw[p]at B;exact xl B
 case mapUpdate t m k x=>exact zq2 (Hy h ho.2 (j m ho.1.1.1) (j k ho.1.1.2) (j x ho.1.2))
 case insert t m k x=>exact zq2 (Hy h ho.2 (j m ho.1.1.1) (j k ho.1.1.2) (j x ho.1.2))
 case typeAssert x xt t ok=>exact ow (Uv h (j x ho.1) xt (xl ho.2) ok)
 case extract x i=>exact ow (zc5 (j x ho) i)
 case call c=>exact zn2 g ho ty j
 case defer c=>have⟨callee,as,Q0⟩:=c;simp only at ho;cases callee with|builtin b=>
   cases b<;>first|(cases ho.2;done)|skip
   simp[resolve];exact .pure (.defer (.close _ _ _ (AV.map ho.1 j)) ⟨_,_,_,rfl⟩)|_=>cases ho.2
 case send ch x=>exact .pure (.comm ⟨j ch ho.1,(show OV R (C (f x)) (C (f' x))from j x ho.2),.tuple rfl λi v v' a=>by simp at a⟩ _ rfl)
 case panic x=>exact .dead (zcu _)
 case recv t ch ok=>refine SR.under h t λd hd=>?_;have Q1:=ho.2;unfold zox at Q1;rw[hd]at Q1;cases d with|chan dir e=>exact .seq (Gu h (xl Q1)) λS z z' L D=>.pure (.comm ⟨(j ch ho.1).mono L,(show OV S U U from trivial),D⟩ _ rfl)|_=>exact .dead ai
end
def ll(P:al):eF->Bool|.skip|.exit _|.ret=>E|.region _ ops _=>ops.all λo=>MD P o.op|.seq a b=>ll P a&&ll P b|.cond c a b=>oC c&&ll P a&&ll P b|.block _ c=>ll P c|.loop c=>ll P c|_=>H
def pO(P:al):mZ->Bool|.code c=>ll P c|.inBlock _=>E|.inLoop c=>ll P c|.inRegion ops _=>ops.all λo=>MD P o.op|_=>H
def GP(P:al):Prop:=∀(f:bu)(a:dH)(c:eF),P.funcs[f]?=C a->a.body=C c->ll P c=E
inductive LR where|next(fr:ag)(L:List ag)(w:V)(es:Array bB)(acts:List ic)|ret(v:Y)(w:V)(es:Array bB)|bad
def jK(f:ag)(L:List ag)(c:lV)(b:jV)(w:V)(e:Array bB):LR:=match c.chan with
 |.chan (C r)=>match w.heap[r]?,c.send with|some (.chan cap buf closed s a t),C v=>if closed then .bad else if buf.size<cap then .next (f.finish (pZ #[c] b 0 undef false)) L {w with heap:=w.heap.setIfInBounds r (.chan cap (buf.push v) closed (s+1) a t)} e [.send r s,.sendDone r s]else .bad|some (.chan cap buf closed s a t),U=>if buf.size>0 then .next (f.finish (pZ #[c] b 0 (buf.getD 0 undef) E)) L {w with heap:=w.heap.setIfInBounds r (.chan cap (buf.extract 1 buf.size) closed s (a+1) t)} e [.recv r a cap,.recvDone r a]else if closed then .next (f.finish (pZ #[c] b 0 c.zero H)) L w e [.recvClosed r]else .bad|_,_=>.bad
 |_=>.bad
def Ea(P:al)(fr:ag)(L:List ag)(o:bU)(w:V):LR:=match(aG fr.eval o).runT P w #[]with|(.ok (.value v) w1,es)=>.next (fr.finish v) L w1 (seen P fr.fn es) []|(.ok .skip w1,es)=>.next (fr.finish undef) L w1 (seen P fr.fn es) []|(.ok (.enter f args) w1,es)=>.next (aF P f args .normal) (fr::L) w1 (seen P fr.fn es) []|(.ok (.defer d) w1,es)=>.next ({fr with defers:=d::fr.defers}.finish undef) L w1 (seen P fr.fn es) []|(.ok (.comm cs b sh) w1,es)=>(match cs.toList,b with|[c],E=>jK fr L c sh w1 (seen P fr.fn es)|_,_=>.bad)|_=>.bad
def YK(f:ag)(L:List ag)(w:V)(todo:List mZ):LR:=.next {f with todo} L w #[] []
def zJ(P:al)(fr:ag)(L:List ag)(w:V):LR:=match fr.todo with|[]|.code .ret::_=>.next {fr with mode:=.returning} L w #[] []|.code .skip::k|.inBlock _::k=>YK fr L w k|.code (.seq a b)::k=>YK fr L w (.code a::.code b::k)|.code (.cond c a b)::k=>(match fr.eval c with|.bool t=>YK fr L w (.code (if t then a else b)::k)|_=>.bad)|.code (.block id c)::k=>YK fr L w (.code c::.inBlock id::k)|.code (.loop c)::k=>YK fr L w (.code c::.inLoop c::k)|.inLoop c::k=>YK fr L w (.code c::.inLoop c::k)|.code (.exit id)::k=>(match vN id k with|some d=>YK fr L w d|none=>.bad)|.code (.region id ops draw)::k=>if draw then(match(choose (.order fr.fn id)).run P w with|.ok t w1=>.next {fr with todo:=.inRegion ops (Region.schedule (P.follows .mixedOrders) ops t)::k} L w1 #[] []|.halt _ _=>.bad)else YK fr L w (.inRegion ops (ku ops.size)::k)|.inRegion _ []::k=>YK fr L w k|.inRegion ops (i::_)::_=>if((ops[i]?).map (ar . (yielded ops fr.tmps))).getD H then(match ops[i]? with|some o=>Ea P fr L o w|none=>.bad)else .next (fr.finish undef) L w #[] []|_=>.bad
def pC(P:al)(fr:ag)(L:List ag)(w:V):LR:=match fr.defers with|d::a=>(match d.target with|.builtin .close _ _ _=>(match(invoke d.target d.args).runT P w #[]with|(.ok (.value _) w1,es)=>.next {fr with defers:=a} L w1 (seen P fr.fn es) []|_=>.bad)|_=>.bad)|[]=>(match P.funcs[fr.fn]? with|none=>.bad|some fn=>(match(results fn fr.tmps).runT P w #[]with|(.ok v w1,es)=>(match L with|[]=>.ret v w1 (seen P fr.fn es)|c::b=>.next (c.finish v) b w1 (seen P fr.fn es) [])|_=>.bad))
def dc(P:al)(f:ag)(L:List ag)(w:V):LR:=match f.mode with|.run=>zJ P f L w|.returning=>pC P f L w|.panicking _=>.bad
def LD(R:BR):List dI->List dI->Prop|[],[]=>True|d::l,a::b=>DR R d a/\LD R l b|_,_=>False
structure u2(P:al)(R:BR)(fr cm:ag):Prop where
 fn:cm.fn=fr.fn
 has:∃fn,P.funcs[fr.fn]?=C fn/\(fn.body.isSome=E\/∃d∈fr.defers,d.target=.nil)tmps:AV R fr.tmps cm.tmps
 todo:cm.todo=fr.todo
 ok:∀x∈fr.todo,pO P x=E
 defers:LD R fr.defers cm.defers
 mode:cm.mode=fr.mode
 norm:fr.kind=.normal
 pE:cm.kind=.normal
 round:fr.roundOf=U
 lT:cm.roundOf=U
 gl:∀g,lA g nGl=E->∃l,R g g l/\l<=1
structure CaR(P:al)(R:BR)(fr cm:ag):Prop where
 base:u2 P R fr cm
 run:fr.mode=.run
 at_:∃ops i rest k,fr.todo=.inRegion ops (i::rest)::k
def IJ(P:al)(R:BR):List ag->List ag->Prop|[],[]=>True|c::l,a::b=>CaR P R c a/\IJ P R l b|_,_=>False
section
variable{P P':al}{R S:BR}
def DR.mono(h:R.le S){d d':dI}(k:DR R d d'):DR S d d':=by cases k with|close b t cs a=>exact .close b t cs (a.mono h)|clo v=>exact .clo (v.mono h)
def LD.mono(h:R.le S):∀{l a:List dI},LD R l a->LD S l a|[],[],_=>trivial|_::_,_::_,k=>⟨k.1.mono h,k.2.mono h⟩
def u2.mono(h:R.le S){a b:ag}(k:u2 P R a b):u2 P S a b:=⟨k.fn,k.has,k.tmps.mono h,k.todo,k.ok,k.defers.mono h,k.mode,k.norm,k.pE,k.round,k.lT,λg c=>(k.gl g c).imp λl z=>⟨h _ _ _ z.1,z.2⟩⟩
def CaR.mono(h:R.le S){a b:ag}(k:CaR P R a b):CaR P S a b:=⟨k.base.mono h,k.run,k.at_⟩
def IJ.mono(h:R.le S):∀{l a:List ag},IJ P R l a->IJ P S l a|[],[],_=>trivial|_::_,_::_,k=>⟨k.1.mono h,k.2.mono h⟩
def oT:VR R undef undef:=.tuple rfl λi v b a=>by simp at a
def AV.getD{x b:Array Y}(h:AV R x b)(i:Nat):VR R (x.getD i undef) (b.getD i undef):=by
 rcases h.get i with⟨e,a⟩|⟨v,c,e,a,d⟩;.rw[cE,cE,e,a];exact oT
 .simp_all
def u2.eval{a b:ag}(k:u2 P R a b){x:aU}(d:oC x=E):VR R (a.eval x) (b.eval x):=by cases x with|tmp t=>exact k.tmps.getD t|const v=>exact zet d|func f=>exact .func f rfl (λi v e a=>by simp at a) rfl (λi v e a=>by simp at a)|global g=>have⟨l,h,c⟩:=k.gl g d;exact .pointer ⟨⟨l,h,cI (Nat.sub_eq_zero_of_le c)⟩,rfl,rfl⟩
def u2.finish{a b:ag}(k:u2 P R a b){v c:Y}(f:VR R v c):u2 P R (a.finish v) (b.finish c):=by
 unfold Frame.finish;rw[k.todo];split
 .rename_i ops i rest g e;have o:=k.ok;rw[e]at o;refine⟨k.fn,k.has,?_,rfl,?_,k.defers,k.mode,k.norm,k.pE,k.round,k.lT,k.gl⟩;.cases(ops[i]?).bind (·.dst)with|none=>exact k.tmps|some d=>exact k.tmps.set d f
  .intro x h;rcases bq.1 h with rfl|h;.exact o (.inRegion ops (i::rest)) Y1
   .simp_all
 all_goals first|(rename_i e;exact absurd (k.ok _ (by rw[e];exact kB)) (by simp[pO]))|exact k
def AV.yielded{x b:Array Y}(h:AV R x b)(o:Array bU):yielded o b=yielded o x:=by funext j;unfold Go.yielded;cases(o[j]?).bind (·.dst)with|none=>rfl|some d=>
 simp[fZ];rcases h.get d with⟨e,a⟩|⟨v,f,e,a,c⟩;.rw[e,a]
 .rw[e,a];cases c<;>rfl
def EG{c:Nat}:∀{k a:List mZ},vN c k=C a->∀x∈a,x∈k
 |[],a,h=>by cases h|i::k,a,h=>by
  intro x b;unfold vN at h;split at h
  .rename_i heq;obtain⟨rfl,rfl⟩:=vT heq;split at h;.simp_all
   .exact gD _ (EG h x b)
  .rename_i heq;obtain⟨rfl,rfl⟩:=vT heq;exact gD _ (EG h x b)
  .cases h
end
def zhv(R:BR)(a:ic):Prop:=∃b r l,R b r l/\∃k,a=.send r k\/a=.sendDone r k\/(∃c,a=.recv r k c)\/a=.recvDone r k\/a=.recvClosed r
def Sim(P:al)(R:BR)(w j:V)(r h:LR):Prop:=match r with|.next i l w1 _ _=>∃g L b c d f,h=.next g L b c d/\u2 P f i g/\IJ P f l L/\HR f w1 b/\KP R w j f w1 b/\(∀e∈c,SI R w f e)/\(∀a∈d,zhv f a)|.ret v w1 _=>∃k b c f,h=.ret k b c/\VR f v k/\HR f w1 b/\KP R w j f w1 b/\(∀e∈c,SI R w f e)|.bad=>True
section
variable{P P':al}{R:BR}{α:Type}
def Mq(h:PE P P'){x k:Array Y}:∀(rs:List kP){R:BR}{i g:Array Y},AV R x k→AV R i g→SA P P' R (rs.foldlM (fun(l:Array Y)(r:kP)=>l6 l.push (match r with |.tmp t=>pure (x.getD t undef)|.cell a t=>do dx t (←rP (x.getD a undef)):Sem Y)) i) ( rs.foldlM (fun(l:Array Y)(r:kP)=>l6 l.push (match r with |.tmp t=>pure (k.getD t undef)|.cell a t=>do dx t (←rP (k.getD a undef)):Sem Y)) g)|[],R,i,g,_,j=>by simp[y8];exact .pure j|r::rs,R,i,g,m,j=>by simp only[fY];refine SR.seq ?_ fun S a b c d=>Mq h rs (m.mono c) d;cases r with|tmp t=>exact .pure (j.push (m.getD t))|cell a t=>refine .seq (.seq (VT (m.getD a)) fun S y f _ e=>EV h t e) fun S v o c n=>.pure ((j.mono c).push n)
variable{x:Array Y}
def EW(h:PE P P')(g:dH){i:Array Y}(j:AV R x i):SV P P' R (results g x) (results g i):=by
 unfold results;rw[e9,e9,<-fC,<-fC];refine .seq (Mq h g.results.toList j AV.nil) λS a b _ c=>.pure ?_;have e:=c.size;by_cases d:a.size=1
 .have f:=e▸d;rw[dif_pos d,dif_pos f];exact c.at_ 0 _ _ (by simp[d]) (by simp[f])
 .rw[dif_neg d,dif_neg (e▸d)];exact VR.Xa c
def PG.same(g:PG P P'){f:bu}{fn:dH}(a:P.funcs[f]?=C fn)(b:fn.body.isSome=E):P'.funcs[f]?=C fn:=by
 rcases g.fn f fn a with rfl|⟨_,_,h⟩;.cases b
 .exact h
variable{b:ag}
def u2.zeY{a:ag}(k:u2 P R a b)(todo:List mZ)(h:∀x∈todo,pO P x=E):u2 P R {a with todo} {b with todo}:=⟨k.fn,k.has,k.tmps,rfl,h,k.defers,k.mode,k.norm,k.pE,k.round,k.lT,k.gl⟩
variable{L:List ag}
def vR{a:ag}(k:u2 P R a b){d:List ag}(l:IJ P R L d){w c:V}(r:HR R w c)(t:List mZ)(h:∀x∈t,pO P x=E):Sim P R w c (YK a L w t) (YK b d c t):=⟨_,_,_,_,_,R,rfl,k.zeY t h,l,r,KP.refl _ _ _,Y1,Y1⟩
def nW(g:PG P P')(gp:GP P){f:bu}(e:∃j,P.funcs[f]?=C j/\j.body.isSome=E){k:Array Y}(m:AV R x k)(gl:∀g,lA g nGl=E->∃l,R g g l/\l<=1):u2 P R (aF P f x .normal) (aF P' f k .normal):=by
 have⟨j,a,b⟩:=e;unfold aF;simp[a,g.same a b];refine⟨rfl,⟨j,a,.inl b⟩,?_,rfl,?_,aA,rfl,rfl,rfl,rfl,rfl,gl⟩
 .rw[m.size];refine m.app ⟨Y1,λi v p n h=>?_⟩;rw[n]at h;cases h;have:=dk n;simp[Array.mem_replicate]at this;rw[this.2];exact oT
 .intro y d;have⟨c,o⟩:=Option.isSome_iff_exists.1 b;simp[fZ,o,Option.getD_some,List.mem_singleton]at d;subst d;exact gp f j c a o
def zk7{a:ag}{L':List ag}{c y:lV}{sh:jV}(hs:zja sh=E){w0 g w w':V}{R0:BR}(k:u2 P R a b)(T:IJ P R L L')(hc:CR R c y)(hr:HR R w w')(D:KP R0 w0 g R w w')(B:∀a a' l,R0 a a' l->a<w0.heap.size/\a'<g.heap.size){es sa:Array bB}(q:∀e∈sa,SI R0 w0 R e):Sim P R0 w0 g (jK a L c sh w es) (jK b L' y sh w' sa):=by
 have res:∀(j:Int)(Z:Bool){v v':Y},VR R v v'->VR R (pZ #[c] sh j v Z) (pZ #[y] sh j v' Z):=by intro j Z v v' hv;cases sh with
  |send=>exact oT|recv b=>cases b with |false=>exact hv|true=>exact VR.Xa ((AV.one hv).push (.bool Z))
  |select=>cases hs
 have⟨ch,W,z⟩:=c;have⟨X,t,z'⟩:=y;have⟨F,A,G⟩:=hc;simp only at F A G res;unfold jK;simp only;cases F;case chan r i h=>cases r with |none=>trivial|some r=>cases i with |none=>cases h|some i=>
   have⟨l,h⟩:=h;have⟨o,S,g1,g2,ho⟩:=hr.obj _ _ _ h;simp only[g1,g2];have upd:∀{o1 p:Obj}{j:Int}{v v':Y}{Z:Bool}{acts d:List ic},(∀m,OR R m o1 p)->(∀c e f,o≠.cells c e f)->VR R v v'->(∀a∈d,zhv R a)->Sim P R0 w0 g (.next (a.finish (pZ #[⟨.chan (C r),W,z⟩] sh j v Z)) L {w with heap:=w.heap.setIfInBounds r o1} es acts) (.next (b.finish (pZ #[⟨.chan (C i),t,z'⟩] sh j v' Z)) L' {w' with heap:=w'.heap.setIfInBounds i p} sa d):=by intro o1 p j v v' Z acts d I J hv K;have⟨M,N,_⟩:=qX hr h I g1 J;exact⟨_,_,_,_,_,R,rfl,k.finish (res j Z hv),T,M,D.trans N B,q,K⟩
   cases ho with
   |@chan cap O Q closed s rc tm u=>match W,t,A with
    |some v,C v',A=>simp;cases closed with |true=>trivial|false=>
      simp[bt,if_false];rw[<-u.size];split
      .apply upd (λm=>.chan _ _ _ _ _ (u.push A)) (λ_ _ _=>Y1) oT;intro x hx;simp[bq,cV,or_false]at hx;rcases hx with rfl|rfl;.exact⟨r,i,l,h,s,.inl rfl⟩
       .exact⟨r,i,l,h,s,.inr (.inl rfl)⟩
      .trivial |none,U,_=>
     simp only;rw[<-u.size];by_cases n:O.size>0
     .rw[if_pos n,if_pos n];apply upd (λm=>.chan _ _ _ _ _ (u.extract _ _)) (λ_ _ _=>Y1) (u.getD 0);intro x hx;simp[bq,cV,or_false]at hx;rcases hx with rfl|rfl;.exact⟨r,i,l,h,rc,.inr (.inr (.inl ⟨cap,rfl⟩))⟩
      .exact⟨r,i,l,h,rc,.inr (.inr (.inr (.inl rfl)))⟩
     .rw[if_neg n,if_neg n];cases closed with |true=>simp[if_true];refine⟨_,_,_,_,_,R,rfl,k.finish (res 0 H G),T,hr,D,q,?_⟩;intro x hx;simp[bq,cV,or_false]at hx;subst hx;exact⟨r,i,l,h,0,.inr (.inr (.inr (.inr rfl)))⟩|false=>trivial
   |_=>trivial
 all_goals trivial
def zr2(g:PG P P')(gp:GP P){a:ag}{N:List ag}{w I:V}(k:u2 P R a b)(u:IJ P R L N)(O:HR R w I)(Q:∀n,TA n w I){o:bU}(S:MD P o.op=E)(y:a.mode=.run)(p:∃K i J k,a.todo=.inRegion K (i::J)::k):Sim P R w I (Ea P a L o w) (Ea P' b N o I):=by unfold Ea;rw[k.fn];cases M:(aG a.eval o).runT P w #[]with|mk r es=>cases r with|halt x w1=>trivial|ok n w1=>
 have⟨_,D,z,q,m,s,t,j,c,A⟩:=(Ou g S (λx M=>k.eval M) (λv=>⟨rfl,rfl⟩)).run w I #[] #[] n w1 es O M (w1.drawn-w.drawn) Y0 (Q _);rw[s];have h:∀e∈seen P' a.fn (#[]++q),SI R w m e:=λe B=>A e (by simpa using nj B);have G:=k.mono c.le;have OB:=u.mono c.le
 cases t with|value T=>exact⟨_,_,_,_,_,m,rfl,G.finish T,OB,j,c,h,Y1⟩|skip=>exact⟨_,_,_,_,_,m,rfl,G.finish oT,OB,j,c,h,Y1⟩|enter f F l=>exact⟨_,_,_,_,_,m,rfl,nW g gp F l G.gl,⟨⟨G,y,p⟩,OB⟩,j,c,h,Y1⟩|defer hd _=>refine⟨_,_,_,_,_,m,rfl,u2.finish ?_ oT,OB,j,c,h,Y1⟩;exact⟨rfl,let⟨W,s,t⟩:=G.has;⟨W,s,t.imp id λ⟨d,j,c⟩=>⟨d,gD _ j,c⟩⟩,G.tmps,G.todo,G.ok,⟨hd,G.defers⟩,G.mode,G.norm,G.pE,G.round,G.lT,G.gl⟩|comm X sh Z=>exact zk7 Z G OB X j c (λ_ _ _ r=>O.lt r) h
def zau(c:Array ah)(t:ah)(k:Array Bool){n:Array Y}(p:AV R x n):SN P P' R (invoke (.builtin .close c t k) x) (invoke (.builtin .close c t k) n):=by
 apply ow;unfold oY;by_cases d:x.size=1
 .obtain⟨u,rfl⟩:=zmn d;obtain⟨q,rfl⟩:=zmn (p.size▸d);cases p.at_ 0 u q rfl rfl;case chan r e j=>
   cases r<;>cases e<;>first|exact j.elim|skip
   .exact .dead (eo _)
   .have⟨l,j⟩:=j;refine .getObj j λo g w=>?_;cases w with
    |chan cap closed s rc y f=>cases closed with|true=>refine .dead ?_;show cR P ((cJ (.plain "close of closed channel"):Sem PUnit)>>=λ_=>_);exact cR.seq (eo _)|false=>exact .setObj j (λm=>.chan _ _ _ _ _ f) (.pure (.tuple rfl λi v z a=>by simp at a))
    |_=>exact .dead ai
  all_goals exact .dead ai
 .refine .dead ?_;have⟨l⟩:=x;match l,d with |[],_=>exact ai|[a],h=>cases h rfl|a::b::l,_=>exact ai
def zk6(g:PG P P'){a:ag}{X:List ag}{w T:V}(k:u2 P R a b)(q:IJ P R L X)(hr:HR R w T)(ht:∀n,TA n w T):Sim P R w T (pC P a L w) (pC P' b X T):=by unfold pC;have W:=k.defers;cases f:a.defers with
 |cons d J=>cases i:b.defers with |nil=>rw[f,i]at W;cases W|cons I y=>rw[f,i]at W;have⟨z,A⟩:=W;cases z with|clo=>trivial|@close G t cs x x' B=>simp only;cases Z:(invoke (.builtin .close G t cs) x).runT P w #[]with|mk r es=>cases r with|halt x w1=>trivial|ok n w1=>have⟨_,K,p,m,o,N,s,u,l,D⟩:=(zau (P':=P') G t cs B).run w T #[] #[] n w1 es hr Z (w1.drawn-w.drawn) Y0 (ht _);rw[N];have j:∀e∈seen P' b.fn (#[]++m),SI R w o e:=λe O=>D e (by simpa using nj O);have S:=k.mono l.le;cases s with |value hv=>exact⟨_,_,_,_,_,o,rfl,⟨S.fn,let⟨fn,g1,g2⟩:=S.has;⟨fn,g1,g2.imp id λ⟨d,g3,g4⟩=>⟨d,(bq.1 (f▸g3)).resolve_left λe=>Y7,g4⟩⟩,S.tmps,S.todo,S.ok,A.mono l.le,S.mode,S.norm,S.pE,S.round,S.lT,S.gl⟩,q.mono l.le,u,l,j,Y1⟩|_=>trivial
 |nil=>cases i:b.defers with|cons I y=>rw[f,i]at W;cases W|nil=>
  have⟨fn,Q,hb⟩:=k.has;have F:P'.funcs[b.fn]?=C fn:=by rw[k.fn];exact g.same Q (hb.resolve_right λ⟨d,h,_⟩=>Y7)
  simp only[Q,F];cases Z:(results fn a.tmps).runT P w #[]with|mk r es=>cases r with|halt x w1=>trivial|ok v w1=>have⟨_,v',p,m,o,N,s,u,l,D⟩:=(EW g.pe fn k.tmps).run w T #[] #[] v w1 es hr Z (w1.drawn-w.drawn) Y0 (ht _);rw[N];have j:∀e∈seen P' b.fn (#[]++m),SI R w o e:=λe O=>D e (by simpa using nj O);cases L with
   |nil=>cases X with|nil=>exact⟨v',p,_,o,rfl,s,u,l,j⟩|cons=>cases q
   |cons c L=>cases X with|nil=>cases q|cons M X=>have OB:=IJ.mono l.le q;exact⟨_,_,_,_,_,o,rfl,OB.1.base.finish s,OB.2,u,l,j,Y1⟩
def sim(g:PG P P')(gp:GP P){a:ag}{L':List ag}{w w':V}(k:u2 P R a b)(e:IJ P R L L')(W:HR R w w')(ht:∀n,TA n w w'):Sim P R w w' (dc P a L w) (dc P' b L' w'):=by have⟨I,atm,J,A,K,B,O⟩:=a;have⟨d,p,j,D,Q,F,G⟩:=b;have r:=k.fn;have s:=k.todo;have v:=k.mode;simp  at r s v;subst r s v;unfold dc;have m:=k.ok;simp  at m;have Z:Sim P R w w' (.next ⟨d,atm,j,A,.returning,B,O⟩ L w #[] []) (.next ⟨d,p,j,D,.returning,F,G⟩ L' w' #[] []):=⟨_,_,_,_,_,R,rfl,⟨k.fn,k.has,k.tmps,k.todo,k.ok,k.defers,rfl,k.norm,k.pE,k.round,k.lT,k.gl⟩,e,W,KP.refl _ _ _,Y1,Y1⟩;cases Q with |panicking c=>trivial|returning=>exact zk6 g k e W ht|run=>unfold zJ;cases j with |nil=>exact Z|cons x kk=>
 have X:∀x∈kk,pO P x=E:=λx hx=>m x (by simp[hx]);have one:∀{y:mZ},pO P y=E->∀x∈y::kk,pO P x=E:=by
  intro y q x hx;rcases bq.1 hx with rfl|hx;.exact q
  .exact X x hx
 have two:∀{y z:mZ},pO P y=E->pO P z=E->∀x∈y::z::kk,pO P x=E:=by
  intro y z q S x hx;rcases bq.1 hx with rfl|hx;.exact q
  .exact one S x hx
 have T:=m x Y1;cases x with
 |code c=>cases c with
  |skip=>exact vR k e W _ X|ret=>exact Z|seq x y=>
   have f:ll P x=E/\ll P y=E:=by simpa[pO,ll]using T
   exact vR k e W _ (two f.1 f.2)|cond c x y=>
   have f:(oC c=E/\ll P x=E)/\ll P y=E:=by simpa[pO,ll]using T
   have hc:=k.eval f.1.1;simp;generalize Frame.eval _ c=u at hc⊢;generalize Frame.eval _ c=u' at hc⊢;cases hc;case bool t=>
    refine vR k e W _ (one ?_);cases t;.exact f.2
    .exact f.1.2
   all_goals trivial|block id c=>exact vR k e W _ (two T rfl)|loop c=>exact vR k e W _ (two T T)|exit id=>simp;cases hx:vN id kk with |none=>trivial|some k'=>exact vR k e W _ λz S=>X z (EG hx z S)
  |region id ops draw=>cases draw with|false=>exact vR k e W _ (one T)|true=>
    simp only[if_true];rw[g.mixed];have r:(choose (.order d id)).run P w=.ok (yp (.order d id) (w.tape w.drawn (.order d id))) {w with drawn:=w.drawn+1}:=by simp[choose,Sem.run,fP]
    have s:(choose (.order d id)).run P' w'=.ok (yp (.order d id) (w'.tape w'.drawn (.order d id))) {w' with drawn:=w'.drawn+1}:=by simp[choose,Sem.run,fP]
    have v:w.tape w.drawn (.order d id)=w'.tape w'.drawn (.order d id):=ht 1 0 _ Y0;rw[r,s,v];have M:KP R w w' R {w with drawn:=w.drawn+1} {w' with drawn:=w'.drawn+1}:=⟨BR.le_refl _,ao _,Y1,λ_ _ _ h=>.inl h,λk N=>by simp at N<;>omega,λ_ _ _=>rfl,λ_ _ _ _ _=>⟨rfl,rfl⟩,rfl,rfl,rfl,rfl,rfl,rfl,Y1,Y1⟩;exact⟨_,_,_,_,_,R,rfl,k.zeY _ (one T),e,⟨W.inj,W.obj,W.kinds⟩,M,Y1,Y1⟩
  |_=>trivial
 |inBlock id=>exact vR k e W _ X|inLoop c=>exact vR k e W _ (two T T)|inRegion ops l=>cases l with |nil=>exact vR k e W _ X|cons i rest=>
   simp[AV.yielded k.tmps ops];split;.cases ho:ops[i]? with |none=>trivial|some o=>have f:(ops.all λo=>MD P o.op)=E:=T;rw[aQ]at f;exact zr2 g gp k e W ht (f o (dk ho)) rfl ⟨_,_,_,_,rfl⟩
   .exact⟨_,_,_,_,_,R,rfl,k.finish oT,e,W,KP.refl _ _ _,Y1,Y1⟩|_=>trivial
end
def uT(P:al)(fs:Array dH):al:={P with globals:=#[],funcs:=fs}
section
variable{P:al}{fs:Array dH}
def Qo:∀(f:Nat)(t:ah),vh (uT P fs).toTables f t=vh P.toTables f t|0,_=>rfl|f+1,t=>by unfold vh;rw[funext (Qo f)];rfl
def qW(t:ah):(uT P fs).info? t=P.info? t:=by unfold Tables.info?;rw[Qo];rfl
def CJ(t:ah):(uT P fs).underlying t=P.underlying t:=by simp[Program.underlying,qW]
def zn8(t:ah):(uT P fs).underlyingId t=P.underlyingId t:=by simp[Program.underlyingId,qW]
def Vd:∀(d:Nat)(t u:ah),(uT P fs).alikeButTags d t u=P.alikeButTags d t u|0,_,_=>rfl|d+1,t,u=>by simp[Program.alikeButTags,qW,funext λa=>funext λb=>Vd d a b]
def Z0(t:ah):(uT P fs).stoodInHeld t=P.stoodInHeld t:=by simp[Program.stoodInHeld,Program.stoodInAs,qW,CJ,zn8,Vd];rfl
def Vx:∀(d:Nat)(t:ah),(uT P fs).eqGuardType d t=P.eqGuardType d t|0,_=>rfl|d+1,t=>by simp[Program.eqGuardType,CJ,funext λa=>Vx d a]
def zfU:(uT P fs).depth=P.depth:=rfl
def zgR:(uT P fs).types=P.types:=rfl
def zgj:P.follows .mixedOrders=(uT P fs).follows .mixedOrders:=rfl
def zrX:(uT P fs).rt=P.rt:=rfl
def eM{P:al}{f:bu}{a:dH}(h:P.funcs[f]?=C a)(n:(a.name== "runtime.NumGoroutine")=H)(b:a.body.isNone=H)(args:Array Y)(w:V):(dp f args).run P w=.ok (.enter f args) w:=by show Sem.run P (match P.funcs[f]? with|none=>stuck "call: no such function"|some a=>_) w=_;rw[h];simp only[n,b,bt,if_false];rfl
def zrQ(h:P.info? rQ=U):PE (uT P fs) P:=⟨λt=>(qW t).symm,rfl,(qW _).trans h,rfl,λt=>(Z0 t).symm⟩
variable{w:V}
def sU{α β:Type}(Q:al)(s:Sem α)(f:α->Sem β)(w:V):(s>>=f).run Q w=(s.run Q w).andThen λa w'=>(f a).run Q w':=Sem.run_bind ..
def qp(t:ah):(dq t).run (uT P fs) w=(dq t).run P w:=by show Sem.run (uT P fs) (match(uT P fs).info? t with|some i=>Sem.pure i|none=>stuck "no such type") w=Sem.run P (match P.info? t with|some i=>Sem.pure i|none=>stuck "no such type") w;rw[qW];cases P.info? t<;>rfl
def uI(t:ah):(underlying t).run (uT P fs) w=(underlying t).run P w:=by show Sem.run (uT P fs) (match(uT P fs).underlying t with|some i=>Sem.pure i|none=>stuck "no such type") w=Sem.run P (match P.underlying t with|some i=>Sem.pure i|none=>stuck "no such type") w;rw[CJ];cases P.underlying t<;>rfl
def Su(t:ah):(ie t).run (uT P fs) w=(ie t).run P w:=by unfold ie;rw[sU,sU,qp];generalize(dq t).run P w=r;cases r with|ok i w1=>simp[er]|halt x w1=>simp[er]
def Ur(t:ah):(nR t).run (uT P fs) w=(nR t).run P w:=by unfold nR;rw[sU,sU,uI];generalize(underlying t).run P w=r;cases r with|ok d w1=>cases d<;>simp[er]|halt x w1=>simp[er]
def ID(t:ah):(c9 t).run (uT P fs) w=(c9 t).run P w:=by unfold c9;rw[sU,sU,qp];generalize(dq t).run P w=r;cases r with
 |ok i w1=>simp[er];cases i.zero with |some v=>simp|none=>simp[unsupported]
 |halt x w1=>simp[er]
end
def Li(m:Nat):Nat->List dH->List dH|_,[]=>[]|i,f::r=>(if l8 m i then f else Du)::Li m (i+1) r
def zag(m:Nat):∀(l:List dH)(i k:Nat),(Li m i l)[k]?=(l[k]?).map λf=>if l8 m (i+k)then f else Du|[],_,_=>rfl|f::r,i,0=>rfl|f::r,i,k+1=>by show(Li m (i+1) r)[k]?=(r[k]?).map _;rw[zag m r (i+1) k,show i+1+k=i+(k+1)by omega]
def zah(m:Nat):∀(l:List dH)(i:Nat),(Li m i l).length=l.length|[],_=>rfl|_::r,i=>by simp[Li,zah m r (i+1)]
def O1(P:al)(m:Nat):al:=uT P (Li m 0 P.funcs.toList).toArray
def AL(P:al)(m k:Nat):(O1 P m).funcs[k]?=(P.funcs[k]?).map λf=>if l8 m k then f else Du:=by show((Li m 0 P.funcs.toList).toArray)[k]?=_;rw[dV,zag,Nat.zero_add,Array.getElem?_toList]
def zcO{P:al}{m k:Nat}{fn:dH}(h:P.funcs[k]?=C fn)(b:l8 m k=E):(O1 P m).funcs[k]?=C fn:=by rw[AL,h,cG,if_pos b]
def okF(P:al)(f:dH):Bool:=match f.body with|some c=>ll P c|none=>E
def zqr(P:al)(m:Nat)(q:dH->Bool):Bool:=(ku P.funcs.size).all λk=>!Nat.testBit m k||(P.funcs[k]?).all q
def zea{P:al}{m:Nat}{q:dH->Bool}(h:zqr P m q=E){k:Nat}{f:dH}(a:P.funcs[k]?=C f)(b:l8 m k=E):q f=E:=by have:=List.all_eq_true.1 h k (List.mem_range.2 (ab.1 a).1);simpa[a,b]using this
def zkD{P:al}{m:Nat}(n:P.info? rQ=U)(h:zqr P m (λe=>(e.body.isSome||US e)&&!(e.name== "runtime.NumGoroutine"))=E):PG (O1 P m) P:=by
 refine⟨zrQ n,λf e a=>?_,?_,zgj⟩
 .rw[AL]at a;obtain⟨d,c,rfl⟩:=ak.1 a;by_cases b:l8 m f=E
  .rw[if_pos b];have:=zea h c b;simp only[aj,gG,dm]at this;simp_all
  .simp_all
 .show P.funcs.size=(Li m 0 P.funcs.toList).toArray.size;simp[zah]
def zkC{P:al}{m:Nat}(h:zqr P m (okF (O1 P m))=E):GP (O1 P m):=by
 intro f i c a g;rw[AL]at a;obtain⟨d,e,rfl⟩:=ak.1 a;by_cases b:l8 m f=E
 .rw[if_pos b]at g;have:=zea h e b;unfold okF at this;rw[g]at this;exact this
 .rw[if_neg b]at g;cases g
open Go.Conc
section
variable{P:al}{main:Bool}{fr:ag}{L:List ag}{w:V}
def Sem.zkU{α:Type}{p:al}{e:Sem α}{w:V}{b a:Array bB}{r:Result α}(h:e.runT p w b=(r,a)):e.run p w=r:=by simp_all
def zfm(P:al)(main:Bool)(fr:ag)(L:List ag)(w:V)(r:LR):Prop:=match r with|.next f d w1 es a=>∀b,(a=[]/\bg P main (G fr (L++b)) w=.go (G f (d++b)) w1 es)\/(∃c s e,bg P main (G fr (L++b)) w=.comm (G fr (L++b)) #[c] E s e es/\jK fr L c s e es=.next f d w1 es a)|.ret v w1 es=>L=[]/\fr.mode=.returning/\fr.defers=[]/\(∃g,P.funcs[fr.fn]?=C g/\(results g fr.tmps).run P w=.ok v w1)/\∀c b,bg P main (G fr (c::b)) w=.go (G (c.finish v) b) w1 es|.bad=>True
def Hs{c:lV}{s:jV}{e:Array bB}{r:LR}(h:jK fr L c s w e=r):r=.bad\/∃f w1 acts,r=.next f L w1 e acts:=by
 subst h;unfold jK;repeat' split
 all_goals first|simp_all|exact .inr ⟨_,_,_,rfl⟩
def zmY{l:Array bU}{i:Nat}{y:List Nat}{k:List mZ}{o:bU}(s:fr.kind=.normal)(m:fr.roundOf=U)(t:fr.mode=.run)(A:fr.todo=.inRegion l (i::y)::k)(F:l[i]?=C o)(I:((l[i]?).map (ar . (yielded l fr.tmps))).getD H=E):zfm P main fr L w (Ea P fr L o w):=by
 have e:∀u,bg P main (G fr (L++u)) w=cD P E fr (L++u) U (aG fr.eval o) w:=by
  intro u;have g:fr.oper?=C o:=by simp[AO,A,F]
  simp[bg,G,t,bT,A,I,EX,g,m]
 unfold Ea;cases J:(aG fr.eval o).runT P w #[]with|mk r es=>
  have z:(fr.kind==jW)=H:=by rw[s];rfl
  cases r with |halt x w1=>trivial|ok n w1=>have B:=J;simp[Sem.runT_eq,aX]at B;have⟨p,b⟩:=B;cases n with
   |value v=>intro u;refine .inl ⟨rfl,?_⟩;rw[e];simp[cD,p,b,z,bP,G]|skip=>intro u;refine .inl ⟨rfl,?_⟩;rw[e];simp[cD,p,b,z,bP,G]|enter f args=>intro u;refine .inl ⟨rfl,?_⟩;rw[e];simp[cD,p,b,z,bP,G,A]|defer d=>intro u;refine .inl ⟨rfl,?_⟩;rw[e];simp[cD,p,b,z,bP,G]|comm a j sh=>
    simp;split
    .rename_i c M;have q:a=#[c]:=by grind
     subst q;rcases Hs rfl with h|⟨K,w2,D,h⟩;.rw[h];trivial
     .rw[h];intro u;refine .inr ⟨c,sh,w1,?_,h⟩;rw[e];simp[cD,p,b,z,bP,G]
    .trivial|_=>trivial
def qv(r:fr.roundOf=U)(m:fr.mode=.run){todo:List mZ}(h:∀c,bg P main (G fr (L++c)) w=.go (G {fr with todo} (L++c)) w #[]):zfm P main fr L w (YK fr L w todo):=λc=>.inl ⟨rfl,h c⟩
def zfV(k:fr.kind=.normal)(a:fr.roundOf=U)(m:fr.mode=.returning):zfm P main fr L w (pC P fr L w):=by unfold pC;cases hd:fr.defers with
 |cons d g=>simp only;have⟨t,args⟩:=d;cases t with
  |builtin b e ty j=>
   cases b<;>first|trivial|skip
   simp only;cases l:(invoke (.builtin .close e ty j) args).runT P w #[]with|mk r es=>cases r with|halt x w1=>trivial|ok n w1=>
    cases n<;>first|trivial|skip
    have i:=l;simp[Sem.runT_eq,aX]at i;have⟨p,h⟩:=i;intro j;refine .inl ⟨rfl,?_⟩;simp[bg,G,m,unwind,hd,jm,p,h,bP]
  |_=>trivial
 |nil=>simp only;cases f:P.funcs[fr.fn]? with|none=>trivial|some fn=>simp only;cases l:(results fn fr.tmps).runT P w #[]with|mk r es=>cases r with|halt x w1=>trivial|ok v w1=>have i:=l;simp[Sem.runT_eq,aX]at i;have⟨p,h⟩:=i;cases L with|nil=>refine⟨rfl,m,hd,⟨fn,f,Sem.zkU l⟩,λc j=>?_⟩;simp[bg,G,m,unwind,hd,f,p,h,bP,doReturn,k]|cons c L=>intro j;refine .inl ⟨rfl,?_⟩;simp[bg,G,m,unwind,hd,f,p,h,bP,doReturn,k]
def zft(a:fr.kind=.normal)(r:fr.roundOf=U):zfm P main fr L w (dc P fr L w):=by unfold dc;cases m:fr.mode with|panicking c=>trivial|returning=>exact zfV a r m|run=>
 have l:fr.todo=[]\/(∃k,fr.todo=.code .ret::k)->zfm P main fr L w (.next {fr with mode:=.returning} L w #[] []):=by intro h b;refine .inl ⟨rfl,?_⟩;rcases h with h|⟨k,h⟩<;>simp[bg,G,m,bT,h,r]
 simp;unfold zJ;split;.simp_all
 .simp_all
 .rename_i k h;exact qv r m λb=>by simp[bg,G,m,bT,h]
 .rename_i k h;exact qv r m λb=>by simp[bg,G,m,bT,h]
 .rename_i k h;exact qv r m λb=>by simp[bg,G,m,bT,h]
 .rename_i c x y k h;split;.rename_i t e;exact qv r m λb=>by simp[bg,G,m,bT,h,e]
  .trivial
 .rename_i k h;exact qv r m λb=>by simp[bg,G,m,bT,h]
 .rename_i k h;exact qv r m λb=>by simp[bg,G,m,bT,h]
 .rename_i k h;exact qv r m λb=>by simp[bg,G,m,bT,h]
 .rename_i id k h;split;.rename_i g d;exact qv r m λb=>by simp[bg,G,m,bT,h,d]
  .trivial
 .rename_i id ops draw k h;cases draw with|false=>exact qv r m λb=>by simp[bg,G,m,bT,h]|true=>simp only[if_true];cases d:(choose (.order fr.fn id)).run P w with|halt _ _=>trivial|ok t w1=>intro b;refine .inl ⟨rfl,?_⟩;simp only[bg,G,m,bT,h,Bool.not_true,bt,if_false,d]
 .rename_i k h;exact qv r m λb=>by simp[bg,G,m,bT,h]
 .rename_i ops i rest k h;split;.rename_i hw;cases f:ops[i]? with|none=>trivial|some o=>exact zmY a r m h f hw
  .rename_i hw;intro b;refine .inl ⟨rfl,?_⟩;simp[bg,G,m,bT,h,hw]
 .trivial
end
section
variable{P P':al}{R:BR}{fr fr1:ag}{L L1 cs:List ag}{w w1:V}
def xH{rest:Rest}{gs:Array av}{i:Nat}{c:lV}{n:jV}{q l:Array bB}{k:List ic}(p:∀r b,partners gs r b=[])(h:jK fr L c n w q=.next fr1 L1 w1 l k):L1=L/\l=q/\communicate P rest gs i (G fr cs) #[c] E n w=(.next {world:=w1,gs:=gs.setIfInBounds i (G fr1 cs),rest},(k.map λa=>({g:=i,fn:=fr.fn,pos:=fr.place,act:=a}:MemOp)).toArray):=by
 have⟨x,j,z⟩:=c;unfold jK at h;simp  at h;split at h
 .rename_i r;split at h
  .rename_i cap buf closed s e u v o;split at h;.cases h
   .rename_i t;have f:closed=H:=Y7;subst f;split at h
    .rename_i d;simp[LR.next.injEq]at h;obtain⟨rfl,rfl,rfl,rfl,rfl⟩:=h;refine⟨rfl,rfl,?_⟩;have m:ways w gs ⟨.chan (C r),C v,z⟩=[.buffer]:=by simp[ways,o,p,d]
     simp[communicate,m,o,G,rH,choose,Sem.run,er,fP]
    .cases h
  .rename_i cap buf closed s e u o;by_cases d:buf.size>0
   .rw[if_pos d]at h;simp[LR.next.injEq]at h;obtain⟨rfl,rfl,rfl,rfl,rfl⟩:=h;refine⟨rfl,rfl,?_⟩;have m:ways w gs ⟨.chan (C r),U,z⟩=[.buffer]:=by simp[ways,o,d]
    simp[communicate,m,o,G,rH,choose,Sem.run,er,fP,p]
   .rw[if_neg d]at h;split at h
    .rename_i t;subst t;simp[LR.next.injEq]at h;obtain⟨rfl,rfl,rfl,rfl,rfl⟩:=h;refine⟨rfl,rfl,?_⟩;have m:ways w gs ⟨.chan (C r),U,z⟩=[.closed]:=by simp[ways,o,d,p]
     simp[communicate,m,o,G,rH,choose,Sem.run,er,fP]
    .cases h
  .cases h
 .cases h
def M0{rest:Rest}{gs:Array av}{i:Nat}{c:lV}{F:jV}{R:Array bB}(q:fr.mode=.run)(N:∀r b,partners gs r b=[])(h:jK fr L c F w R=.bad):(∃o w2 A,communicate P rest gs i (G fr cs) #[c] E F w=(.ended o w2,A))\/(∃chain w2 A,communicate P rest gs i (G fr cs) #[c] E F w=(.next {world:=w2,gs:=gs.setIfInBounds i (G {fr with mode:=.panicking chain} cs),rest},A))\/(∃x w2 A,communicate P rest gs i (G fr cs) #[c] E F w=(.next {world:=w2,gs:=gs.setIfInBounds i {G fr cs with status:=.blocked,offers:=x},rest},A)):=by
 have⟨I,d,z⟩:=c;have B:ways w gs ⟨I,d,z⟩=[]->(∀r,I=.chan (C r)->(w.heap[r]? matches C (.chan ..))=E)->(∃r,I=.chan r)->(∃o w2 A,communicate P rest gs i (G fr cs) #[⟨I,d,z⟩] E F w=(.ended o w2,A))\/(∃chain w2 A,communicate P rest gs i (G fr cs) #[⟨I,d,z⟩] E F w=(.next {world:=w2,gs:=gs.setIfInBounds i (G {fr with mode:=.panicking chain} cs),rest},A))\/(∃x w2 A,communicate P rest gs i (G fr cs) #[⟨I,d,z⟩] E F w=(.next {world:=w2,gs:=gs.setIfInBounds i {G fr cs with status:=.blocked,offers:=x},rest},A)):=by
  intro K m J;obtain⟨r,rfl⟩:=J;have nil:∀g:av,communicate P rest gs i g #[⟨.chan r,d,z⟩] E F w=match waitingAt rest #[⟨.chan r,d,z⟩] w with|some w=>(.next {world:=w,gs:=gs.setIfInBounds i {g with status:=.blocked,offers:=C (#[⟨.chan r,d,z⟩],F)},rest},#[])|none=>(.ended (.unsupported (.resourceLimit "no descriptor is free for the run-time's poller, which the first wait for a timer's channel opens") (g.frame.pos P)) w,#[]):=by intro g;cases r with |none=>simp[communicate,K];rfl|some r=>
    have:=m r rfl;split at this;.rename_i t;simp[communicate,K,t];rfl
    .cases this
  rw[nil];cases waitingAt rest #[⟨.chan r,d,z⟩] w with |none=>simp_all|some w2=>grind
 unfold jK at h;simp  at h;split at h
 .rename_i r;split at h
  .rename_i cap buf closed j k O v D;split at h
   .rename_i J;subst J;have K:ways w gs ⟨.chan (C r),C v,z⟩=[.sendClosed]:=by simp[ways,D]
    refine .inr (.inl ?_);cases Q:(cJ (.plain "send on closed channel"):Sem Unit).run P w with|ok a w2=>exfalso;have:cR P (cJ (.plain "send on closed channel"):Sem Unit):=eo _;have e:(cJ (.plain "send on closed channel"):Sem Unit).runT P w #[]=(.ok a w2,(cJ (.plain "send on closed channel"):Sem Unit).events P w #[]):=Y7;exact this.Eu _ _ _ _ _ e|halt x w2=>
     have S:∃v,x=.panic v:=by simp[cJ,goPanic,Sem.run]at Q;grind
     obtain⟨u,rfl⟩:=S;refine⟨[{v:=u,recovered:=H}],w2,#[],?_⟩;simp[communicate,K,D,G,choose,Sem.run,er,fP,gx,q];have e:=Q;simp[cJ,goPanic,Sem.run]at e⊢;simp[e]
   .rename_i J;have f:closed=H:=Y7;subst f;split at h;.cases h
    .rename_i l;exact B (by simp[ways,D,N,l]) (λp e=>Y7) ⟨_,rfl⟩
  .rename_i cap buf closed j k O D;by_cases l:buf.size>0;.simp_all
   .rw[if_neg l]at h;split at h;.cases h
    .rename_i J;have f:closed=H:=Y7;subst f;exact B (by simp[ways,D,N,l]) (λp e=>Y7) ⟨_,rfl⟩
  .rename_i n _ _ M y;refine .inl ⟨.stuck "a communication at a channel whose block is no channel's" ((G fr cs).frame.pos P),w,#[],?_⟩;cases D:w.heap[r]? with|none=>simp[communicate,D]|some o=>
    cases o;case chan cap buf closed s rc O=>cases n with |none=>cases y _ _ _ _ _ _ D rfl|some v=>cases M _ _ _ _ _ _ _ D rfl
    all_goals simp[communicate,D]
 .rename_i M;cases I with
  |chan r=>cases r with |none=>exact B (by simp[ways]) (λp e=>by cases e) ⟨_,rfl⟩|some r=>cases M r rfl
  |_=>exact .inl ⟨.stuck "a communication at a channel whose block is no channel's" ((G fr cs).frame.pos P),w,#[],by simp[communicate]⟩
end
def s6(P:al):ag:={fn:=P.funcs.size,tmps:=#[],todo:=[.call default H "fmt's door zzz" #[]],defers:=[],mode:=.run,kind:=.normal}
def zrN:Extern.next "fmt's door zzz"=U:=gK
def door: "fmt's door zzz".startsWith "fmt's door"=E:=gK
section
variable{P P':al}{R:BR}{main:Bool}
def yW(f:ag):Prop:=∀d∈f.defers,∃a t c,d.target=.builtin .close a t c
structure Sol(fr:ag):Prop where
 defs:yW fr
 live:fr.mode=.run\/fr.mode=.returning
def yW.finish{f:ag}(h:yW f)(v:Y):yW (f.finish v)/\(f.finish v).mode=f.mode:=by unfold Frame.finish;split<;>exact⟨h,rfl⟩
variable{b:ag}{L:List ag}
def zgh(g:PG P P'){a:ag}{w N:V}(k:u2 P R a b)(O:HR R w N)(F:Sol a)(l:∀c∈L,yW c/\c.mode=.run){J:ag}{Q:List ag}{w1:V}{S:Array bB}{K:List ic}(h:dc P a L w=.next J Q w1 S K):Sol J/\∀c∈Q,yW c/\c.mode=.run:=by
 have fin:∀v,Sol (a.finish v):=λv=>⟨(F.defs.finish v).1,by rw[(F.defs.finish v).2];exact F.live⟩;have f:=k.ok;unfold dc at h;split at h
 .rename_i p;have to:∀todo,Sol {a with todo}:=λ_=>⟨F.defs,F.live⟩;unfold zJ YK at h;split at h;all_goals first|(cases h;exact⟨⟨F.defs,.inr rfl⟩,l⟩)|(cases h;exact⟨to _,l⟩)|(split at h<;>first|(cases h;simp_all)|(cases h;done))|(cases h;done)|skip
  .rename_i ops i rest X e;rw[e]at f;split at h
   .split at h
    .rename_i o T;have m:(ops.all λo=>MD P o.op)=E:=f (.inRegion ops (i::rest)) Y1;rw[aQ]at m;have s:=Ou g (m o (dk T)) (λx I=>k.eval I) (λv=>⟨rfl,rfl⟩);unfold Ea at h;split at h;all_goals first|(cases h;exact⟨fin _,l⟩)|(cases h;done)|skip
     .cases h;exact⟨⟨λd M=>by simp[aF]at M,.inl rfl⟩,λc G=>by
       rcases bq.1 G with rfl|G;.exact⟨F.defs,p⟩
       .exact l c G⟩
     .rename_i d w2 n I;have W:TA (w2.drawn-w.drawn) w (World.on N w.tape w.drawn):=λj q _=>rfl;have⟨_,z,r,t,A,B,u,_⟩:=s.run w (World.on N w.tape w.drawn) #[] #[] _ w2 n ⟨O.inj,O.obj,O.kinds⟩ I (w2.drawn-w.drawn) Y0 W;cases h;cases u with|defer _ G=>have M:yW {a with defers:=d::a.defers}:=λx I=>(bq.1 I).elim (λe=>e▸G) (F.defs x);exact⟨⟨(M.finish _).1,by rw[(M.finish _).2];exact .inl p⟩,l⟩
     .split at h
      .unfold jK at h;repeat' split at h
       all_goals first|(cases h;simp_all)|(cases h;done)
      .cases h
    .cases h
   .grind
 .unfold pC at h;split at h
  .rename_i d D M;split at h
   .split at h
    .cases h;exact⟨⟨λx I=>F.defs x Y7,F.live⟩,l⟩
    .cases h
   .cases h
  .split at h;.cases h
   .split at h
    .split at h;.cases h
     .cases h;have⟨m,y⟩:=l _ (kB ..);exact⟨⟨(m.finish _).1,by rw[(m.finish _).2];exact .inl y⟩,λc G=>l c (gD _ G)⟩
    .cases h
 .cases h
def Qa{b:Array ah}{t:ah}{j:Array Bool}{args:Array Y}{w:V}{r:Result s3}(h:(invoke (.builtin .close b t j) args).run P w=r):(∃v w1,r=.ok (.value v) w1)∨(∃v w1,r=.halt (.panic v) w1)∨(∃s w1,r=.halt (.stuck s) w1):=by
 subst h;have e:invoke (.builtin .close b t j) args=(do let x←oY b t args;pure (dU x):Sem s3):=rfl;rw[e];have f:∀(m:String)(w:V),∃v w1,Sem.run P (do let x←(cJ (.plain m):Sem Y);pure (dU x):Sem s3) w=.halt (.panic v) w1:=by intro m w;simp[cJ,goPanic,Sem.run]
 have c:oY b t args=cJ (.plain "close of nil channel")∨(∃r,args=#[.chan (C r)])∨oY b t args=stuck "close: one channel expected":=by have⟨l⟩:=args;match l with
  |[]=>exact .inr (.inr rfl)|[x]=>
   cases x;case chan r=>cases r with|none=>exact .inl rfl|some r=>exact .inr (.inl ⟨r,rfl⟩)
   all_goals exact .inr (.inr rfl)|x::y::l=>exact .inr (.inr rfl)
 rcases c with h|⟨r,rfl⟩|h;.rw[h];exact .inr (.inl (f _ _))
 . have g:oY b t #[.chan (C r)]=(do
    let .chan bS buf closed d a timer←getObj r|stuck "close: no channel in this block"
    if closed then cJ (.plain "close of closed channel")
    setObj r (.chan bS buf E d a timer)pure (.tuple #[])):=rfl;rw[g];cases i:w.heap[r]? with |none=>exact .inr (.inr (by simp[getObj,Sem.run,i,stuck]))|some o=>
   cases o;case chan cap buf closed s rc k=>cases closed with|true=>exact .inr (.inl (by simp[getObj,Sem.run,i,cJ,goPanic]))|false=>exact .inl (by simp[getObj,setObj,Sem.run,i])
   all_goals exact .inr (.inr (by simp[getObj,Sem.run,i,stuck]))
 .rw[h];exact .inr (.inr (by simp[Sem.run,stuck]))
def zhY(P:al)(main:Bool)(a:ag)(f:List ag)(L:List ag)(w:V):Prop:=(∃o w1 e,bg P main (G a f) w=.ended o w1 e)\/(∃b chain w1 e,bg P main (G a f) w=.go (G {a with defers:=b,mode:=.panicking chain} f) w1 e/\∀d∈b,d∈a.defers)\/(∃c s w1 e,a.mode=.run/\bg P main (G a f) w=.comm (G a f) #[c] E s w1 e/\jK a L c s w1 e=.bad)
def zjX(g:PG P P'){a:ag}{w W:V}(k:u2 P R a b)(X:HR R w W){Q:Array bU}{i:Nat}{T:List Nat}{kk:List mZ}{o:bU}(t:a.mode=.run)(ht:a.todo=.inRegion Q (i::T)::kk)(ho:Q[i]?=C o)(y:MD P o.op=E)(hw:((Q[i]?).map (ar . (yielded Q a.tmps))).getD H=E)(h:Ea P a L o w=.bad)(cs:List ag):zhY P main a (L++cs) L w:=by
 have e:bg P main (G a (L++cs)) w=cD P E a (L++cs) U (aG a.eval o) w:=by
  have l:a.oper?=C o:=by simp[AO,ht,ho]
  simp[bg,G,t,bT,ht,hw,EX,l,k.round]
 have Z:(a.kind==jW)=H:=by rw[k.norm];rfl
 have z:=Ou g y (λx S=>k.eval S) (λv=>⟨rfl,rfl⟩);unfold Ea at h;cases S:(aG a.eval o).runT P w #[]with|mk r es=>have hp:=S;simp[Sem.runT_eq,aX]at hp;have⟨p,f⟩:=hp;cases r with
  |halt x w1=>have m:=z.Wt w W #[] x w1 es X S;unfold zhY;rw[e];cases x with
   |panic v=>refine .inr (.inl ⟨a.defers,[{v,recovered:=H}],w1,seen P a.fn es,?_,λd hd=>hd⟩);simp[cD,p,f,Z,bP,G,gx,t]|stuck s=>refine .inl ?_;simp[cD,p,f,Z,bP]|unsupported u=>refine .inl ?_;cases u<;>first |(cases m;done)|simp[cD,p,f,Z,bP]
   |_=>cases m
  |ok n w1=>
   have hT:TA (w1.drawn-w.drawn) w (World.on W w.tape w.drawn):=λj q _=>rfl;have⟨_,D,A,B,M,F,N,O,I,J⟩:=z.run w (World.on W w.tape w.drawn) #[] #[] n w1 es ⟨X.inj,X.obj,X.kinds⟩ S (w1.drawn-w.drawn) Y0 hT
   cases N with|comm hc sh hs=>rename_i c K;simp only[S]at h;refine .inr (.inr ⟨c,sh,w1,seen P a.fn es,t,?_,h⟩);rw[e];simp[cD,p,f,Z,bP,G]|_=>simp only[S]at h;cases h
def Zh(g:PG P P'){a:ag}{w w':V}(k:u2 P R a b)(hs:Sol a)(hr:HR R w w')(h:dc P a L w=.bad)(cs:List ag):zhY P main a (L++cs) L w:=by
 have j:=k.ok;unfold dc at h;rcases hs.live with m|m
 .rw[m]at h;simp  at h;unfold zJ at h;split at h;.cases h
  .cases h
  .cases h
  .cases h
  .cases h
  .rename_i c x y kk e;split at h;.cases h
   .rename_i D;refine .inl ?_;simp only[bg,G,m,bT,e];exact⟨_,_,_,rfl⟩
  .cases h
  .cases h
  .cases h
  .rename_i id kk e;split at h;.cases h
   .rename_i hx;exact .inl (by simp[bg,G,m,bT,e,hx,k.round])
  .rename_i id ops draw kk e;split at h;.simp[choose,Sem.run,fP]at h
   .cases h
  .cases h
  .rename_i ops i rest kk e;rw[e]at j;split at h
   .rename_i hw;cases ho:ops[i]? with |none=>rw[ho]at hw;cases hw|some o=>simp[ho]at h;have B:(ops.all λo=>MD P o.op)=E:=j (.inRegion ops (i::rest)) Y1;rw[aQ]at B;exact zjX g k hr m e ho (B o (dk ho)) hw h cs
   .cases h
  .rename_i n1 T F W I J K M N q s u z;exfalso;cases Z:a.todo with |nil=>exact n1 Z|cons x kk=>have hx:=j x (by rw[Z];simp);cases x with
    |code c=>cases c with |skip=>exact F _ Z|ret=>exact T _ Z|seq x y=>exact I _ _ _ Z|cond c x y=>exact J _ _ _ _ Z|block id c=>exact K _ _ _ Z|loop c=>exact M _ _ Z|exit id=>exact q _ _ Z|region id ops d=>exact s _ _ _ _ Z|_=>cases hx
    |inBlock id=>exact W _ _ Z|inLoop c=>exact N _ _ Z|inRegion ops l=>cases l with|nil=>exact u _ _ Z|cons i rest=>exact z _ _ _ _ Z
    |_=>cases hx
 .rw[m]at h;simp  at h;unfold pC at h
  cases hd:a.defers with |cons d O=>have⟨Q,t,cs',n⟩:=hs.defs d (by rw[hd];simp);have⟨S,args⟩:=d;simp  at n;subst n;simp only[hd]at h;cases hx:(invoke (.builtin .close Q t cs') args).runT P w #[]with|mk r es=>
    have hp:=hx;simp[Sem.runT_eq,aX]at hp;have⟨p,f⟩:=hp;simp only[hx]at h;rcases Qa p with⟨v,w1,rfl⟩|⟨v,w1,rfl⟩|⟨v,w1,rfl⟩;.cases h
    .refine .inr (.inl ⟨O,[{v,recovered:=H}],w1,seen P a.fn es,?_,λd A=>by rw[hd];simp[A]⟩);simp[bg,G,m,unwind,hd,jm,p,f,bP,gx]
    .refine .inl ?_;simp[bg,G,m,unwind,hd,jm,p,f,bP]|nil=>have⟨fn,X,D⟩:=k.has;simp only[hd,X]at h;cases hx:(results fn a.tmps).runT P w #[]with|mk r es=>
    have hp:=hx;simp[Sem.runT_eq,aX]at hp;have⟨p,f⟩:=hp;simp only[hx]at h
    cases r with|ok v w1=>simp  at h;cases L<;>cases h|halt x w1=>refine .inl ?_;cases x<;>simp[bg,G,m,unwind,hd,X,p,f,bP]
end
section
variable{P P':al}{R:BR}
variable{c:List ag}
def GN{d f:ag}{e:List ag}{w w':V}(h:lone d e w=lone f c w'):d=f/\e=c/\w=w':=by simp only[lone,Machine.mk.injEq,and_true]at h;have⟨b,a⟩:=h;simp[Array.mk.injEq,kM,Goroutine.mk.injEq,and_true]at a;simp_all
variable{n:Nat}
def runN_succ_next{m a m2:Machine}(h:step P m=.next a)(k:runN P (n+1) m=.next m2):runN P n a=.next m2:=by simp[runN,h]at k;exact k
def jd{m a:Machine}{o:Outcome}{w:V}(h:step P m=.ended o w)(k:runN P (n+1) m=.next a):False:=by simp only[runN,h]at k;cases k
structure Pan(P:al)(fr:ag):Prop where
 mode:∃chain,fr.mode=.panicking chain
 defs:yW fr
 has:∃fn,P.funcs[fr.fn]?=C fn
structure Cal(P:al)(fr:ag):Prop where
 mode:fr.mode=.run
 defs:yW fr
 has:∃fn,P.funcs[fr.fn]?=C fn
def xw:∀(n:Nat)(fr:ag)(L:List ag)(w:V)(f:ag)(a:List ag)(g:V),a≠[]->Pan P fr->(∀c∈L,Cal P c)->runN P n (lone fr (L++[s6 P]) w)=.next (lone f a g)->¬(f.mode=.run\/f.mode=.returning)|0,fr,L,w,f,a,g,b,z,l,h=>by simp[runN,kC]at h;have⟨i,_,_⟩:=GN h;have⟨q,m⟩:=z.mode;rw[<-i,m];simp|n+1,fr,L,w,f,a,g,b,z,l,h=>by have⟨q,m⟩:=z.mode;cases hd:fr.defers with
 |cons d k=>
  have⟨p,t,cs,j⟩:=z.defs d Y7;have⟨u,args⟩:=d;simp  at j;subst j;have A:∀d∈k,∃p t cs,d.target=.builtin .close p t cs:=λd r=>z.defs d Y7;rcases Qa ((rfl:(invoke (.builtin .close p t cs) args).run P w=_))with⟨v,w1,e⟩|⟨v,w1,e⟩|⟨v,w1,e⟩;.have y:step P (lone fr (L++[s6 P]) w)=.next (lone {fr with defers:=k} (L++[s6 P]) w1):=kx (by simp[bg,m,unwind,hd,jm,e]);exact xw n {fr with defers:=k} L w1 f a g b ⟨⟨q,m⟩,A,z.has⟩ l (runN_succ_next y h)
  .have y:step P (lone fr (L++[s6 P]) w)=.next (lone ({fr with defers:=k}.raise [{v,recovered:=H}]) (L++[s6 P]) w1):=kx (by simp[bg,m,unwind,hd,jm,e]);refine xw n _ L w1 f a g b ⟨⟨_,by simp[gx,m];rfl⟩,?_,?_⟩ l (runN_succ_next y h);.simp[gx,m];exact A
   .simp[gx,m];exact z.has
  .have y:∃o w2,step P (lone fr (L++[s6 P]) w)=.ended o w2:=⟨_,_,r8 (by simp[bg,m,unwind,hd,jm,e];exact⟨rfl,rfl⟩)⟩;have⟨o,w2,y⟩:=y;cases jd y h|nil=>have⟨F,s⟩:=z.has;cases L with
  |nil=>
   have y:step P (lone fr ([]++[s6 P]) w)=.next (lone ((s6 P).raise q) [] w):=kx (by simp[bg,m,unwind,hd,qE,s]);have i:=runN_succ_next y h
   cases n with |zero=>simp[runN,kC]at i;cases b (GN i).2.1.symm|succ n=>
    have y:∃o w2,(bg P E {frame:=(s6 P).raise q,callers:=[],status:=.running,dying:=U} w).bare=.ended o w2:=by simp[bg,s6,gx,unwind,qE,door]
    have⟨o,w2,y⟩:=y;cases jd (r8 y) i
  |cons c L=>
   have B:=l c Y1;have y:step P (lone fr (c::L++[s6 P]) w)=.next (lone (c.raise q) (L++[s6 P]) w):=kx (by simp[bg,m,unwind,hd,qE,s]);refine xw n _ L w f a g b ⟨⟨q,by simp[gx,B.mode]⟩,?_,?_⟩ (λx D=>l x (by simp[D])) (runN_succ_next y h);.simp[gx,B.mode];exact B.defs
   .simp[gx,B.mode];exact B.has
def XR{fr:ag}{cs:List ag}{x:Option (Array lV×jV)}{w:V}:∃o w2,step P {world:=w,gs:=#[{frame:=fr,callers:=cs,status:=.blocked,dying:=U,offers:=x}],rest:={timers:=#[],alone:=U,slice:=U}}=.ended o w2:=by simp[step,stepT,move,ask,askOn,runnable_eq,due,ahead,Goroutine.canRun,List.range_succ,pure];generalize endWith w 2 _ _=s;cases s<;>simp_all
variable{b:ag}
def Yl{f:ag}{d:List ag}{x:Option (Array lV×jV)}{w a:V}(h:runN P n {world:=w,gs:=#[{frame:=b,callers:=d,status:=.blocked,dying:=U,offers:=x}],rest:={timers:=#[],alone:=U,slice:=U}}=.next (lone f c a)):False:=by cases n with|zero=>simp only[runN,kC,lone,Machine.mk.injEq]at h;have:=h.2.1;simp at this|succ n=>have⟨o,w2,e⟩:=XR (P:=P) (fr:=b) (cs:=d) (x:=x) (w:=w);exact jd e h
def D3(r:Nat)(b:Bool):partners #[{(default:av)with status:=.finished}] r b=[]:=by simp[partners]
variable{e:Array bB}
def BQ{f:ag}{a:List ag}{w w1:V}{c:lV}{s:jV}(h:bg P E (G f a) w=.comm (G f a) #[c] E s w1 e):step P (lone f a w)=(communicate P {timers:=#[],alone:=U,slice:=U} #[{(default:av)with status:=.finished}] 0 (G f a) #[c] E s w1).1:=by rw[step,stepT,move_lone];simp[G]at h;simp[runT,lone,Array.swapAt!,h,G]
def wJ{a f:ag}{b:List ag}{w d:V}(h:bg P E (G a b) w=.go (G f c) d e):step P (lone a b w)=.next (lone f c d):=kx (by simp[G]at h;rw[h];rfl)
def K2{f:ag}{w w':V}{o:Outcome}(h:bg P E (G f c) w=.ended o w' e):step P (lone f c w)=.ended o w':=r8 (by simp[G]at h;rw[h];rfl)
def IJ.cal:∀{L b:List ag},IJ P R L b->(∀c∈L,yW c/\c.mode=.run)->∀c∈L,Cal P c
 |[],[],_,_,c,h=>by simp at h|x::l,e::a,k,hd,c,h=>by
  rcases bq.1 h with rfl|h
  .have⟨d,f,_⟩:=k.1.base.has;exact⟨k.1.run,(hd _ (kB ..)).1,d,f⟩
  .exact IJ.cal k.2 (λc h=>hd c (gD _ h)) c h
variable{L:List ag}
def zfD(g:PG P P'){a:ag}{I:List ag}{w J:V}(k:u2 P R a b)(s:Sol a)(i:∀c∈L,yW c/\c.mode=.run)(u:IJ P R L I)(K:HR R w J)(h:dc P a L w=.bad){f:ag}{j:List ag}{p:V}(l:j≠[])(B:runN P (n+1) (lone a (L++[s6 P]) w)=.next (lone f j p)):¬(f.mode=.run\/f.mode=.returning):=by
 have⟨F,v,_⟩:=k.has;rcases Zh g k s K h [s6 P]with⟨o,w1,G,e⟩|⟨y,chain,w1,G,e,q⟩|⟨c,M,w1,G,z,e,A⟩;.cases jd (K2 e) B
 .exact xw n {a with defers:=y,mode:=.panicking chain} L w1 f j p l ⟨⟨chain,rfl⟩,λd i=>s.defs d (q d i),F,v⟩ (u.cal i) (runN_succ_next (wJ e) B)
 .have t:=BQ e;rcases M0 z (λr b=>D3 r b) A with⟨o,w2,D,m⟩|⟨chain,w2,D,m⟩|⟨x,w2,D,m⟩
  .rw[m]at t;cases jd t B
  .rw[m]at t;exact xw n {a with mode:=.panicking chain} L w2 f j p l ⟨⟨chain,rfl⟩,λd i=>s.defs d i,F,v⟩ (u.cal i) (runN_succ_next t B)
  .rw[m]at t;cases Yl (runN_succ_next t B)
def zaT{f:ag}{w:V}{v:Y}(h:f.leaving P w (.returned v)):∃es,dc P f [] w=.ret v w es:=by have⟨a,b,e,g,c,d⟩:=h;unfold dc pC;simp only[a,b,c];rw[Sem.runT_eq,d];simp_all
def LR.on(T:Nat->c6->Nat)(d:Nat):LR->LR|.next f L w es a=>.next f L (World.on w T d) es a|.ret v w es=>.ret v (World.on w T d) es|.bad=>.bad
def LR.drawn:LR->Nat->Nat|.next _ _ w _ _,_=>w.drawn|.ret _ w _,_=>w.drawn|.bad,d=>d
def YN(w:V)(f:V->LR)(r:LR):Prop:=w.drawn<=r.drawn w.drawn/\∀T d,TA (r.drawn w.drawn-w.drawn) w (World.on w T d)->f (World.on w T d)=r.on T (d+(r.drawn w.drawn-w.drawn))
def YN.pv{w:V}{f:V->LR}{r:LR}(h:r.drawn w.drawn=w.drawn)(k:∀T d,f (World.on w T d)=r.on T d):YN w f r:=by refine⟨Y0,λT d _=>?_⟩;rw[h,Nat.sub_self,Nat.add_zero];exact k T d
def zko{fr:ag}{c:lV}{sh:jV}{w:V}{es:Array bB}:(jK fr L c sh w es).drawn w.drawn=w.drawn/\∀T d,jK fr L c sh (World.on w T d) es=(jK fr L c sh w es).on T d:=by
 unfold jK World.on;simp;split
 .split
  .split;.exact⟨rfl,λ_ _=>rfl⟩
   .split;.exact⟨rfl,λ_ _=>rfl⟩
    .exact⟨rfl,λ_ _=>rfl⟩
  .split;.exact⟨rfl,λ_ _=>rfl⟩
   .split;.exact⟨rfl,λ_ _=>rfl⟩
    .exact⟨rfl,λ_ _=>rfl⟩
  .exact⟨rfl,λ_ _=>rfl⟩
 .exact⟨rfl,λ_ _=>rfl⟩
def zn7(g:PG P P'){a:ag}{w I:V}(k:u2 P R a b)(J:HR R w I){o:bU}(K:MD P o.op=E)(i:Ea P a L o w≠.bad):YN w (Ea P a L o) (Ea P a L o w):=by have B:=Ou g K (λx u=>k.eval u) (λv=>⟨rfl,rfl⟩);cases u:(aG a.eval o).runT P w #[]with|mk r es=>cases r with|halt x w1=>cases i (by unfold Ea;rw[u])|ok n w1=>
 have M:HR R w (World.on I w.tape w.drawn):=⟨J.inj,J.obj,J.kinds⟩;have O:=(B.run w (World.on I w.tape w.drawn) #[] #[] n w1 es M u (w1.drawn-w.drawn) Y0 (λj q _=>rfl)).1;have Q:=λT d(D:TA (w1.drawn-w.drawn) w (World.on w T d))=>((λT d(D:TA (w1.drawn-w.drawn) w (World.on w T d))(h:w1.drawn<=w.drawn+(w1.drawn-w.drawn))=>B.YY w I #[] n w1 es J u (w1.drawn-w.drawn) T d h D) T d D Y0).2;have e:Ea P a L o w=Ea P a L o w:=rfl;conv at e=>rhs;unfold Ea
 rw[u]at e;rw[e];have S:∀(r:LR),r.drawn w.drawn=w1.drawn->(∀T d,Ea P a L o (World.on w T d)=r.on T (d+(w1.drawn-w.drawn))\/¬TA (w1.drawn-w.drawn) w (World.on w T d))->YN w (Ea P a L o) r:=by intro r p s;refine⟨Y0,λT d D=>?_⟩;rw[p]at D⊢;grind
 have go:∀(r:LR),r.drawn w.drawn=w1.drawn->(∀T d,(aG a.eval o).runT P (World.on w T d) #[]=(.ok n (World.on w1 T (d+(w1.drawn-w.drawn))),es)->Ea P a L o (World.on w T d)=r.on T (d+(w1.drawn-w.drawn)))->YN w (Ea P a L o) r:=by grind
 cases n with|value v=>exact go _ rfl λT d h=>by unfold Ea;rw[h];rfl|skip=>exact go _ rfl λT d h=>by unfold Ea;rw[h];rfl|enter f args=>exact go _ rfl λT d h=>by unfold Ea;rw[h];rfl|defer l=>exact go _ rfl λT d h=>by unfold Ea;rw[h];rfl|comm cs N sh=>
  simp  at e;have shape:∃c,cs.toList=[c]/\N=E:=by grind
  obtain⟨c,G,rfl⟩:=shape;simp[G]at e⊢;have⟨m,t⟩:=zko (fr:=a) (L:=L) (c:=c) (sh:=sh) (w:=w1) (es:=seen P a.fn es);have y:(jK a L c sh w1 (seen P a.fn es)).drawn w.drawn=w1.drawn:=by cases z:jK a L c sh w1 (seen P a.fn es)with|bad=>cases(e▸i) z|ret v w2 A=>rw[z]at m;exact m|next f1 F w2 A ac=>rw[z]at m;exact m
  refine go _ y λT d h=>?_;unfold Ea;rw[h];simp[G];exact t T _|_=>cases i e
def zgN(g:PG P P'){a:ag}{w F:V}(k:u2 P R a b)(G:HR R w F)(h:pC P a L w≠.bad):YN w (pC P a L) (pC P a L w):=by have J:HR R w (World.on F w.tape w.drawn):=⟨G.inj,G.obj,G.kinds⟩;unfold pC at h⊢;cases hd:a.defers with
 |cons d u=>rw[hd]at h;have D:=k.defers;rw[hd]at D;cases e:b.defers with |nil=>rw[e]at D;cases D|cons y m=>rw[e]at D;have⟨f,_⟩:=D;cases f with |clo=>cases h rfl|@close l t cs x M i=>simp only at h⊢;have s:=zau (P:=P) (P':=P') l t cs i;cases A:(invoke (.builtin .close l t cs) x).runT P w #[]with|mk r es=>rw[A]at h;cases r with|halt x w1=>cases h rfl|ok n w1=>have I:=(s.run w (World.on F w.tape w.drawn) #[] #[] n w1 es J A (w1.drawn-w.drawn) Y0 (λj q _=>rfl)).1;cases n with|value v=>refine⟨I,λT o B=>?_⟩;have:=(s.YY w F #[] _ w1 es G A (w1.drawn-w.drawn) T o Y0 B).2;simp only[this];rfl|_=>cases h rfl
 |nil=>rw[hd]at h;have⟨K,p,z⟩:=k.has;simp only[p]at h⊢;have s:=EW g.pe K k.tmps;cases A:(results K a.tmps).runT P w #[]with|mk r es=>rw[A]at h;cases r with|halt x w1=>cases h rfl|ok v w1=>have I:=(s.run w (World.on F w.tape w.drawn) #[] #[] v w1 es J A (w1.drawn-w.drawn) Y0 (λj q _=>rfl)).1;have:=λT d B=>(s.YY w F #[] _ w1 es G A (w1.drawn-w.drawn) T d Y0 B).2;cases L with|nil=>exact⟨I,λT d B=>by simp only[this T d B];rfl⟩|cons c L=>exact⟨I,λT d B=>by simp only[this T d B];rfl⟩
def zli(g:PG P P'){a:ag}{w B:V}(k:u2 P R a b)(D:HR R w B)(n:zJ P a L w≠.bad):YN w (zJ P a L) (zJ P a L w):=by have⟨f,p,j,q,r,s,t⟩:=a;have h:=k.ok;simp  at h;unfold zJ at n⊢;cases j with |nil=>exact .pv rfl λ_ _=>rfl|cons x F=>have z:=h x Y1;cases x with
 |code c=>cases c with
  |skip=>exact .pv rfl λ_ _=>rfl|ret=>exact .pv rfl λ_ _=>rfl|seq x y=>exact .pv rfl λ_ _=>rfl|cond c x y=>simp  at n⊢;generalize Frame.eval _ c=u at n⊢;cases u<;>exact .pv rfl λ_ _=>rfl|block id c=>exact .pv rfl λ_ _=>rfl|loop c=>exact .pv rfl λ_ _=>rfl|exit id=>simp  at n⊢;cases G:vN id F with|none=>rw[G]at n;cases n rfl|some J=>exact .pv rfl λ_ _=>rfl
  |region id ops draw=>cases draw with|false=>exact .pv rfl λ_ _=>rfl|true=>
    have e:∀w:V,(choose (.order f id)).run P w=.ok (yp (.order f id) (w.tape w.drawn (.order f id))) {w with drawn:=w.drawn+1}:=by intro w;simp[choose,Sem.run,fP]
    simp only[if_true,e];refine⟨by simp[LR.drawn],λT d I=>?_⟩;have v:w.tape w.drawn (.order f id)=T d (.order f id):=I 0 _ (by simp[LR.drawn]);simp only[LR.drawn,LR.on,World.on,v]
    simp|_=>cases n rfl
 |inBlock id=>exact .pv rfl λ_ _=>rfl|inLoop c=>exact .pv rfl λ_ _=>rfl|inRegion ops l=>cases l with|nil=>exact .pv rfl λ_ _=>rfl|cons i rest=>
   simp  at n⊢;split
   .rename_i hw;rw[if_pos hw]at n;cases A:ops[i]? with |none=>rw[A]at n;cases n rfl|some o=>rw[A]at n;have m:(ops.all λo=>MD P o.op)=E:=z;rw[aQ]at m;exact zn7 g k D (m o (dk A)) n
   .exact .pv rfl λ_ _=>rfl|_=>cases n rfl
def YY(g:PG P P'){a:ag}{w d:V}(k:u2 P R a b)(r:HR R w d)(n:dc P a L w≠.bad):YN w (dc P a L) (dc P a L w):=by unfold dc at n⊢;cases m:a.mode with|run=>rw[m]at n;exact zli g k r n|returning=>rw[m]at n;exact zgN g k r n|panicking c=>rw[m]at n;cases n rfl
end
structure Nd where
 fr:ag
 L:List ag
 w:V
def qw{R g:BR}{w n w1 d:V}(k:KP R w n g w1 d){a b l:Nat}(r:R a b l)(h:Fz w a):Fz w1 a:=by have⟨i,_⟩:=k.fz a b l r h;have⟨c,e,f,j,m⟩:=h;exact⟨c,e,f,i.trans j,m⟩
def GlF(w:V):Prop:=∀g,lA g nGl=E->Fz w g
def ou(P:al)(x:Nd):Prop:=∃R f a b,u2 P R x.fr f/\IJ P R x.L a/\HR R x.w b/\GlF x.w
inductive fG(P:al)(O:ag->List ag->V->(ag->List ag->V->Prop)->Prop)(Fin:Y->V->Prop):ag->List ag->V->Prop|mk{fr:ag}{L:List ag}{w:V}(ok:∀T d,(∃v w1 es,dc P fr L (World.on w T d)=.ret v w1 es/\Fin v w1)\/∃fr1 L1 w1 es acts,dc P fr L (World.on w T d)=.next fr1 L1 w1 es acts)(nx:∀T d fr1 L1 w1 es acts,dc P fr L (World.on w T d)=.next fr1 L1 w1 es acts->fG P O Fin fr1 L1 w1):fG P O Fin fr L w|ask{fr:ag}{L:List ag}{w:V}(S:ag->List ag->V->Prop)(h:O fr L w S)(k:∀fr1 L1 w1,S fr1 L1 w1->ou P ⟨fr1,L1,w1⟩->fG P O Fin fr1 L1 w1):fG P O Fin fr L w
inductive SO(P:al)(Fin:Y->V->Prop):ag->List ag->V->Prop|ret{fr:ag}{L:List ag}{w w1:V}{v:Y}{es:Array bB}(h:dc P fr L w=.ret v w1 es)(hf:Fin v w1):SO P Fin fr L w|next{fr fr1:ag}{L L1:List ag}{w w1:V}{es:Array bB}{acts:List ic}(h:dc P fr L w=.next fr1 L1 w1 es acts)(k:SO P Fin fr1 L1 w1):SO P Fin fr L w
section
variable{P P':al}{O:ag->List ag->V->(ag->List ag->V->Prop)->Prop}{Fin:Y->V->Prop}
def St(P:al)(x:Nd)(T:Nat->c6->Nat)(d:Nat):LR:=dc P x.fr x.L (World.on x.w T d)
def ou.on{x:Nd}(h:ou P x)(T:Nat->c6->Nat)(d:Nat):∃R f e w',u2 P R x.fr f/\IJ P R x.L e/\HR R (World.on x.w T d) w'/\∀n,TA n (World.on x.w T d) w':=by have⟨R,f,e,w',b,c,a,_⟩:=h;exact⟨R,f,e,World.on w' T d,b,c,⟨a.inj,a.obj,a.kinds⟩,λn j q _=>rfl⟩
variable{L:List ag}
def ou.on'{g:ag}{w:V}(h:ou P ⟨g,L,w⟩)(T:Nat->c6->Nat)(d:Nat):ou P ⟨g,L,World.on w T d⟩:=by have⟨R,f,i,j,b,c,a,e⟩:=h;exact⟨R,f,i,j,b,c,⟨a.inj,a.obj,a.kinds⟩,e⟩
def ou.next(g:PG P P')(gp:GP P){x:Nd}(h:ou P x){T:Nat->c6->Nat}{d:Nat}{o:ag}{q:List ag}{w1:V}{t:Array bB}{p:List ic}(s:St P x T d=.next o q w1 t p):ou P ⟨o,q,w1⟩/\w1.tape=T/\d<=w1.drawn:=by have⟨R,u,w,y,b,e,i,j⟩:=h.on T d;have:=sim g gp b e i j;unfold St at s;rw[s]at this;have⟨f,L,a,_,_,m,_,v,n,k3,k,_⟩:=this;exact⟨⟨m,f,L,a,v,n,k3,λg c=>by have⟨l,r,_⟩:=b.gl g c;exact qw k r ((let⟨_,_,_,_,_,_,_,h⟩:=h;h) g c)⟩,k.zix,k.drawn⟩
variable{x:Nd}
def St.shift(g:PG P P')(h:ou P x){T:Nat->c6->Nat}{d:Nat}{f:ag}{w1:V}{i:Array bB}{acts:List ic}(s:St P x T d=.next f L w1 i acts){T':Nat->c6->Nat}{e:Nat}(t:∀j q,j<w1.drawn-d->T (d+j) q=T' (e+j) q):St P x T' e=.next f L (World.on w1 T' (e+(w1.drawn-d))) i acts:=by have⟨R,l,n,w,a,c,b,_⟩:=h.on T d;unfold St at s⊢;have k:=(YY g a b (by rw[s];simp)).2 T' e;rw[s]at k;exact k λj q m=>t j q m
def St.zr0(g:PG P P')(h:ou P x){T:Nat->c6->Nat}{d:Nat}{v:Y}{w1:V}{es:Array bB}(s:St P x T d=.ret v w1 es){e:Nat->c6->Nat}{f:Nat}(t:∀j q,T (d+j) q=e (f+j) q):∃d2,St P x e f=.ret v (World.on w1 e d2) es:=by have⟨R,i,L,w,a,c,b,_⟩:=h.on T d;unfold St at s⊢;have k:=(YY g a b (by rw[s];simp)).2 e f;rw[s]at k;exact⟨_,k λj q _=>t j q⟩
def zdK(Fin:Y->V->Prop):Prop:=∀v w T d,Fin v w->Fin v (World.on w T d)
def SO.shift(g:PG P P')(gp:GP P)(B:zdK Fin){b:ag}{L:List ag}{w:V}(h:SO P Fin b L w):∀(_:ou P ⟨b,L,w⟩)(T':Nat->c6->Nat)(d:Nat),(∀j q,w.tape (w.drawn+j) q=T' (d+j) q)->SO P Fin b L (World.on w T' d):=by induction h with|@ret b L w w1 v es s f=>intro c T' d e;have⟨d2,k⟩:=St.zr0 g c s e;exact .ret k (B _ _ _ _ f)|@next b m L n w w1 es l s _ i=>intro c T' d e;have⟨r,t,a⟩:=c.next g gp s;refine .next (St.shift g c s (λj q _=>e j q)) (i r T' (d+(w1.drawn-w.drawn)) λj q=>?_);have:=e (w1.drawn-w.drawn+j) q;rw[t,show w1.drawn+j=w.drawn+(w1.drawn-w.drawn+j)by omega,this];congr 1;omega
def zhA(P:al)(Fin:Y->V->Prop)(x:Nd):Prop:=∀T d,SO P Fin x.fr x.L (World.on x.w T d)
def zhA.next(g:PG P P')(gp:GP P)(B:zdK Fin){x:Nd}(h:ou P x)(l:zhA P Fin x){T:Nat->c6->Nat}{d:Nat}{f:ag}{L:List ag}{w1:V}{o:Array bB}{c:List ic}(m:St P x T d=.next f L w1 o c):zhA P Fin ⟨f,L,w1⟩:=by
 intro e i;let b:Nat->c6->Nat:=λn q=>if n<w1.drawn then T n q else e (i+(n-w1.drawn)) q;have⟨a,_,p⟩:=h.next g gp m;have k:=St.shift g h m (T':=b) λj q r=>by show T (d+j) q=if d+j<w1.drawn then _ else _;rw[if_pos Y0]
 rw[show d+(w1.drawn-d)=w1.drawn by omega]at k;unfold St at k;cases l b d with|ret s=>rw[k]at s;cases s|next s r2=>rw[k]at s;cases s;exact r2.shift g gp B (a.on' _ _) e i λj q=>by show(if w1.drawn+j<w1.drawn then T (w1.drawn+j) q else e (i+(w1.drawn+j-w1.drawn)) q)=_;rw[if_neg Y0];congr 1;omega
def Lt(P:al)(y x:Nd):Prop:=∃T d e a,St P x T d=.next y.fr y.L y.w e a
def yy(h:¬Acc (Lt P) x):∃y,Lt P y x/\¬Acc (Lt P) y:=by refine uW λn=>h (Acc.intro x λy b=>?_);simp_all
noncomputable def path(x:Nd)(h:¬Acc (Lt P) x):Nat->{y:Nd//¬Acc (Lt P) y}|0=>⟨x,h⟩|n+1=>⟨dP (yy (path x h n).2),(fS (yy (path x h n).2)).2⟩
def znx(x:Nd)(h:¬Acc (Lt P) x)(n:Nat):Lt P (path x h (n+1)).1 (path x h n).1:=(fS (yy (path x h n).2)).1
def zaD(g:PG P P')(gp:GP P)(A:zdK Fin)(X:ou P x)(z:zhA P Fin x):Acc (Lt P) x:=by
 refine uW λS=>?_;generalize t:(λn=>(path x S n).1)=f;have Q:f 0=x:=by rw[<-t];rfl
 have v:∀n,Lt P (f (n+1)) (f n):=λn=>by rw[<-t];exact znx x S n
 have I:=v;have⟨T,I⟩:=gJ I;have⟨d,I⟩:=gJ I;have⟨Z,I⟩:=gJ I;have⟨M,I⟩:=gJ I;have r:∀n,ou P (f n):=by intro n;induction n with |zero=>rw[Q];exact X|succ n i=>exact(i.next g gp (I n)).1
 let m:Nat->Nat:=λn=>(f (n+1)).w.drawn-d n;let D:Nat->Nat:=λn=>Nat.rec 0 (λk s=>s+m k) n;have c:∀n,D (n+1)=D n+m n:=λn=>rfl;have y:∀a b,a<=b->D a<=D b:=by intro a b h;induction h with |refl=>exact ao _|step _ i=>rw[c];omega
 have N:∀n k k',D k<=n->n<D (k+1)->D k'<=n->n<D (k'+1)->k=k':=by
  intro n k k' l o p F;rcases Nat.lt_trichotomy k k' with h|h|h;.have:=y (k+1) k' h;omega
  .exact h
  .have:=y (k'+1) k h;omega
 let G:Nat->c6->Nat:=λn q=>open Classical in if h:∃k,D k<=n/\n<D (k+1)then T (dP h) (d (dP h)+(n-D (dP h))) q else 0;have B:∀k j q,j<m k->T k (d k+j) q=G (D k+j) q:=by intro k j q W;have J:∃k',D k'<=D k+j/\D k+j<D (k'+1):=⟨k,Y0,by rw[c];omega⟩;have e:dP J=k:=N (D k+j) _ _ (fS J).1 (fS J).2 Y0 (by rw[c];omega);have u:G (D k+j) q=T (dP J) (d (dP J)+(D k+j-D (dP J))) q:=dif_pos J;rw[u,e];congr 1;omega
 have step:∀k,St P (f k) G (D k)=.next (f (k+1)).fr (f (k+1)).L (World.on (f (k+1)).w G (D (k+1))) (Z k) (M k):=by intro k;rw[c];exact St.shift g (r k) (I k) (λj q W=>B k j q W)
 have K:∀{R:ag}{L:List ag}{w:V},SO P Fin R L w->∀k,R=(f k).fr->L=(f k).L->w=World.on (f k).w G (D k)->False:=by intro R L w h;induction h with|ret O=>intro k l o p;have:=step k;unfold St at this;rw[l,o,p,this]at O;cases O|next O _ i=>intro k l o p;have:=step k;unfold St at this;rw[l,o,p,this]at O;cases O;exact i (k+1) rfl rfl rfl
 exact K (z G 0) 0 (by rw[Q]) (by rw[Q]) (by rw[Q];rfl)
def HD(g:PG P P')(gp:GP P)(B:zdK Fin)(r:ou P x)(l:zhA P Fin x):fG P O Fin x.fr x.L x.w:=by induction zaD g gp B r l with|intro x _ i=>refine .mk (λT d=>?_) λT d b c w1 e a s=>i ⟨b,c,w1⟩ ⟨T,d,e,a,s⟩ (r.next g gp s).1 (l.next g gp B r s);cases l T d with|ret s f=>grind|next s _=>simp_all
def zjs{L':List ag}(h:L++[s6 P]=L'++[s6 P]):L=L':=Y7
def QJ(g:PG P P')(gp:GP P):∀(n:Nat)(q:ag)(L:List ag)(w:V)(f:ag)(LE:List ag)(a:V),ou P ⟨q,L,w⟩->Sol q->(∀c∈L,yW c/\c.mode=.run)->runN P n (lone q (L++[s6 P]) w)=.next (lone f (LE++[s6 P]) a)->(LE=[]/\∃v,f.leaving P a (.returned v)/\Fin v a)->SO P Fin q L w|0,q,L,w,f,LE,a,M,_,_,x,l=>by simp[runN,kC]at x;have⟨j,A,B⟩:=GN x;have m:=zjs A;subst j m B;obtain⟨rfl,v,Q,d⟩:=l;have⟨N,h⟩:=zaT Q;exact .ret h d|n+1,q,L,w,f,LE,a,M,s,k,x,l=>by have⟨R,J,S,T,G,z,k3,D⟩:=M;have I:=zft (P:=P) (main:=E) (L:=L) (w:=w) G.norm G.round;cases y:dc P q L w with
 |bad=>cases zfD g G s k z k3 y Y1 x (.inr (let⟨_,_,h,_⟩:=l;h.1))|ret v1 w1 N=>
  rw[y]at I;obtain⟨rfl,_,_,_,p⟩:=I;have j:=runN_succ_next (wJ (p (s6 P) [])) x;exfalso
  cases n with |zero=>simp[runN,kC]at j;have:=(GN j).2.1;simp at this|succ n=>
   have F:∃o w2,(bg P E {frame:=(s6 P).finish v1,callers:=[],status:=.running,dying:=U} w1).bare=.ended o w2:=by simp[bg,s6,Frame.finish,bT,zrN]
   have⟨o,w2,F⟩:=F;exact jd (r8 F) j
 |next K W w1 N O=>
  rw[y]at I;have⟨t,u⟩:=zgh g G k3 s k y;refine .next y (QJ g gp n K W w1 f LE a ((ou.next g gp ⟨R,J,S,T,G,z,k3,D⟩ y).1) t u ?_ l);rcases I [s6 P]with⟨_,e⟩|⟨c,Z,w0,e,X⟩;.exact runN_succ_next (wJ e) x
  .have F:=BQ e;obtain⟨rfl,_,i⟩:=xH (λr b=>D3 r b) X;rw[i]at F;exact runN_succ_next F x
def Hx(g:PG P P')(gp:GP P){f:bu}{args:Array Y}{w:V}(r:ou P ⟨aF P f args .normal,[],w⟩)(h:Calls P f args w λe w1=>∃v,e=.returned v/\Fin v w1):SO P Fin (aF P f args .normal) [] w:=by obtain⟨e,i,j,⟨v,rfl,a⟩,b,_,l⟩:=h [s6 P];have⟨n,k⟩:=b;exact QJ g gp n _ [] w j [] i r ⟨λd m=>by simp[aF]at m,.inl rfl⟩ (λc b=>by cases b) k ⟨rfl,v,l,a⟩
def fG.on(a:∀fr L w S T d,O fr L w S->O fr L (World.on w T d) S){fr:ag}{L:List ag}{w:V}(h:fG P O Fin fr L w)(T:Nat->c6->Nat)(d:Nat):fG P O Fin fr L (World.on w T d):=by cases h with|mk ok n=>exact .mk (λT d=>ok T d) (λT d=>n T d)|ask S h k=>exact .ask S (a _ _ _ _ _ _ h) k
def zgg{fr:ag}{w:V}(c:ag)(d:List ag):dc P fr (L++c::d) w=match dc P fr L w with|.next f e w1 es b=>.next f (e++c::d) w1 es b|.ret v w1 es=>.next (c.finish v) d w1 es []|.bad=>.bad:=by
 have h:∀(a:lV)(s:jV)(w1:V)(es:Array bB),jK fr (L++c::d) a s w1 es=match jK fr L a s w1 es with|.next f e w1 es b=>.next f (e++c::d) w1 es b|.ret v w1 es=>.next (c.finish v) d w1 es []|.bad=>.bad:=by
  intro a s w1 es;unfold jK;repeat' split
  all_goals first |rfl|(simp_all;done)
 unfold dc;cases fr.mode with
 |panicking ch=>rfl|run=>
  simp;unfold zJ YK;split<;>try rfl
  .split<;>rfl
  .split<;>rfl
  .split;.split<;>rfl
   .rfl
  .split
   .split
    .rename_i o g;unfold Ea;generalize(aG fr.eval o).runT P w #[]=r;have⟨r,es⟩:=r;cases r with|halt x w1=>rfl|ok n w1=>
     cases n<;>try rfl
     rename_i cs i s;simp;split;.simp_all
     .rfl
    .rfl
   .rfl|returning=>
  simp;unfold pC;split
  .split;.split<;>rfl
   .rfl
  .split;.rfl
   .split;.grind
    .rfl
end
def zhO:Y->Bool|.iface _ (.agg ⟨[.string _]⟩)=>E|_=>H
def znw{R:BR}{v a:Y}(h:VR R v a)(p:zhO v=E):a=v:=by
 unfold zhO at p;split at p;.cases h with|@iface t u d h=>cases h with|@agg x b c h=>have⟨l⟩:=b;match l,c with|[u],_=>have:=h 0 _ u rfl rfl;cases this;rfl
 .cases p
def zop(f:ag)(v:Y):Prop:=∃(b:ag)(a:Act)(ops:Array bU)(i:Nat)(rest:List Nat)(k:List mZ)(o:bU)(x:aU),f=b.at a (.inRegion ops (i::rest)::k)/\ops[i]?=C o/\ar o (yielded ops a.tmps)=E/\o.op=.panic x/\oC x=E/\a.eval x=v/\zhO v=E
structure bK(P P':al)(O:ag->List ag->V->(ag->List ag->V->Prop)->Prop)(Fin:Y->V->Prop):Prop where
 g:PG P P'
 gp:GP P
 ask:∀fr L w S T d,O fr L w S->O fr L (World.on w T d) S
 fin:∀v w T d,Fin v w->Fin v (World.on w T d)pan:∀fr L w v,zop fr v->∃S,O fr L w S/\∀fr1 L1 w1,S fr1 L1 w1->fr1={fr with mode:=.panicking [{v,recovered:=H}]}/\L1=L/\w1=w
 pop:∀fr c L w ch,fr.mode=.panicking ch->fr.defers=[]->∃S,O fr (c::L) w S/\∀fr1 L1 w1,S fr1 L1 w1->fr1=c.raise ch/\L1=L/\w1=w
section
variable{P P':al}{O:ag->List ag->V->(ag->List ag->V->Prop)->Prop}{Fin:Y->V->Prop}
structure zqk(P:al)(O:ag->List ag->V->(ag->List ag->V->Prop)->Prop)(Fin:Y->V->Prop)(b:ag)(k:List mZ)(L:List ag)(Q:Exit->Act->V->Prop):Prop where
 normal:∀a w,Q .normal a w->ou P ⟨b.at a k,L,w⟩->fG P O Fin (b.at a k) L w
 exit:∀id a w,Q (.exit id) a w->∃k',vN id k=C k'/\(ou P ⟨b.at a k',L,w⟩->fG P O Fin (b.at a k') L w)ret:∀a w todo,Q .ret a w->ou P ⟨{b.at a todo with mode:=.returning},L,w⟩->fG P O Fin {b.at a todo with mode:=.returning} L w
 goto:∀l a w,¬Q (.goto l) a w
 panic:∀ch a w todo,Q (.panic ch) a w->ou P ⟨{b.at a todo with mode:=.panicking ch},L,w⟩->fG P O Fin {b.at a todo with mode:=.panicking ch} L w
 out:∀a w,¬Q .outgrown a w
def Oz(P:al)(O:ag->List ag->V->(ag->List ag->V->Prop)->Prop)(Fin:Y->V->Prop)(c:eF)(Q:Exit->Act->V->Prop)(a:Act)(w:V):Prop:=∀b k L,ou P ⟨b.at a (.code c::k),L,w⟩->zqk P O Fin b k L Q->fG P O Fin (b.at a (.code c::k)) L w
def fW(i:bK P P' O Fin){k j:ag}{L l:List ag}{w:V}{es:Array bB}(r:ou P ⟨k,L,w⟩)(s:∀T d,dc P k L (World.on w T d)=.next j l (World.on w T d) es [])(h:ou P ⟨j,l,w⟩->fG P O Fin j l w):fG P O Fin k L w:=by refine .mk (λT d=>.inr ⟨_,_,_,_,_,s T d⟩) λT d f c w2 e a b=>?_;rw[s T d]at b;cases b;exact(h ((r.next i.g i.gp (s w.tape w.drawn)).1)).on i.ask T d
def QR(j:bK P P' O Fin){l fr1:ag}{L L1:List ag}{w:V}(r:ou P ⟨l,L,w⟩)(m:∀T d,∃k,dc P l L (World.on w T d)=.next fr1 L1 (World.on w T d) k [])(h:ou P ⟨fr1,L1,w⟩->fG P O Fin fr1 L1 w):fG P O Fin l L w:=by
 have⟨k,s⟩:=m w.tape w.drawn;refine .mk (λT d=>?_) λT d f i w2 e a b=>?_;.have⟨k,h⟩:=m T d;simp_all
 .have⟨k,c⟩:=m T d;rw[c]at b;cases b;exact(h ((r.next j.g j.gp s).1)).on j.ask T d
section rules
variable{Q Q':Exit->Act->V->Prop}{a:Act}{w:V}
variable{c:eF}
def Pu(h:Oz P O Fin c Q a w)(d:∀e a w,Q e a w->Q' e a w):Oz P O Fin c Q' a w:=λb k L r f=>h b k L r ⟨λa w q=>f.normal a w (d _ _ _ q),λi a w q=>f.exit i a w (d _ _ _ q),λa w t q=>f.ret a w t (d _ _ _ q),λl a w q=>f.goto l a w (d _ _ _ q),λg a w t q=>f.panic g a w t (d _ _ _ q),λa w q=>f.out a w (d _ _ _ q)⟩
def zkk(e:bK P P' O Fin)(h:Q .normal a w):Oz P O Fin .skip Q a w:=λb k L f c=>fW e f (λT d=>rfl) λr=>c.normal _ _ h r
def zng(e:bK P P' O Fin)(h:Q .ret a w):Oz P O Fin .ret Q a w:=λb k L f c=>fW e f (λT d=>rfl) λr=>c.ret _ _ _ h r
def zki(g:bK P P' O Fin){i:Nat}(h:Q (.exit i) a w):Oz P O Fin (.exit i) Q a w:=λb k L r c=>by have⟨j,e,f⟩:=c.exit _ _ _ h;exact fW g (es:=#[]) r (λT d=>by simp[dc,zJ,YK,lW,e]) f
def znh(f:bK P P' O Fin){x y:eF}(h:Oz P O Fin x (Cq (Oz P O Fin y Q) Q) a w):Oz P O Fin (.seq x y) Q a w:=λb k L g c=>fW f g (λT d=>rfl) λr=>h b (.code y::k) L r ⟨λa w q e=>q b k L e c,λi a w q=>(c.exit i a w q).imp λm z=>⟨by simpa[vN]using z.1,z.2⟩,λa w t q=>c.ret a w t q,λl a w q=>c.goto l a w q,λj a w t q=>c.panic j a w t q,λa w q=>c.out a w q⟩
def zkg(g:bK P P' O Fin){c:aU}{x y:eF}{t:Bool}(i:a.eval c=.bool t)(h:Oz P O Fin (if t then x else y) Q a w):Oz P O Fin (.cond c x y) Q a w:=λb k L j f=>by have e:=Frame.eval_at b a (.code (.cond c x y)::k) c;refine fW g (es:=#[]) j (λT d=>?_) λr=>h b k L r f;rw[i]at e;unfold dc zJ;simp[lW]at e⊢;rw[e];rfl
def zgd(n:bK P P' O Fin){o:Nat}(h:Oz P O Fin c (Exit.inBlock o Q) a w):Oz P O Fin (.block o c) Q a w:=λb k L p e=>fW n p (λT d=>rfl) λf=>h b (.inBlock o::k) L f ⟨λa w q r=>fW n r (λT d=>rfl) λg=>e.normal a w q g,λi a w q=>by
 by_cases hid:i=o
 .simp[Exit.inBlock,hid,if_true]at q;exact⟨k,by simp[vN,hid],λr=>e.normal a w q r⟩
 .simp[Exit.inBlock,hid,if_false]at q;have⟨s,j,m⟩:=e.exit i a w q;refine⟨s,?_,m⟩;have:(o==i)=H:=Y8;simp[vN,this,j],λa w t q=>e.ret a w t q,λl a w q=>e.goto l a w q,λu a w t q=>e.panic u a w t q,λa w q=>e.out a w q⟩
def JIn(P:al)(O:ag->List ag->V->(ag->List ag->V->Prop)->Prop)(Fin:Y->V->Prop)(c:eF)(Q:Exit->Act->V->Prop)(a:Act)(w:V):Prop:=∀b k L,ou P ⟨b.at a (.code c::.inLoop c::k),L,w⟩->zqk P O Fin b k L Q->fG P O Fin (b.at a (.code c::.inLoop c::k)) L w
def zkj(f:bK P P' O Fin)(h:JIn P O Fin c Q a w):Oz P O Fin (.loop c) Q a w:=λb k L g e=>fW f g (λT d=>rfl) λr=>h b k L r e
def Z1(g:bK P P' O Fin)(h:Oz P O Fin c (Cq (JIn P O Fin c Q) Q) a w):JIn P O Fin c Q a w:=λb k L i e=>h b (.inLoop c::k) L i ⟨λa w q r=>fW g r (λT d=>rfl) λf=>q b k L f e,λj a w q=>(e.exit j a w q).imp λn z=>⟨by simpa[vN]using z.1,z.2⟩,λa w t q=>e.ret a w t q,λl a w q=>e.goto l a w q,λm a w t q=>e.panic m a w t q,λa w q=>e.out a w q⟩
def zim(f:bK P P' O Fin){σ:Type}(I:σ->Act->V->Prop)(μ:σ->Nat)(m:σ)(d:I m a w)(r:∀x a w,I x a w->Oz P O Fin c (Cq (λj k=>∃g,I g j k/\μ g<μ x) Q) a w):JIn P O Fin c Q a w:=by
 have o:∀n x a w,μ x=n->I x a w->JIn P O Fin c Q a w:=by intro n;induction n using Nat.strongRecOn with|_ n i=>
  intro x a w p q;refine Z1 f (Pu (r x a w q) ?_);intro e j k h
  cases e with|normal=>have⟨g,b,l⟩:=h;exact i (μ g) (p▸l) g j k rfl b|_=>exact h
 grind
end rules
def uQ(P:al)(O:ag->List ag->V->(ag->List ag->V->Prop)->Prop)(Fin:Y->V->Prop)(ops:Array bU)(Q:Exit->Act->V->Prop)(l:List Nat)(a:Act)(w:V):Prop:=∀b k L,ou P ⟨b.at a (.inRegion ops l::k),L,w⟩->zqk P O Fin b k L Q->fG P O Fin (b.at a (.inRegion ops l::k)) L w
section ops
variable{Q:Exit->Act->V->Prop}{a:Act}{w:V}{ops:Array bU}{i:Nat}{rest:List Nat}{o:bU}
def zcH(e:bK P P' O Fin){i:Nat}(h:uQ P O Fin ops Q (ku ops.size) a w):Oz P O Fin (.region i ops H) Q a w:=λb k L f c=>fW e f (λT d=>rfl) λr=>h b k L r c
def Ps(e:bK P P' O Fin)(h:Q .normal a w):uQ P O Fin ops Q [] a w:=λb k L f c=>fW e f (λT d=>rfl) λr=>c.normal _ _ h r
def zgc(l:bK P P' O Fin)(n:((ops[i]?).map (ar . (yielded ops a.tmps))).getD H=H)(h:uQ P O Fin ops Q rest (a.put ((ops[i]?).bind (·.dst)) undef) w):uQ P O Fin ops Q (i::rest) a w:=λb k L o c=>by
 refine fW l (es:=#[]) o (λT d=>?_) λr=>h b k L r c;rw[<-dJ];have e:∀(m:ag),m.mode=.run->m.todo=.inRegion ops (i::rest)::k->m.tmps=a.tmps->dc P m L (World.on w T d)=.next (m.finish undef) L (World.on w T d) #[] []:=by intro m f g j;simp[dc,zJ,f,g,j,n,bt,if_false]
 exact e _ rfl rfl rfl
def zh0(P:al)(O:ag->List ag->V->(ag->List ag->V->Prop)->Prop)(Fin:Y->V->Prop)(f:bu)(args:Array Y)(w:V)(R:Y->V->Prop)(a:List fX->V->Prop):Prop:=∀c L,ou P ⟨aF P f args .normal,c::L,w⟩->(∀v w1,R v w1->ou P ⟨c.finish v,L,w1⟩->fG P O Fin (c.finish v) L w1)->(∀b w1,a b w1->ou P ⟨c.raise b,L,w1⟩->fG P O Fin (c.raise b) L w1)->fG P O Fin (aF P f args .normal) (c::L) w
def ou.tail{c:ag}{L:List ag}{j:ag}{w:V}:∀{L0:List ag},ou P ⟨j,L0++c::L,w⟩->ou P ⟨j,L0,w⟩:=by
 intro L0⟨R,g,k,m,b,a,d,e⟩;have:∃L2,IJ P R L0 L2:=by clear b d e;simp  at a;induction L0 generalizing k with|nil=>exact⟨[],aA⟩|cons x l i=>cases k with|nil=>cases a|cons y f=>have⟨L2,h⟩:=i f a.2;exact⟨y::L2,a.1,h⟩
 have⟨L2,h⟩:=this;exact⟨R,g,L2,m,b,h,d,e⟩
def fG.app(p:bK P P' O Fin){F:Y->V->Prop}{q:ag}{L:List ag}{w:V}(h:fG P (λ_ _ _ _=>False) F q L w)(c:ag)(t:List ag):ou P ⟨q,L++c::t,w⟩->(∀v w1,F v w1->ou P ⟨c.finish v,t,w1⟩->fG P O Fin (c.finish v) t w1)->fG P O Fin q (L++c::t) w:=by induction h with
 |@mk q L w ok n i=>
  intro z j;have s:=λT d=>zgg (P:=P) (fr:=q) (L:=L) (w:=World.on w T d) c t;refine .mk (λT d=>?_) λT d x A w1 y u a=>?_
  .rcases ok T d with⟨v,w1,y,a,b⟩|⟨x,A,w1,y,u,a⟩;.simp_all
   .simp_all
  .have r:=(z.next p.g p.gp a).1;rw[s]at a;rcases ok T d with⟨v,w2,e,b,l⟩|⟨m,o,w2,e,f,b⟩;.grind
   .grind|ask S h k i=>cases h
def Sq(a:bK P P' O Fin){f:bu}{args:Array Y}{R:Y->V->Prop}{Pn:List fX->V->Prop}(B:∀v w T d,R v w->R v (World.on w T d))(h:∀T d,Calls P f args (World.on w T d) λe w1=>∃v,e=.returned v/\R v w1):zh0 P O Fin f args w R Pn:=by intro c L b k _;have r:=ou.tail (L0:=[]) b;have t:fG P (λ_ _ _ _=>False) R (aF P f args .normal) [] w:=HD a.g a.gp B r λT d=>Hx a.g a.gp (r.on' T d) (h T d);exact t.app a c L b k
end ops
variable{Q:Exit->Act->V->Prop}{a:Act}{w:V}{ops:Array bU}{i:Nat}{rest:List Nat}{o:bU}
def Gi(e:bK P P' O Fin){l:List Nat}(h:uQ P O Fin ops Q l a w)(T:Nat->c6->Nat)(d:Nat):uQ P O Fin ops Q l a (World.on w T d):=λb k L r c=>(h b k L (r.on' w.tape w.drawn) c).on e.ask T d
def zke(l:bK P P' O Fin)(A:ops[i]?=C o)(D:ar o (yielded ops a.tmps)=E){next:Act->V->Prop}(h:∀T d,o.wp P a (World.on w T d) next (λ_ _ _=>False))(F:∀T d n w1,(aG a.eval o).run P (World.on w T d)=.ok n w1->(∃v,n=.value v)\/n=.skip)(G:∀a w,next a w->uQ P O Fin ops Q rest a w):uQ P O Fin ops Q (i::rest) a w:=by
 intro b k L u p;have f:∀v,(b.at a (.inRegion ops (i::rest)::k)).finish v=b.at (a.put o.dst v) (.inRegion ops rest::k):=by intro v;rw[dJ,A];rfl
 have st:∀T d,∃v w1 y,next (a.put o.dst v) w1/\dc P (b.at a (.inRegion ops (i::rest)::k)) L (World.on w T d)=.next (b.at (a.put o.dst v) (.inRegion ops rest::k)) L w1 y []:=by
  intro T d;have c:=h T d;have e:∀(t:ag),t.mode=.run->t.todo=.inRegion ops (i::rest)::k->t.tmps=a.tmps->dc P t L (World.on w T d)=Ea P t L o (World.on w T d):=by intro t c j q;have m:((C o).map (ar . (yielded ops a.tmps))).getD H=E:=D;simp only[dc,zJ,c,j,q,A,m,if_true]
  rw[e _ rfl rfl rfl];unfold Ea;rw[Bm b a (.inRegion ops (i::rest)::k)];unfold Oper.wp at c;cases u:(aG a.eval o).run P (World.on w T d)with|halt x w1=>rw[u]at c;cases x<;>cases c|ok n w1=>
   rw[u]at c;have I:(aG a.eval o).runT P (World.on w T d) #[]=(.ok n w1,(aG a.eval o).events P (World.on w T d) #[]):=Y7;rw[I];rcases F T d n w1 u with⟨v,rfl⟩|rfl;.exact⟨v,w1,_,c,by simp[f];rfl⟩
   .exact⟨undef,w1,_,c,by simp[f];rfl⟩
 refine .mk (λT d=>?_) λT d J K w1 y B z=>?_
 .have⟨v,w1,y,_,j⟩:=st T d;simp_all
 .have⟨v,w2,s,c,j⟩:=st T d;have r:=(u.next l.g l.gp z).1;rw[j]at z;cases z;exact G _ _ c b k L r p
def VA(g:bK P P' O Fin)(z:ops[i]?=C o)(A:ar o (yielded ops a.tmps)=E){f:bu}{args:Array Y}{R:Y->V->Prop}{l:List fX->V->Prop}(B:∀T d,(aG a.eval o).run P (World.on w T d)=.ok (.enter f args) (World.on w T d))(D:zh0 P O Fin f args w R l)(F:∀v w1,R v w1->uQ P O Fin ops Q rest (a.put o.dst v) w1)(p:∀x w1,l x w1->Q (.panic x) a w1):uQ P O Fin ops Q (i::rest) a w:=by
 intro b k L G m;have h:∀v,(b.at a (.inRegion ops (i::rest)::k)).finish v=b.at (a.put o.dst v) (.inRegion ops rest::k):=by intro v;rw[dJ,z];rfl
 refine QR g (fr1:=aF P f args .normal) (L1:=b.at a (.inRegion ops (i::rest)::k)::L) G (λT d=>?_) λc=>?_
 .refine⟨seen P b.fn ((aG a.eval o).events P (World.on w T d) #[]),?_⟩;have e:∀(u:ag),u.mode=.run->u.todo=.inRegion ops (i::rest)::k->u.tmps=a.tmps->u.eval=a.eval->dc P u L (World.on w T d)=.next (aF P f args .normal) (u::L) (World.on w T d) (seen P u.fn ((aG a.eval o).events P (World.on w T d) #[])) []:=by intro u n q s t;have j:((C o).map (ar . (yielded ops a.tmps))).getD H=E:=A;have y:(aG a.eval o).runT P (World.on w T d) #[]=(.ok (.enter f args) (World.on w T d),(aG a.eval o).events P (World.on w T d) #[]):=Y7;simp only[dc,zJ,n,q,s,z,j,if_true,Ea,t,y]
  exact e _ rfl rfl rfl (Bm b a (.inRegion ops (i::rest)::k))
 .refine D _ L c (λv w1 J r=>?_) λx w1 y r=>m.panic x a w1 _ (p x w1 y) r;rw[h]at r⊢;exact F v w1 J b k L r m
def Z2(j:ops[i]?=C o){R:Y->V->Prop}(q:∀b k L,∃S,O (lW b a (.inRegion ops (i::rest)::k)) L w S/\∀e g w1,S e g w1->g=L/\∃v,e=(lW b a (.inRegion ops (i::rest)::k)).finish v/\R v w1)(n:∀v w1,R v w1->uQ P O Fin ops Q rest (a.put o.dst v) w1):uQ P O Fin ops Q (i::rest) a w:=by
 intro b k L m h;have⟨S,c,d⟩:=q b k L;refine .ask S c λe g w1 s r=>?_;obtain⟨rfl,v,rfl,l⟩:=d e g w1 s;have f:(b.at a (.inRegion ops (i::rest)::k)).finish v=b.at (a.put o.dst v) (.inRegion ops rest::k):=by rw[dJ,j];rfl
 rw[f]at r⊢;exact n v w1 l b k g r h
def zcG(e:bK P P' O Fin)(j:ops[i]?=C o)(l:ar o (yielded ops a.tmps)=E){x:aU}(f:o.op=.panic x)(m:oC x=E)(n:zhO (a.eval x)=E)(q:Q (.panic [{v:=a.eval x,recovered:=H}]) a w):uQ P O Fin ops Q (i::rest) a w:=by intro b k L t h;have⟨S,c,d⟩:=e.pan _ L w _ ⟨b,a,ops,i,rest,k,o,x,rfl,j,l,f,m,rfl,n⟩;refine .ask S c λg p w1 s r=>?_;obtain⟨rfl,rfl,rfl⟩:=d g p w1 s;exact h.panic _ a w1 _ q r
end
end Rn
end Go.Proofs.YtelohkknmgaacaaGreatDoor
