/-
  Related runs of a ghost and of a goroutine in company (part 1). No condition.
-/
import Derived.Calls
import Derived.Conc.Own
import Derived.WalkKit
import Derived.KernelRfl
import GoSem.Step
import Derived.RunT
import Derived.Conc.Listed
set_option linter.unusedSimpArgs false
set_option linter.unusedVariables false
set_option linter.unusedSectionVars false
set_option maxRecDepth 100000
set_option maxHeartbeats 16000000
open Array renaming getElem?_eq_some_iff→ah,getElem?_setIfInBounds→bC,getElem?_modify→du,getElem?_push_lt→ij,getElem?_eq_getElem→bj,getElem?_push→bJ,getElem?_append→kl,all_eq_true_iff_forall_mem→aT,mem_of_getElem?→df,mapM_eq_foldlM→gm,foldlM_toList→iq,range→iU,getElem?_map→kg,eq_empty_of_size_eq_zero→q9,getD_eq_getD_getElem?→bS
open Bool renaming and_eq_true→aE,not_eq_true'→kP,or_eq_true→iv,false_eq_true→ca
open Go renaming Addr→cr,Value→aj,IntKind→cZ,FuncId→ck,TypeId→au,MapEntry→eI,Program→aG,Question→dP,World→ai,Event→bT,typeInfo→dQ,sizeOf→jl,isAgg→qz,zeroValue→ee,loadCellsFrom→jM,loadVar→et,newRow→yM,runtimePanic→cV,asIntOf→nO,asAddr→qF,Operand→bp,TypeDesc→ia,TypeInfo→lx,numberAt→Hn,behindNumber→iO,cellAtBytes→lP,movedNumber→vJ,BinOp→lu,eqGuard→jG,Func→fI,CommCase→oz,Deferred→eH,CommShape→mq,callFunc→fJ,callMethod→Ff,Oper→di,execOp→bd,Item→qD,Frame→aB,MemAct→jX,commResult→qR,Frame.enter→aU,exitTo→tN,ResultVar→mz,stepG→bU,stepG.apply→dR,callDeferred→l6,Goroutine→aI,step_lone_go→fR,step_lone_ended→sQ
open Go.Builtin renaming firstCells→uL,lenOf→DT,zeroCells→m7,holdsCells→uM,append_→oO,unsafeAdd_→gf,len_→kJ,min2→s9,min_→zk,ssaWrapNilChk_→qn,close_→lC
open Go.Conc renaming mem_seen→DU
open Go.Frame renaming raise→kF,catches→wK
open Go.GStep renaming after→dE
open Go.Goroutine renaming finishComm→sn
open Go.Instr renaming sureAddr→bZ,loadAt→eY,storeAt→lf,alloc→Be,fill→eJ,field→vD,index→kG,extract→mI,makeInterface→jD,sliceBound→jQ,sliceBounds→fy,slice→nI,sliceAt→iQ,indexAt→iP,findNow→lb,findKey→oE,checkKey→nK,mapUpdate→mo,lookup→ta,build→iV,buildSlice→lE,makeMap→DX,makeChan→uu,makeSlice→zS,typeAssert→qU,fieldAt→k9
open Go.IntKind renaming i64→aL
open Go.Made renaming infoAt→pz
open Go.Next renaming value→lZ
open Go.Op renaming equalIn→zFO,addrMod→y7,shift→xk,intDiv→qI,eqGuardIn→td,maxDepth→vE,equal→rQ
open Go.Question renaming forced→ix
open Go.Region renaming wanted→aR
open Go.Result renaming andThen→ie
open Go.Result.ok renaming injEq→fT
open Go.Stepped.next renaming injEq→l9
open Go.Value renaming pointer→oG
open Go.stepG renaming exec→eK
open List renaming size_toArray→jg,getElem?_toArray→dG,map_cons→dC,foldlM_nil→zV,foldlM_cons→iE,getElem?_cons_zero→bE,map_toArray→lF,map_nil→pZ,range→oY,mem_cons→bF,mem_cons_of_mem→iX,not_mem_nil→cf
open List.cons renaming injEq→iw,inj→D2
open Nat renaming le_refl→aA,le_trans→bD,lt_of_lt_of_le→aY,add_assoc→gT,zero_le→bw,mod_lt→nD,testBit→nJ
open Option renaming map_some→cO,getD_some→cS,bind_some→lG,map_eq_some_iff→aN
open Option.some renaming injEq→aF
open Prod.mk renaming injEq→bz
open Pure renaming pure→bN
open Bool renaming true→ae,false→aa
open Option renaming some→ab,none→ak
namespace Go.Proofs.YtdpfknhenjngcaaGreatDoor
theorem gK{p:Prop}(h:p:=by kernel_rfl):p:=h
theorem gO{p:Prop}(h:p:=by first|omega|(simp;done)|(simp;omega)):p:=h
theorem aM{a b:Prop}(h:a)(k:b):a/\b:=⟨h,k⟩
theorem JR{a b:Prop}(h:a/\b):b:=h.2
theorem ao{α:Sort _}{p:α->Prop}(x:α)(h:p x):Exists p:=⟨x,h⟩
theorem Cu{p:Prop}:p<->p:=⟨id,id⟩
theorem dr{α:Sort _}{a b:α}(h:a≠b):b≠a:=λ e=>h e.symm
theorem aV:True:=trivial
namespace Rn
open Go
abbrev BR:=Nat->Nat->Nat->Prop
def BR.le(R S:BR):Prop:=∀a b l,R a b l->S a b l
def BR.ext(R:BR)(n m:Nat):BR:=λ a b l=>R a b l\/(a=n/\b=m/\l=0)
theorem BR.le_refl(R:BR):R.le R:=λ _ _ _ h=>h
variable{R S:BR}
theorem BR.le_trans{T:BR}(h:R.le S)(k:S.le T):R.le T:=λ a b l x=>k a b l (h a b l x)
theorem BR.Wy(R:BR)(n m:Nat):R.le (R.ext n m):=λ _ _ _ h=>.inl h
def AR(R:BR)(a a':cr):Prop:=(∃l,R a.block a'.block l/\l-1<=a.off)/\a.off=a'.off/\a.spot=a'.spot
def OA(R:BR):Option cr->Option cr->Prop
 |none,ak=>True
 |some a,ab a'=>AR R a a'
 |_,_=>False
def ON(R:BR):Option Nat->Option Nat->Prop
 |none,ak=>True
 |some a,ab a'=>∃l,R a a' l
 |_,_=>False
theorem AR.mono(h:R.le S){a a':cr}(x:AR R a a'):AR S a a':=⟨let ⟨l,r,e⟩:=x.1;⟨l,h _ _ _ r,e⟩,x.2⟩
theorem OA.mono{R S:BR}(h:R.le S):{a a':Option cr}->OA R a a'->OA S a a'
 |none,ak,_=>trivial
 |some _,ab _,x=>AR.mono h x
theorem ON.mono(h:R.le S):{a a':Option Nat}->ON R a a'->ON S a a'
 |none,ak,_=>trivial
 |some _,ab _,x=>let ⟨l,r⟩:=x;⟨l,h _ _ _ r⟩
inductive VR(R:BR):aj->aj->Prop
 |bool (b:Bool):VR R (.bool b) (.bool b)
 |int (k:cZ) (n:Int):VR R (.int k n) (.int k n)
 |string (s:ByteArray):VR R (.string s) (.string s)
 |pointer {a a':Option cr} (h:OA R a a'):VR R (.pointer a) (.pointer a')
 |slice {a a':Option cr} (l c:Nat) (h:OA R a a'):VR R (.slice a l c) (.slice a' l c)
 |map {r r':Option Nat} (h:ON R r r'):VR R (.map r) (.map r')
 |chan {r r':Option Nat} (h:ON R r r'):VR R (.chan r) (.chan r')
 |func (f:ck) {x x' y y':Array aj} (hx:x.size=x'.size) (h:∀(i:Nat) (v v':aj),x[i]?=ab v->x'[i]?=ab v'->VR R v v')
   (hy:y.size=y'.size) (h':∀(i:Nat) (v v':aj),y[i]?=ab v->y'[i]?=ab v'->VR R v v'):VR R (.func (.func f) x y) (.func (.func f) x' y')
 |nilFunc:VR R .nilFunc .nilFunc
 |iface (t:au) {v v':aj} (h:VR R v v'):VR R (.iface t v) (.iface t v')
 |nilIface:VR R .nilIface .nilIface
 |agg {x x':Array aj} (hx:x.size=x'.size) (h:∀(i:Nat) (v v':aj),x[i]?=ab v->x'[i]?=ab v'->VR R v v'):VR R (.agg x) (.agg x')
 |tuple {x x':Array aj} (hx:x.size=x'.size) (h:∀(i:Nat) (v v':aj),x[i]?=ab v->x'[i]?=ab v'->VR R v v'):VR R (.tuple x) (.tuple x')
structure AV(R:BR)(x x':Array aj):Prop where
 size:x.size=x'.size
 at_:∀(i:Nat) (v v':aj),x[i]?=ab v->x'[i]?=ab v'->VR R v v'
theorem VR.mono{R S:BR}(h:R.le S){v v':aj}(x:VR R v v'):VR S v v':=by
 induction x with
 |bool b=>exact .bool b
 |int k n=>exact .int k n
 |string s=>exact .string s
 |pointer ha=>exact .pointer (ha.mono h)
 |slice l c ha=>exact .slice l c (ha.mono h)
 |map ha=>exact .map (ha.mono h)
 |chan ha=>exact .chan (ha.mono h)
 |func f hx _ hy _ i1 i2=>exact .func f hx i1 hy i2
 |nilFunc=>exact .nilFunc
 |iface t _ i=>exact .iface t i
 |nilIface=>exact .nilIface
 |agg hx _ i=>exact .agg hx i
 |tuple hx _ i=>exact .tuple hx i
theorem AV.mono{R S:BR}(h:R.le S){x x':Array aj}(k:AV R x x'):AV S x x':=⟨k.size,λ i v v' a b=>(k.at_ i v v' a b).mono h⟩
structure ME(R:BR)(e e':eI):Prop where
 key:VR R e.key e'.key
 val:VR R e.val e'.val
 born:e.born=e'.born
structure EA(R:BR)(x x':Array eI):Prop where
 size:x.size=x'.size
 at_:∀(i:Nat) (v v':eI),x[i]?=ab v->x'[i]?=ab v'->ME R v v'
theorem EA.mono{R S:BR}(h:R.le S){x x':Array eI}(k:EA R x x'):EA S x x':=
 ⟨k.size,λ i v v' a b=>let m:=k.at_ i v v' a b;⟨m.key.mono h,m.val.mono h,m.born⟩⟩
def sF:au:=1000000
inductive OR(R:BR)(l:Nat):Obj->Obj->Prop
 |cells {c c':Array aj} {elem UG:au} {f f':Nat×Nat} (he:(UG=elem/\l=0)\/(elem=sF/\l≠0)) (hs:c.size<=c'.size) (h:∀(i:Nat) (v v':aj),l-1<=i->c[i]?=ab v->c'[i]?=ab v'->VR R v v')
   (hf:f'=f\/∀i,i<c.size->f.1<=i/\i<f.2):OR R l (.cells c elem f) (.cells c' UG f')
 |map {es es':Array eI} (clock:Nat) (h:EA R es es'):OR R l (.map es clock) (.map es' clock)
 |chan (cap:Nat) {b b':Array aj} (closed:Bool) (s r:Nat) (tm:Bool) (h:AV R b b'):OR R l (.chan cap b closed s r tm) (.chan cap b' closed s r tm)
 |number {a a':cr} (lost:Bool) (h:AR R a a'):OR R l (.number a lost) (.number a' lost)
theorem OR.mono{R S:BR}(h:R.le S){l:Nat}{o o':Obj}(x:OR R l o o'):OR S l o o':=by
 cases x with
 |cells he hs ha hf=>exact .cells he hs (λ i v v' a b c=>(ha i v v' a b c).mono h) hf
 |map k ha=>exact .map k (ha.mono h)
 |chan cap c s r tm ha=>exact .chan cap c s r tm (ha.mono h)
 |number lost ha=>exact .number lost (ha.mono h)
theorem OR.row{x x':Array aj}(h:AV R x x')(e:au):OR R 0 (.cells x e) (.cells x' e):=.cells (.inl ⟨rfl,rfl⟩) (Nat.le_of_eq h.size) (λ i v v' _ a b=>h.at_ i v v' a b) (.inl rfl)
def V9:Halt->Bool
 |.panic _|.stuck _=>ae
 |.unsupported (.initOrder _)=>aa
 |.unsupported _=>ae
 |_=>aa
inductive dg(P:aG){α:Type}:Sem α->Prop
 |halt {h:Halt} (hm:V9 h=ae):dg P (.halt h)
 |load {m:Mode} {a:cr} {k:aj->Sem α} (hk:∀v,dg P (k v)):dg P (.load m a k)
 |store {m:Mode} {a:cr} {v:aj} {k:Sem α} (hk:dg P k):dg P (.store m a v k)
 |new {c:Array aj} {e:au} {f:Nat×Nat} {k:Nat->Sem α} (hk:∀n,dg P (k n)):dg P (.new (.cells c e f) k)
 |shape {r:Nat} {k:Option (au×Nat)->Sem α} (hk:∀n,dg P (k n)):dg P (.shape r k)
 |frozen {a:cr} {k:Bool->Sem α} (hk:∀n,dg P (k n)):dg P (.frozen a k)
 |getObj {r:Nat} {k:Obj->Sem α} (hk:∀n,dg P (k n)):dg P (.getObj r k)
 |choose {q:dP} {k:Nat->Sem α} (hk:∀n,dg P (k n)):dg P (.choose q k)
 |program {k:aG->Sem α} (hk:dg P (k P)):dg P (.program k)
 |mark {m:Mark} {k:Sem α} (hk:dg P k):dg P (.mark m k)
theorem dg.bind{P:aG}{α β:Type}{s:Sem α}(h:dg P s)(f:α->Sem β):dg P (s.bind f):=by
 induction h with
 |halt h=>exact .halt h
 |load _ i=>exact .load i
 |store _ i=>exact .store i
 |new _ i=>exact .new i
 |shape _ i=>exact .shape i
 |frozen _ i=>exact .frozen i
 |getObj _ i=>exact .getObj i
 |choose _ i=>exact .choose i
 |program _ i=>exact .program i
 |mark _ i=>exact .mark i
theorem dg.JM{P: aG}{α: Type}{s : Sem α}(h : dg P s) : ∀ (w : ai) (es : Array bT) (a : α) (w1 : ai) (ik : Array bT), s.runT P w es ≠ (.ok a w1, ik) := by
  induction h with
  | halt h => intro w es a w1 ik; simp [Sem.runT]
  | load _ i =>
    intro w es a w1 ik
    simp only [Sem.runT]
    split
    · exact i _ _ _ _ _ _
    · split
      · exact i _ _ _ _ _ _
      · simp
  | @store m ad v k _ i =>
    intro w es a w1 ik
    cases v <;> simp only [Sem.runT] <;> first
      | (simp; done)
      | (split
         · split
           · simp
           · exact i _ _ _ _ _
         · split
           · exact i _ _ _ _ _
           · simp)
  | new _ i => intro w es a w1 ik; exact i _ _ _ _ _ _
  | shape _ i => intro w es a w1 ik; exact i _ _ _ _ _ _
  | frozen _ i => intro w es a w1 ik; exact i _ _ _ _ _ _
  | getObj _ i =>
    intro w es a w1 ik
    simp only [Sem.runT]
    split
    · simp
    · exact i _ _ _ _ _ _
    · simp
  | choose _ i =>
    intro w es a w1 ik
    simp only [Sem.runT]
    split
    · exact i _ _ _ _ _ _
    · exact i _ _ _ _ _ _
  | program _ i => intro w es a w1 ik; exact i _ _ _ _ _
  | mark _ i => intro w es a w1 ik; exact i _ _ _ _ _
def Mark.bare:Mark->Bool
 |.acquire _|.release _|.releaseMerge _|.disable|.enable|.read _|.write _=>aa
 |_=>ae
def SH(l:Nat):Option (au×Nat)->Option (au×Nat)->Prop
 |none,ak=>True
 |some (e,n),ab (e',m)=>(e'=e/\n<=m/\l=0)\/(e=sF/\l≠0)
 |_,_=>False
inductive SR(P P':aG){α β:Type}(A:BR->α->β->Prop):BR->Sem α->Sem β->Prop
 |pure {R:BR} {a:α} {b:β} (h:A R a b):SR P P' A R (.pure a) (.pure b)
 |load {R:BR} (m:Mode) {a a':cr} {k:aj->Sem α} {k':aj->Sem β} (h:AR R a a') (hk:∀v v',VR R v v'->SR P P' A R (k v) (k' v')):SR P P' A R (.load m a k) (.load m a' k')
 |store {R:BR} (m:Mode) {a a':cr} {v v':aj} {k:Sem α} {k':Sem β} (h:AR R a a') (hv:VR R v v') (hk:SR P P' A R k k'):SR P P' A R (.store m a v k) (.store m a' v' k')
 |new {R:BR} {o o':Obj} {k:Nat->Sem α} {k':Nat->Sem β} (ho:OR R 0 o o') (hk:∀n n',SR P P' A (R.ext n n') (k n) (k' n')):SR P P' A R (.new o k) (.new o' k')
 |shape {R:BR} {r r' l:Nat} {k:Option (au×Nat)->Sem α} {k':Option (au×Nat)->Sem β} (h:R r r' l) (hk:∀x x',SH l x x'->SR P P' A R (k x) (k' x')):SR P P' A R (.shape r k) (.shape r' k')
 |getObj {R:BR} {r r' l:Nat} {k:Obj->Sem α} {k':Obj->Sem β} (h:R r r' l) (hk:∀o o',OR R l o o'->SR P P' A R (k o) (k' o')):SR P P' A R (.getObj r k) (.getObj r' k')
 |setObj {R:BR} {r r' l:Nat} {o o':Obj} {k:Sem α} {k':Sem β} (h:R r r' l) (ho:∀m,OR R m o o') (hk:SR P P' A R k k'):SR P P' A R (.setObj r o k) (.setObj r' o' k')
 |choose {R:BR} (q:dP) {k:Nat->Sem α} {k':Nat->Sem β} (hk:∀n,SR P P' A R (k n) (k' n)):SR P P' A R (.choose q k) (.choose q k')
 |program {R:BR} {k:aG->Sem α} {k':aG->Sem β} (hk:SR P P' A R (k P) (k' P')):SR P P' A R (.program k) (.program k')
 |mark {R:BR} {m:Mark} {k:Sem α} {k':Sem β} (hm:Mark.bare m=ae) (hk:SR P P' A R k k'):SR P P' A R (.mark m k) (.mark m k')
 |dead {R:BR} {s:Sem α} {s':Sem β} (h:dg P s):SR P P' A R s s'
section
variable{P P':aG}{α β γ δ:Type}{A:BR->α->β->Prop}{B:BR->γ->δ->Prop}
theorem SR.bind{R:BR}{s:Sem α}{s':Sem β}(h:SR P P' A R s s'):∀{f:α->Sem γ} {f':β->Sem δ},(∀S a b,R.le S->A S a b->SR P P' B S (f a) (f' b))->SR P P' B R (s.bind f) (s'.bind f'):=by
 induction h with
 |pure h=>intro f f' k;exact k _ _ _ (BR.le_refl _) h
 |load m h _ i=>intro f f' k;exact .load m h λ v v' hv=>i v v' hv k
 |store m h hv _ i=>intro f f' k;exact .store m h hv (i k)
 |new ho _ i=>intro f f' k;exact .new ho λ n n'=>i n n' λ S a b hS hA=>k S a b (BR.le_trans (BR.Wy _ _ _) hS) hA
 |shape h _ i=>intro f f' k;exact .shape h λ x x' hx=>i x x' hx k
 |getObj h _ i=>intro f f' k;exact .getObj h λ o o' ho=>i o o' ho k
 |setObj h ho _ i=>intro f f' k;exact .setObj h ho (i k)
 |choose q _ i=>intro f f' k;exact .choose q λ n=>i n k
 |program _ i=>intro f f' k;exact .program (i k)
 |mark hm _ i=>intro f f' k;exact .mark hm (i k)
 |dead h=>intro f f' k;exact .dead (h.bind f)
end
def WC:Obj->Prop
 |.cells ..|.map ..|.chan ..|.number ..=>True
 |_=>False
def Fz(w:ai)(a:Nat):Prop:=∃c elem f,w.heap[a]?=ab (.cells c elem f)/\∀i,i<c.size->f.1<=i/\i<f.2
structure HR(R:BR)(w w':ai):Prop where
 inj:∀a a' b b' l m,R a a' l->R b b' m->(a=b->a'=b')/\(a'=b'->a=b\/(Fz w a/\Fz w b))
 obj:∀a a' l,R a a' l->∃o o',w.heap[a]?=ab o/\w'.heap[a']?=ab o'/\OR R l o o'
 kinds:∀(b:Nat) (o:Obj),w.heap[b]?=ab o->WC o
def TA(k:Nat)(w w':ai):Prop:=∀j q,j<k->w.tape (w.drawn+j) q=w'.tape (w'.drawn+j) q
structure KP(R:BR)(w w':ai)(R1:BR)(w1 wi:ai):Prop where
 le:R.le R1
 size:w.heap.size<=w1.heap.size
 DS:wi.heap.size=w'.heap.size+(w1.heap.size-w.heap.size)
 new:∀a a' l,R1 a a' l->R a a' l\/∃k,a=w.heap.size+k/\a'=w'.heap.size+k/\a<w1.heap.size
 all:∀k,w.heap.size+k<w1.heap.size->R1 (w.heap.size+k) (w'.heap.size+k) 0
 rest:∀b',b'<w'.heap.size->(∀a l,¬R a b' l)->wi.heap[b']?=w'.heap[b']?
 fz:∀a a' l,R a a' l->Fz w a->w1.heap[a]?=w.heap[a]?/\wi.heap[a']?=w'.heap[a']?
 os:wi.os=w'.os
 output:wi.output=w'.output
 tape:wi.tape=w'.tape
 osL:w1.os=w.os
 zdB:w1.output=w.output
 zhu:w1.tape=w.tape
 drawn:w.drawn<=w1.drawn
 zhQ:wi.drawn=w'.drawn+(w1.drawn-w.drawn)
def Sx(R:BR)(w:ai)(R1:BR)(e:bT):Prop:=
 match e.loc with
 |.cell a=>(∃b l,R1 b a.block l/\(e.write=ae->¬(∃a' m,R b a' m/\Fz w b)))
 |.obj r=>(∃b l,R1 b r l/\(e.write=ae->¬(∃a' m,R b a' m/\Fz w b)))
 |.mark m=>Mark.bare m=ae
 |_=>False
theorem KP.refl(R:BR)(w w':ai):KP R w w' R w w':=⟨BR.le_refl _,aA _,by omega,λ _ _ _ h=>.inl h,λ k hk=>by omega,λ _ _ _=>rfl,λ _ _ _ _ _=>⟨rfl,rfl⟩,rfl,rfl,rfl,rfl,rfl,rfl,aA _,by omega⟩
variable{w w':ai}{l:Nat}
theorem HR.lt{R:BR}(h:HR R w w'){a a':Nat}(r:R a a' l):a<w.heap.size/\a'<w'.heap.size:=by
 obtain⟨o,o',h1,h2,_⟩:=h.obj a a' l r
 exact⟨(ah.1 h1).1,(ah.1 h2).1⟩
theorem KP.trans{R R1 R2:BR}{w w' w1 wi w2 AJ:ai}(h:KP R w w' R1 w1 wi)(k:KP R1 w1 wi R2 w2 AJ)(hl:∀a a' l,R a a' l->a<w.heap.size/\a'<w'.heap.size):KP R w w' R2 w2 AJ:=by
 have s1:=h.size
 have s2:=k.size
 have s3:=h.DS
 have s4:=k.DS
 refine⟨BR.le_trans h.le k.le,bD h.size k.size,by omega,?_,?_,?_,?_,k.os.trans h.os,k.output.trans h.output,k.tape.trans h.tape,k.osL.trans h.osL,k.zdB.trans h.zdB,k.zhu.trans h.zhu,bD h.drawn k.drawn,?_⟩
 ·intro a a' l r
  rcases k.new a a' l r with r|⟨j,r1,r2,r3⟩
  ·rcases h.new a a' l r with r|⟨j,r1,r2,r3⟩
   ·exact .inl r
   ·exact .inr ⟨j,r1,r2,by omega⟩
  ·exact .inr ⟨w1.heap.size-w.heap.size+j,by omega,by omega,r3⟩
 ·intro j hj
  by_cases hk:w.heap.size+j<w1.heap.size
  ·exact k.le _ _ _ (h.all j hk)
  ·have:=k.all (w.heap.size+j-w1.heap.size) (by omega)
   rw[show w1.heap.size+(w.heap.size+j-w1.heap.size)=w.heap.size+j by omega,show wi.heap.size+(w.heap.size+j-w1.heap.size)=w'.heap.size+j by omega] at this
   exact this
 ·intro b' hb hn
  rw[k.rest b' (by omega) ?_,h.rest b' hb hn]
  intro a l r
  rcases h.new a b' l r with r|⟨j,_,r2,_⟩
  ·exact hn a l r
  ·omega
 ·intro a a' l r f
  obtain⟨e1,e2⟩:=h.fz a a' l r f
  have f1:Fz w1 a:=by
   obtain⟨c,elem,fr,x,y⟩:=f
   exact⟨c,elem,fr,e1.trans x,y⟩
  obtain⟨d1,d2⟩:=k.fz a a' l (h.le _ _ _ r) f1
  exact⟨d1.trans e1,d2.trans e2⟩
 ·have:=h.drawn
  have:=k.drawn
  have:=h.zhQ
  have:=k.zhQ
  omega
variable{w1:ai}
theorem Sx.later{R R1 R2:BR}{wi:ai}(h:KP R w w' R1 w1 wi){e:bT}(k:Sx R1 w1 R2 e):Sx R w R2 e:=by
 obtain⟨loc,wr,sy⟩:=e
 have key:∀b,(wr=ae->¬(∃a' m,R1 b a' m/\Fz w1 b))->(wr=ae->¬(∃a' m,R b a' m/\Fz w b)):=by
  intro b hb hw ⟨a',m,r,f⟩
  refine hb hw ⟨a',m,h.le _ _ _ r,?_⟩
  obtain⟨e1,_⟩:=h.fz b a' m r f
  obtain⟨c,elem,fr,x,y⟩:=f
  exact⟨c,elem,fr,e1.trans x,y⟩
 cases loc with
 |cell a=>obtain⟨b,l,r,hb⟩:=k;exact⟨b,l,r,key b hb⟩
 |obj a=>obtain⟨b,l,r,hb⟩:=k;exact⟨b,l,r,key b hb⟩
 |mark m=>exact k
 |output=>exact k
 |goroutines=>exact k
theorem Sx.wider{R R1 R2:BR}(h:R1.le R2){e:bT}(k:Sx R w R1 e):Sx R w R2 e:=by
 obtain⟨loc,wr,sy⟩:=e
 cases loc with
 |cell a=>obtain⟨b,l,r,hb⟩:=k;exact⟨b,l,h _ _ _ r,hb⟩
 |obj a=>obtain⟨b,l,r,hb⟩:=k;exact⟨b,l,h _ _ _ r,hb⟩
 |mark m=>exact k
 |output=>exact k
 |goroutines=>exact k
theorem HR.cell{R:BR}{w w':ai}(h:HR R w w'){a a':cr}(ha:AR R a a'){v:aj}(hv:w.cell? a=ab v):∃v',w'.cell? a'=ab v'/\VR R v v':=by
 obtain⟨b,off,spot⟩:=a
 obtain⟨b',MZ,zvZ⟩:=a'
 obtain⟨⟨l,r,hl⟩,rfl,rfl⟩:=ha
 obtain⟨o,o',h1,h2,ho⟩:=h.obj _ _ _ r
 simp only[World.cell?] at hv ⊢
 simp only[h1] at hv
 simp only[h2]
 cases ho with
 |map k e=>simp at hv
 |chan=>simp at hv
 |number=>simp at hv
 |@cells c c' elem UG f f' _ hs hc hf=>
  simp only at hv ⊢
  split at hv
  ·cases hv
  ·rename_i hsp
   rw[if_neg hsp]
   have cj:off<c.size:=(ah.1 hv).1
   have zgc:off<c'.size:=aY cj hs
   refine⟨c'[off],by simp[zgc],hc off v _ hl hv (by simp[zgc])⟩
theorem HR.shape{R:BR}{w w':ai}(h:HR R w w'){a a' l:Nat}(r:R a a' l):SH l (w.shape? a) (w'.shape? a'):=by
 obtain⟨o,o',h1,h2,ho⟩:=h.obj _ _ _ r
 simp only[World.shape?,h1,h2]
 cases ho with
 |map k e=>trivial
 |chan=>trivial
 |number=>trivial
 |cells he hs hc hf=>exact he.elim (λ x=>.inl ⟨x.1,hs,x.2⟩) .inr
theorem TA.add{k n:Nat}{wi:ai}(h:TA n w w')(t:w1.tape=w.tape)(t':wi.tape=w'.tape)(d:w1.drawn=w.drawn+k)(d':wi.drawn=w'.drawn+k):TA (n-k) w1 wi:=by
 intro j q hj
 rw[t,t',d,d',gT,gT]
 exact h (k+j) q (by omega)
theorem TA.mono{k n:Nat}(h:TA n w w')(hk:k<=n):TA k w w':=λ j q hj=>h j q (by omega)
variable{α β:Type}
def Out(P':aG)(A:BR->α->β->Prop)(R:BR)(w w':ai)(s':Sem β)(es':Array bT)(a:α)(w1:ai):Prop:=
 ∃b wi es2 R1,s'.runT P' w' es'=(.ok b wi,es'++es2)/\A R1 a b/\HR R1 w1 wi/\KP R w w' R1 w1 wi/\∀e∈es2,Sx R w R1 e
variable{P':aG}
theorem Out.step{A:BR->α->β->Prop}{R Rm:BR}{wm wm':ai}{s' t':Sem β}{es' em:Array bT}{a:α}
  (hr:HR R w w') (kp:KP R w w' Rm wm wm') (sC:∀e∈em,Sx R w Rm e) (hs:s'.runT P' w' es'=t'.runT P' wm' (es'++em))
  (h:Out P' A Rm wm wm' t' (es'++em) a w1):Out P' A R w w' s' es' a w1:=by
 obtain⟨b,wi,es2,R1,h1,h2,h3,h4,h5⟩:=h
 refine⟨b,wi,em++es2,R1,by rw[hs,h1,Array.append_assoc],h2,h3,kp.trans h4 (λ _ _ _ r=>hr.lt r),?_⟩
 intro e he
 rcases Array.mem_append.1 he with he|he
 ·exact(sC e he).wider h4.le
 ·exact(h5 e he).later kp
variable{P:aG}{a a':cr}
theorem zbf{R:BR}(h:HR R w w')(ha:AR R a a')(b:Bool):∃why,w.farLoad P a b=.error (.stuck why):=by
 obtain⟨⟨l,r,_⟩,_⟩:=ha
 obtain⟨o,o',h1,h2,ho⟩:=h.obj _ _ _ r
 cases ho<;>exact⟨_,by simp only[World.farLoad,World.noCell,h1];rfl⟩
theorem WZ{R:BR}(h:HR R w w')(ha:AR R a a')(v:aj)(b:Bool):∃why,w.farStore P a v b=.error (.stuck why):=by
 obtain⟨⟨l,r,_⟩,_⟩:=ha
 obtain⟨o,o',h1,h2,ho⟩:=h.obj _ _ _ r
 cases ho<;>exact⟨_,by simp only[World.farStore,World.noCell,h1];rfl⟩
variable{v v':aj}
theorem AV.set{R:BR}{x x':Array aj}(h:AV R x x')(i:Nat)(hv:VR R v v'):AV R (x.setIfInBounds i v) (x'.setIfInBounds i v'):=by
 refine⟨by simp[h.size],?_⟩
 intro j u u' hu mS
 rw[bC] at hu mS
 by_cases e:i=j
 ·subst e
  rw[if_pos rfl] at hu mS
  split at hu
  ·split at mS
   ·cases hu;cases mS;exact hv
   ·cases mS
  ·cases hu
 ·rw[if_neg e] at hu mS
  exact h.at_ j u u' hu mS
theorem Fx{R:BR}(hr:HR R w w')(ha:AR R a a')(hv:VR R v v'){u:aj}(hc:w.cell? a=ab u)(hf:w.frozen? a=aa):
  w'.frozen? a'=aa/\HR R (w.setCell a v) (w'.setCell a' v')/\KP R w w' R (w.setCell a v) (w'.setCell a' v')/\¬(∃x m,R a.block x m/\Fz w a.block):=by
 obtain⟨b,off,spot⟩:=a
 obtain⟨b',MZ,zvZ⟩:=a'
 obtain⟨⟨l,r,hl⟩,rfl,rfl⟩:=ha
 obtain⟨o,o',h1,h2,ho⟩:=hr.obj _ _ _ r
 simp only[World.cell?] at hc
 simp only[h1] at hc
 cases ho with
 |map k e=>simp at hc
 |chan=>simp at hc
 |number=>simp at hc
 |@cells c c' elem UG f f' hel hsz hcc hff=>
  simp only at hc
  have hs:spot.isSome=aa:=by
   by_cases hs:spot.isSome=ae
   ·rw[if_pos hs] at hc;cases hc
   ·simpa using hs
  have cj:off<c.size:=by
   rw[if_neg (by simp[hs])] at hc
   exact(ah.1 hc).1
  have hb:b<w.heap.size:=(ah.1 h1).1
  have Uy:b'<w'.heap.size:=(ah.1 h2).1
  have hnf:¬(f.1<=off/\off<f.2):=by
   intro hx
   simp only[World.frozen?,h1] at hf
   simp[hx.1,hx.2] at hf
  have zuA:f'=f:=hff.resolve_right λ e=>hnf (e off cj)
  have hnz:¬Fz w b:=by
   rintro⟨d,e2,g,hd,hall⟩
   rw[h1] at hd
   cases hd
   exact hnf (hall off cj)
  have e1:∀(k:Nat),(w.setCell ⟨b,off,spot⟩ v).heap[k]?=if b=k then ab (.cells (c.setIfInBounds off v) elem f) else w.heap[k]?:=by
   intro k
   simp only[World.setCell,du]
   split
   ·rename_i hk
    subst hk
    simp[h1,hs]
   ·rfl
  have e2:∀(k:Nat),(w'.setCell ⟨b',off,spot⟩ v').heap[k]?=if b'=k then ab (.cells (c'.setIfInBounds off v') UG f') else w'.heap[k]?:=by
   intro k
   simp only[World.setCell,du]
   split
   ·rename_i hk
    subst hk
    simp[h2,hs]
   ·rfl
  have fzk:∀k,Fz w k->Fz (w.setCell ⟨b,off,spot⟩ v) k:=λ k hk=>by
   have fh:¬b=k:=λ x=>hnz (x▸hk)
   obtain⟨x,y,z,h,hall⟩:=hk
   exact⟨x,y,z,by rw[e1,if_neg fh];exact h,hall⟩
  refine⟨?_,⟨λ _ _ _ _ _ _ r s=>⟨(hr.inj _ _ _ _ _ _ r s).1,λ e=>((hr.inj _ _ _ _ _ _ r s).2 e).imp id λ z=>⟨fzk _ z.1,fzk _ z.2⟩⟩,?_,?_⟩,⟨BR.le_refl _,by simp[World.setCell],by simp[World.setCell],λ _ _ _ h=>.inl h,λ k hk=>by simp[World.setCell] at hk<;>omega,?_,?_,rfl,rfl,rfl,rfl,rfl,rfl,aA _,by simp[World.setCell]⟩,λ⟨_,_,_,z⟩=>hnz z⟩
  ·simp only[World.frozen?,h2]
   rw[zuA]
   simpa using hnf
  ·intro k k' m rk
   by_cases e:b=k
   ·have e':b'=k':=(hr.inj _ _ _ _ _ _ r rk).1 e
    subst e e'
    obtain⟨x,x',y,y',z⟩:=hr.obj _ _ _ rk
    rw[h1] at y;rw[h2] at y'
    cases y;cases y'
    refine⟨_,_,by rw[e1,if_pos rfl],by rw[e2,if_pos rfl],?_⟩
    cases z with
    |cells ze zs zh zf=>
     refine .cells ze (by simpa using zs) (λ i u u' hi hu mS=>?_) (.inl zuA)
     rw[bC] at hu mS
     by_cases ei:off=i
     ·subst ei
      rw[if_pos rfl,if_pos cj] at hu
      rw[if_pos rfl,if_pos (aY cj zs)] at mS
      cases hu;cases mS;exact hv
     ·rw[if_neg ei] at hu mS
      exact zh i u u' hi hu mS
   ·have e':¬b'=k':=λ x=>((hr.inj _ _ _ _ _ _ r rk).2 x).elim e λ z=>hnz z.1
    obtain⟨x,x',y,y',z⟩:=hr.obj k k' m rk
    exact⟨x,x',by rw[e1,if_neg e];exact y,by rw[e2,if_neg e'];exact y',z⟩
  ·intro k o hk
   rw[e1] at hk
   split at hk
   ·cases hk;trivial
   ·exact hr.kinds k o hk
  ·intro k hk hn
   have:¬b'=k:=λ x=>hn b l (x▸r)
   rw[e2,if_neg this]
  ·intro k k' m rk fk
   have:¬b=k:=λ x=>hnz (x▸fk)
   have h':¬b'=k':=λ x=>((hr.inj _ _ _ _ _ _ r rk).2 x).elim this λ z=>hnz z.1
   exact⟨by rw[e1,if_neg this],by rw[e2,if_neg h']⟩
variable{o o':Obj}
theorem Mp{R:BR}(h:OR R l o o'):WC o:=by cases h<;>trivial
theorem zdq(o:Obj){a:Nat}(h:Fz w a):Fz { w with heap:=w.heap.push o } a:=by
 obtain⟨x,y,z,h,hall⟩:=h
 refine⟨x,y,z,?_,hall⟩
 show (w.heap.push o)[a]?=_
 have cj:=(ah.1 h).1
 rw[ij cj,<-h,bj cj]
theorem PR{R:BR}(hr:HR R w w')(ho:OR R 0 o o'):
  HR (R.ext w.heap.size w'.heap.size) { w with heap:=w.heap.push o } { w' with heap:=w'.heap.push o' }/\
  KP R w w' (R.ext w.heap.size w'.heap.size) { w with heap:=w.heap.push o } { w' with heap:=w'.heap.push o' }:=by
 refine⟨⟨?_,?_,?_⟩,⟨BR.Wy _ _ _,by simp,by simp,?_,?_,?_,?_,rfl,rfl,rfl,rfl,rfl,rfl,aA _,by simp⟩⟩
 ·rintro a a' b b' l m (r|⟨rfl,rfl,rfl⟩) (s|⟨rfl,rfl,rfl⟩)
  ·exact⟨(hr.inj _ _ _ _ _ _ r s).1,λ e=>((hr.inj _ _ _ _ _ _ r s).2 e).imp id λ z=>⟨zdq _ z.1,zdq _ z.2⟩⟩
  ·have:=hr.lt r
   exact⟨λ e=>by omega,λ e=>by omega⟩
  ·have:=hr.lt s
   exact⟨λ e=>by omega,λ e=>by omega⟩
  ·exact⟨λ _=>rfl,λ _=>.inl rfl⟩
 ·rintro a a' l (r|⟨rfl,rfl,rfl⟩)
  ·obtain⟨x,x',h1,h2,h3⟩:=hr.obj a a' l r
   have k:=hr.lt r
   exact⟨x,x',by rw[ij k.1,<-h1,bj k.1],by rw[ij k.2,<-h2,bj k.2],h3.mono (BR.Wy _ _ _)⟩
  ·exact⟨o,o',by simp,by simp,ho.mono (BR.Wy _ _ _)⟩
 ·intro b x hx
  change (w.heap.push o)[b]?=ab x at hx
  rw[bJ] at hx
  split at hx
  ·cases hx;exact Mp ho
  ·exact hr.kinds b x hx
 ·rintro a a' l (r|⟨rfl,rfl,rfl⟩)
  ·exact .inl r
  ·exact .inr ⟨0,rfl,rfl,by simp⟩
 ·intro k hk
  simp only[Array.size_push] at hk
  have:k=0:=by omega
  subst this
  exact .inr ⟨rfl,rfl,rfl⟩
 ·intro b' hb _
  show (w'.heap.push o')[b']?=_
  rw[ij hb,bj hb]
 ·intro a a' l r _
  have k:=hr.lt r
  exact⟨by show (w.heap.push o)[a]?=_;rw[ij k.1,bj k.1],by show (w'.heap.push o')[a']?=_;rw[ij k.2,bj k.2]⟩
theorem rV{R:BR}(hr:HR R w w'){a a':Nat}(r:R a a' l){u:Obj}(ho:∀m,OR R m o o')(hu:w.heap[a]?=ab u)(hn:∀c e f,u≠.cells c e f):
  HR R { w with heap:=w.heap.setIfInBounds a o } { w' with heap:=w'.heap.setIfInBounds a' o' }/\
  KP R w w' R { w with heap:=w.heap.setIfInBounds a o } { w' with heap:=w'.heap.setIfInBounds a' o' }/\¬(∃x m,R a x m/\Fz w a):=by
 have k:=hr.lt r
 have hz:¬Fz w a:=by
  rintro⟨c,e,f,h,_⟩
  rw[hu] at h
  cases h
  exact hn _ _ _ rfl
 have fzk:∀k,Fz w k->Fz { w with heap:=w.heap.setIfInBounds a o } k:=λ k hk=>by
  have fh:¬a=k:=λ x=>hz (x▸hk)
  obtain⟨x,y,z,h,hall⟩:=hk
  exact⟨x,y,z,by show (w.heap.setIfInBounds a o)[k]?=_;rw[bC,if_neg fh];exact h,hall⟩
 refine⟨⟨λ _ _ _ _ _ _ r s=>⟨(hr.inj _ _ _ _ _ _ r s).1,λ e=>((hr.inj _ _ _ _ _ _ r s).2 e).imp id λ z=>⟨fzk _ z.1,fzk _ z.2⟩⟩,?_,?_⟩,⟨BR.le_refl _,by simp,by simp,λ _ _ _ h=>.inl h,λ k hk=>by simp at hk<;>omega,?_,?_,rfl,rfl,rfl,rfl,rfl,rfl,aA _,by simp⟩,λ⟨_,_,_,z⟩=>hz z⟩
 ·intro k k' m rk
  show ∃x x',(w.heap.setIfInBounds a o)[k]?=ab x/\(w'.heap.setIfInBounds a' o')[k']?=ab x'/\OR R m x x'
  rw[bC,bC]
  by_cases e:a=k
  ·have e':a'=k':=(hr.inj _ _ _ _ _ _ r rk).1 e
   rw[if_pos e,if_pos e',if_pos ‹a<w.heap.size/\_›.1,if_pos ‹a<w.heap.size/\_›.2]
   exact⟨_,_,rfl,rfl,ho m⟩
  ·have e':¬a'=k':=λ x=>((hr.inj _ _ _ _ _ _ r rk).2 x).elim e λ z=>hz z.1
   rw[if_neg e,if_neg e']
   exact hr.obj k k' m rk
 ·intro b x hx
  change (w.heap.setIfInBounds a o)[b]?=ab x at hx
  rw[bC] at hx
  split at hx
  ·split at hx
   ·cases hx;exact Mp (ho 0)
   ·cases hx
  ·exact hr.kinds b x hx
 ·intro k hk hnk
  show (w'.heap.setIfInBounds a' o')[k]?=_
  have:¬a'=k:=λ x=>hnk a l (x▸r)
  rw[bC,if_neg this]
 ·intro k k' m rk fk
  have h1:¬a=k:=λ x=>hz (x▸fk)
  have h2:¬a'=k':=λ x=>((hr.inj _ _ _ _ _ _ r rk).2 x).elim h1 λ z=>hz z.1
  exact⟨by show (w.heap.setIfInBounds a o)[k]?=_;rw[bC,if_neg h1],by show (w'.heap.setIfInBounds a' o')[k']?=_;rw[bC,if_neg h2]⟩
variable{m:Mode}{es:Array bT}
theorem Qx{k:Sem α}{x:α}{ik:Array bT}
  (h:(Sem.store m a v k).runT P w es=(.ok x w1,ik)) (hf:∀b,∃e,w.farStore P a v b=.error (.stuck e)):
  ∃u,w.cell? a=ab u/\w.frozen? a=aa/\(∀x,v≠.agg x)/\(∀x,v≠.tuple x)/\k.runT P (w.setCell a v) (es.push ⟨.cell a,ae,m == .atomic⟩)=(.ok x w1,ik):=by
 cases v with
 |agg=>simp[Sem.runT] at h
 |tuple=>simp[Sem.runT] at h
 |_=>
  simp only[Sem.runT] at h
  split at h
  ·rename_i u hu
   split at h
   ·simp at h
   ·rename_i hz
    exact⟨u,hu,by simpa using hz,λ _=>by simp,λ _=>by simp,h⟩
  ·obtain⟨e,he⟩:=hf (m == .atomic)
   rw[he] at h
   simp at h
theorem VR.zrV{R:BR}(h:VR R v v')(h1:∀x,v≠.agg x)(h2:∀x,v≠.tuple x):(∀x,v'≠.agg x)/\(∀x,v'≠.tuple x):=by
 cases h<;>first
  |exact absurd rfl (h1 _)
  |exact absurd rfl (h2 _)
  |exact⟨λ _=>by simp,λ _=>by simp⟩
theorem Mr{u:aj}{k:Sem α}
  (hu:w.cell? a=ab u) (hz:w.frozen? a=aa) (h1:∀x,v≠.agg x) (h2:∀x,v≠.tuple x):
  (Sem.store m a v k).runT P w es=k.runT P (w.setCell a v) (es.push ⟨.cell a,ae,m == .atomic⟩):=by
 cases v with
 |agg=>exact absurd rfl (h1 _)
 |tuple=>exact absurd rfl (h2 _)
 |_=>simp only[Sem.runT,hu,hz];rfl
theorem CG(es:Array bT)(e:bT):es.push e=es++#[e]:=by simp
theorem SR.run{A:BR->α->β->Prop}{R:BR}{s:Sem α}{s':Sem β}(h:SR P P' A R s s'):
  ∀(w w':ai) (es es':Array bT) (a:α) (w1:ai) (ik:Array bT),HR R w w'->s.runT P w es=(.ok a w1,ik)->∀n,w1.drawn<=w.drawn+n->TA n w w'->w.drawn<=w1.drawn/\Out P' A R w w' s' es' a w1:=by
 induction h with
 |pure h=>
  intro w w' es es' a w1 ik hr hs n hn ht
  simp only[Sem.runT,bz,fT] at hs
  obtain⟨⟨rfl,rfl⟩,rfl⟩:=hs
  exact⟨aA _,_,_,#[],_,by simp[Sem.runT],h,hr,KP.refl _ _ _,by simp⟩
 |@load R m a a' k k' ha hk ih=>
  intro w w' es es' x w1 ik hr hs n hn ht
  simp only[Sem.runT] at hs
  split at hs
  ·rename_i v hv
   obtain⟨v',Js,hvr⟩:=hr.cell ha hv
   obtain⟨d,o⟩:=ih v v' hvr w w' _ (es'++#[⟨.cell a',aa,m == .atomic⟩]) x w1 ik hr hs n hn ht
   refine⟨d,Out.step hr (KP.refl _ _ _) (em:=#[⟨.cell a',aa,m == .atomic⟩]) ?_ (t':=k' v') ?_ o⟩
   ·intro e he
    obtain rfl:=by simpa using he
    obtain⟨⟨l,r,_⟩,_⟩:=ha
    exact⟨a.block,l,r,by simp⟩
   ·simp only[Sem.runT,Js,CG]
  ·obtain⟨e,he⟩:=zbf (P:=P) hr ha (m == .atomic)
   rw[he] at hs
   simp at hs
 |@store R m a a' v v' k k' ha hv hk ih=>
  intro w w' es es' x w1 ik hr hs n hn ht
  obtain⟨u,hu,hz,n1,n2,hs⟩:=Qx hs (λ b=>WZ hr ha v b)
  obtain⟨u',mS,_⟩:=hr.cell ha hu
  obtain⟨SC,rj,kp,hnz⟩:=Fx hr ha hv hu hz
  obtain⟨n1',n2'⟩:=hv.zrV n1 n2
  obtain⟨d,o⟩:=ih (w.setCell a v) (w'.setCell a' v') _ (es'++#[⟨.cell a',ae,m == .atomic⟩]) x w1 ik rj hs n hn ht
  refine⟨d,Out.step hr kp (em:=#[⟨.cell a',ae,m == .atomic⟩]) ?_ (t':=k') ?_ o⟩
  ·intro e he
   obtain rfl:=by simpa using he
   obtain⟨⟨l,r,_⟩,_⟩:=ha
   exact⟨a.block,l,r,λ _=>hnz⟩
  ·rw[Mr mS SC n1' n2',CG]
 |@new R o o' k k' ho hk ih=>
  intro w w' es es' x w1 ik hr hs n hn ht
  obtain⟨rj,kp⟩:=PR hr ho
  simp only[Sem.runT] at hs
  obtain⟨d,o⟩:=ih w.heap.size w'.heap.size { w with heap:=w.heap.push o } { w' with heap:=w'.heap.push o' } _ (es'++#[]) x w1 ik rj hs n hn ht
  exact⟨d,Out.step hr kp (em:=#[]) (by simp) (t':=k' w'.heap.size) (by simp[Sem.runT]) o⟩
 |@shape R r r' l k k' h hk ih=>
  intro w w' es es' x w1 ik hr hs n hn ht
  simp only[Sem.runT] at hs
  obtain⟨d,o⟩:=ih _ _ (hr.shape h) w w' _ (es'++#[]) x w1 ik hr hs n hn ht
  exact⟨d,Out.step hr (KP.refl _ _ _) (em:=#[]) (by simp) (t':=k' (w'.shape? r')) (by simp[Sem.runT]) o⟩
 |@getObj R r r' l k k' h hk ih=>
  intro w w' es es' x w1 ik hr hs n hn ht
  obtain⟨o,o',h1,h2,ho⟩:=hr.obj _ _ _ h
  simp only[Sem.runT,h1] at hs
  have O1:=ho
  cases ho with
  |cells=>simp at hs
  |@map es0 zyP clock he=>
   obtain⟨d,o⟩:=ih _ _ O1 w w' _ (es'++#[⟨.obj r',aa,aa⟩]) x w1 ik hr hs n hn ht
   refine⟨d,Out.step hr (KP.refl _ _ _) (em:=#[⟨.obj r',aa,aa⟩]) ?_ (t':=k' (.map zyP clock)) ?_ o⟩
   ·intro e he
    obtain rfl:=by simpa using he
    exact⟨r,l,h,by simp⟩
   ·simp only[Sem.runT,h2,CG];rfl
  |@chan cap b b' c s t tm hb=>
   obtain⟨d,o⟩:=ih _ _ O1 w w' _ (es'++#[⟨.obj r',aa,ae⟩]) x w1 ik hr hs n hn ht
   refine⟨d,Out.step hr (KP.refl _ _ _) (em:=#[⟨.obj r',aa,ae⟩]) ?_ (t':=k' (.chan cap b' c s t tm)) ?_ o⟩
   ·intro e he
    obtain rfl:=by simpa using he
    exact⟨r,l,h,by simp⟩
   ·simp only[Sem.runT,h2,CG];rfl
  |@number a a' lost ha=>
   obtain⟨d,o⟩:=ih _ _ O1 w w' _ (es'++#[⟨.obj r',aa,aa⟩]) x w1 ik hr hs n hn ht
   refine⟨d,Out.step hr (KP.refl _ _ _) (em:=#[⟨.obj r',aa,aa⟩]) ?_ (t':=k' (.number a' lost)) ?_ o⟩
   ·intro e he
    obtain rfl:=by simpa using he
    exact⟨r,l,h,by simp⟩
   ·simp only[Sem.runT,h2,CG];rfl
 |@setObj R r r' l o o' k k' h ho hk ih=>
  intro w w' es es' x w1 ik hr hs n hn ht
  obtain⟨u,u',h1,h2,hu⟩:=hr.obj _ _ _ h
  have hch:o.isChan=o'.isChan:=by cases ho 0<;>rfl
  simp only[Sem.runT,h1] at hs
  have key:∀{u:Obj} {u':Obj},w.heap[r]?=ab u->w'.heap[r']?=ab u'->(∀c e f,u≠.cells c e f)->(∀c e f,u'≠.cells c e f)->k.runT P { w with heap:=w.heap.setIfInBounds r o } (es.push ⟨.obj r,ae,o.isChan⟩)=(.ok x w1,ik)->
    w.drawn<=w1.drawn/\Out P' A R w w' (.setObj r' o' k') es' x w1:=by
   intro u u' g1 g2 n1 n2 hs
   obtain⟨rj,kp,hnz⟩:=rV hr h ho g1 n1
   obtain⟨d,oo⟩:=ih { w with heap:=w.heap.setIfInBounds r o } { w' with heap:=w'.heap.setIfInBounds r' o' } _ (es'++#[⟨.obj r',ae,o'.isChan⟩]) x w1 ik rj hs n hn ht
   refine⟨d,Out.step hr kp (em:=#[⟨.obj r',ae,o'.isChan⟩]) ?_ (t':=k') ?_ oo⟩
   ·intro e he
    obtain rfl:=by simpa using he
    exact⟨r,l,h,λ _=>hnz⟩
   ·cases u' with
    |cells c e f=>exact absurd rfl (n2 c e f)
    |_=>simp only[Sem.runT,g2,CG]
  cases hu with
  |cells=>simp at hs
  |map clock he=>exact key h1 h2 (λ _ _ _=>by simp) (λ _ _ _=>by simp) hs
  |chan cap c s t tm hb=>exact key h1 h2 (λ _ _ _=>by simp) (λ _ _ _=>by simp) hs
  |number lost ha=>exact key h1 h2 (λ _ _ _=>by simp) (λ _ _ _=>by simp) hs
 |@choose R q k k' hk ih=>
  intro w w' es es' x w1 ik hr hs n hn ht
  simp only[Sem.runT] at hs
  by_cases hq:q.forced=ae
  ·rw[if_pos hq] at hs
   obtain⟨d,o⟩:=ih 0 w w' _ (es'++#[]) x w1 ik hr hs n hn ht
   exact⟨d,Out.step hr (KP.refl _ _ _) (em:=#[]) (by simp) (t':=k' 0) (by simp[Sem.runT,hq]) o⟩
  ·rw[if_neg hq] at hs
   have rj:HR R { w with drawn:=w.drawn+1 } { w' with drawn:=w'.drawn+1 }:=⟨hr.inj,hr.obj,hr.kinds⟩
   have kp:KP R w w' R { w with drawn:=w.drawn+1 } { w' with drawn:=w'.drawn+1 }:=⟨BR.le_refl _,aA _,by simp,λ _ _ _ h=>.inl h,λ k hk=>by simp at hk<;>omega,λ _ _ _=>rfl,λ _ _ _ _ _=>⟨rfl,rfl⟩,rfl,rfl,rfl,rfl,rfl,rfl,by simp,by simp⟩
   cases n with
   |zero=>
    have:=(ih _ { w with drawn:=w.drawn+1 } { w' with drawn:=w'.drawn+1 } es es' x w1 ik rj hs 0 (by simp only;omega) (λ _ _ h=>by omega)).1
    simp only at this
    omega
   |succ n=>
    have e:w.tape w.drawn q=w'.tape w'.drawn q:=ht 0 q (by omega)
    obtain⟨d,o⟩:=ih _ { w with drawn:=w.drawn+1 } { w' with drawn:=w'.drawn+1 } es (es'++#[]) x w1 ik rj hs n (by simp only;omega) (ht.add (k:=1) rfl rfl rfl rfl)
    simp only at d
    refine⟨by omega,Out.step hr kp (em:=#[]) (by simp) (t':=k' (q.cut (w.tape w.drawn q))) ?_ o⟩
    simp[Sem.runT,hq,e]
 |@program R k k' hk ih=>
  intro w w' es es' x w1 ik hr hs n hn ht
  obtain⟨d,o⟩:=ih w w' es (es'++#[]) x w1 ik hr hs n hn ht
  exact⟨d,Out.step hr (KP.refl _ _ _) (em:=#[]) (by simp) (t':=k' P') (by simp[Sem.runT]) o⟩
 |@mark R m k k' hm hk ih=>
  intro w w' es es' x w1 ik hr hs n hn ht
  simp only[Sem.runT] at hs
  obtain⟨d,o⟩:=ih w w' _ (es'++#[⟨.mark m,aa,ae⟩]) x w1 ik hr hs n hn ht
  refine⟨d,Out.step hr (KP.refl _ _ _) (em:=#[⟨.mark m,aa,ae⟩]) ?_ (t':=k') (by simp[Sem.runT]) o⟩
  intro e he
  obtain rfl:=by simpa using he
  exact hm
 |dead h=>
  intro w w' es es' x w1 ik hr hs n hn ht
  exact absurd hs (h.JM _ _ _ _ _)
def World.on(w:ai)(T:Nat->dP->Nat)(d:Nat):ai:={ w with tape:=T,drawn:=d }
def tG(w:ai):Prop:=∀(b:Nat) (o:Obj),w.heap[b]?=ab o->WC o
theorem tG.push{w:ai}(h:tG w){o:Obj}(ho:WC o):tG { w with heap:=w.heap.push o }:=by
 intro b x hx
 change (w.heap.push o)[b]?=ab x at hx
 rw[bJ] at hx
 split at hx
 ·cases hx;exact ho
 ·exact h b x hx
theorem tG.set(h:tG w)(a:cr)(v:aj):tG (w.setCell a v):=by
 intro b x hx
 simp only[World.setCell,du] at hx
 split at hx
 ·cases hb:w.heap[b]? with
  |none=>rename_i e;subst e;simp[hb] at hx
  |some o=>
   have ho:=h b o hb
   rename_i e
   subst e
   rw[hb] at hx
   simp only[cO,aF] at hx
   subst hx
   cases o<;>first|trivial|exact ho.elim
 ·exact h b x hx
theorem tG.far(h:tG w)(a:cr)(b:Bool)(hc:w.cell? a=ak):∃why,w.farLoad P a b=.error (.stuck why):=by
 cases ho:w.heap[a.block]? with
 |none=>exact⟨_,by simp only[World.farLoad,World.noCell,ho];rfl⟩
 |some o=>
  have hk:=h _ _ ho
  cases o<;>first|exact hk.elim|exact⟨_,by simp only[World.farLoad,World.noCell,ho];rfl⟩
theorem tG.zyR(h:tG w)(a:cr)(v:aj)(b:Bool)(hc:w.cell? a=ak):∃why,w.farStore P a v b=.error (.stuck why):=by
 cases ho:w.heap[a.block]? with
 |none=>exact⟨_,by simp only[World.farStore,World.noCell,ho];rfl⟩
 |some o=>
  have hk:=h _ _ ho
  cases o<;>first|exact hk.elim|exact⟨_,by simp only[World.farStore,World.noCell,ho];rfl⟩
theorem Af{k:Sem α}{x:Halt}{ik:Array bT}(hk:tG w)
  (h:(Sem.store m a v k).runT P w es=(.halt x w1,ik)):V9 x=ae\/k.runT P (w.setCell a v) (es.push ⟨.cell a,ae,m == .atomic⟩)=(.halt x w1,ik):=by
 cases v with
 |agg=>simp[Sem.runT] at h;exact .inl (by rw[<-h.1.1];rfl)
 |tuple=>simp[Sem.runT] at h;exact .inl (by rw[<-h.1.1];rfl)
 |_=>
  simp only[Sem.runT] at h
  split at h
  ·split at h
   ·simp at h;exact .inl (by rw[<-h.1.1];rfl)
   ·exact .inr h
  ·rename_i hc
   obtain⟨e,he⟩:=hk.zyR (P:=P) a _ (m == .atomic) hc
   rw[he] at h
   simp at h
   exact .inl (by rw[<-h.1.1];rfl)
theorem dg.V9{P:aG}{α:Type}{s:Sem α}(h:dg P s):∀(w:ai) (es:Array bT) (x:Halt) (w1:ai) (ik:Array bT),tG w->s.runT P w es=(.halt x w1,ik)->Rn.V9 x=ae:=by
 induction h with
 |halt hm=>
  intro w es x w1 ik hk hs
  simp only[Sem.runT,bz,Result.halt.injEq] at hs
  rw[<-hs.1.1];exact hm
 |@load m a k _ i=>
  intro w es x w1 ik hk hs
  simp only[Sem.runT] at hs
  split at hs
  ·exact i _ _ _ _ _ _ hk hs
  ·rename_i hc
   obtain⟨e,he⟩:=hk.far (P:=P) a (m == .atomic) hc
   rw[he] at hs
   simp at hs
   rw[<-hs.1.1];rfl
 |@store m a v k _ i=>
  intro w es x w1 ik hk hs
  rcases Af hk hs with h|h
  ·exact h
  ·exact i _ _ _ _ _ (hk.set a v) h
 |@new c e f k _ i=>intro w es x w1 ik hk hs;exact i _ { w with heap:=w.heap.push (.cells c e f) } _ _ _ _ (hk.push (o:=.cells c e f) trivial) hs
 |shape _ i=>intro w es x w1 ik hk hs;exact i _ _ _ _ _ _ hk hs
 |frozen _ i=>intro w es x w1 ik hk hs;exact i _ _ _ _ _ _ hk hs
 |getObj _ i=>
  intro w es x w1 ik hk hs
  simp only[Sem.runT] at hs
  split at hs
  ·simp at hs;rw[<-hs.1.1];rfl
  ·exact i _ _ _ _ _ _ hk hs
  ·simp at hs;rw[<-hs.1.1];rfl
 |choose _ i=>
  intro w es x w1 ik hk hs
  simp only[Sem.runT] at hs
  split at hs
  ·exact i _ _ _ _ _ _ hk hs
  ·exact i _ { w with drawn:=w.drawn+1 } _ _ _ _ hk hs
 |program _ i=>intro w es x w1 ik hk hs;exact i _ _ _ _ _ hk hs
 |mark _ i=>intro w es x w1 ik hk hs;exact i _ _ _ _ _ hk hs
theorem SR.V9{P P':aG}{α β:Type}{A:BR->α->β->Prop}{R:BR}{s:Sem α}{s':Sem β}(h:SR P P' A R s s'):
  ∀(w w':ai) (es:Array bT) (x:Halt) (w1:ai) (ik:Array bT),HR R w w'->s.runT P w es=(.halt x w1,ik)->Rn.V9 x=ae:=by
 induction h with
 |pure h=>intro w w' es x w1 ik hr hs;simp[Sem.runT] at hs
 |@load R m a a' k k' ha hk ih=>
  intro w w' es x w1 ik hr hs
  simp only[Sem.runT] at hs
  split at hs
  ·rename_i v hv
   obtain⟨v',Js,hvr⟩:=hr.cell ha hv
   exact ih v v' hvr w w' _ x w1 ik hr hs
  ·obtain⟨e,he⟩:=zbf (P:=P) hr ha (m == .atomic)
   rw[he] at hs
   simp at hs
   rw[<-hs.1.1];rfl
 |@store R m a a' v v' k k' ha hv hk ih=>
  intro w w' es x w1 ik hr hs
  by_cases hc:∃u,w.cell? a=ab u/\w.frozen? a=aa
  ·obtain⟨u,hu,hz⟩:=hc
   rcases Af (λ b o h=>hr.kinds b o h) hs with h|h
   ·exact h
   ·obtain⟨_,rj,_⟩:=Fx hr ha hv hu hz
    exact ih _ _ _ x w1 ik rj h
  ·cases v with
   |agg=>simp[Sem.runT] at hs;rw[<-hs.1.1];rfl
   |tuple=>simp[Sem.runT] at hs;rw[<-hs.1.1];rfl
   |_=>
    simp only[Sem.runT] at hs
    split at hs
    ·rename_i u hu
     split at hs
     ·simp at hs;rw[<-hs.1.1];rfl
     ·rename_i hz
      exact absurd ⟨u,hu,by simpa using hz⟩ hc
    ·obtain⟨e,he⟩:=WZ (P:=P) hr ha _ (m == .atomic)
     rw[he] at hs
     simp at hs
     rw[<-hs.1.1];rfl
 |@new R o o' k k' ho hk ih=>
  intro w w' es x w1 ik hr hs
  simp only[Sem.runT] at hs
  exact ih w.heap.size w'.heap.size { w with heap:=w.heap.push o } { w' with heap:=w'.heap.push o' } _ x w1 ik (PR hr ho).1 hs
 |@shape R r r' l k k' h hk ih=>
  intro w w' es x w1 ik hr hs
  exact ih _ _ (hr.shape h) w w' _ x w1 ik hr hs
 |@getObj R r r' l k k' h hk ih=>
  intro w w' es x w1 ik hr hs
  obtain⟨o,o',h1,h2,ho⟩:=hr.obj _ _ _ h
  simp only[Sem.runT,h1] at hs
  have O1:=ho
  cases ho with
  |cells=>simp at hs;rw[<-hs.1.1];rfl
  |map clock he=>exact ih _ _ O1 w w' _ x w1 ik hr hs
  |chan cap c s t tm hb=>exact ih _ _ O1 w w' _ x w1 ik hr hs
  |number lost ha=>exact ih _ _ O1 w w' _ x w1 ik hr hs
 |@setObj R r r' l o o' k k' h ho hk ih=>
  intro w w' es x w1 ik hr hs
  obtain⟨u,u',h1,h2,hu⟩:=hr.obj _ _ _ h
  simp only[Sem.runT,h1] at hs
  cases hu with
  |cells=>simp at hs;rw[<-hs.1.1];rfl
  |map clock he=>exact ih { w with heap:=w.heap.setIfInBounds r o } { w' with heap:=w'.heap.setIfInBounds r' o' } _ x w1 ik (rV hr h ho h1 (λ _ _ _=>by simp)).1 hs
  |chan cap c s t tm hb=>exact ih { w with heap:=w.heap.setIfInBounds r o } { w' with heap:=w'.heap.setIfInBounds r' o' } _ x w1 ik (rV hr h ho h1 (λ _ _ _=>by simp)).1 hs
  |number lost ha=>exact ih { w with heap:=w.heap.setIfInBounds r o } { w' with heap:=w'.heap.setIfInBounds r' o' } _ x w1 ik (rV hr h ho h1 (λ _ _ _=>by simp)).1 hs
 |@choose R q k k' hk ih=>
  intro w w' es x w1 ik hr hs
  simp only[Sem.runT] at hs
  split at hs
  ·exact ih _ _ _ _ x w1 ik hr hs
  ·exact ih _ { w with drawn:=w.drawn+1 } w' _ x w1 ik ⟨hr.inj,hr.obj,hr.kinds⟩ hs
 |@program R k k' hk ih=>intro w w' es x w1 ik hr hs;exact ih w w' es x w1 ik hr hs
 |@mark R m k k' hm hk ih=>intro w w' es x w1 ik hr hs;exact ih w w' _ x w1 ik hr hs
 |dead h=>intro w w' es x w1 ik hr hs;exact h.V9 _ _ _ _ _ hr.kinds hs
theorem SR.Yx{A:BR->α->β->Prop}{R:BR}{s:Sem α}{s':Sem β}(h:SR P P' A R s s'):
  ∀(w w':ai) (es:Array bT) (a:α) (w1:ai) (ik:Array bT),HR R w w'->s.runT P w es=(.ok a w1,ik)->∀n T d,w1.drawn<=w.drawn+n->TA n w (World.on w T d)->
   w.drawn<=w1.drawn/\s.runT P (World.on w T d) es=(.ok a (World.on w1 T (d+(w1.drawn-w.drawn))),ik):=by
 induction h with
 |pure h=>
  intro w w' es a w1 ik hr hs n T d hn ht
  simp only[Sem.runT,bz,fT] at hs
  obtain⟨⟨rfl,rfl⟩,rfl⟩:=hs
  exact⟨aA _,by simp[Sem.runT]⟩
 |@load R m a a' k k' ha hk ih=>
  intro w w' es x w1 ik hr hs n T d hn ht
  simp only[Sem.runT] at hs ⊢
  have e:(World.on w T d).cell? a=w.cell? a:=rfl
  rw[e]
  split at hs
  ·rename_i v hv
   obtain⟨v',Js,hvr⟩:=hr.cell ha hv
   exact ih v v' hvr w w' _ x w1 ik hr hs n T d hn ht
  ·obtain⟨e,he⟩:=zbf (P:=P) hr ha (m == .atomic)
   rw[he] at hs
   simp at hs
 |@store R m a a' v v' k k' ha hv hk ih=>
  intro w w' es x w1 ik hr hs n T d hn ht
  obtain⟨u,hu,hz,n1,n2,hs⟩:=Qx hs (λ b=>WZ hr ha v b)
  obtain⟨_,rj,_⟩:=Fx hr ha hv hu hz
  have hu2:(World.on w T d).cell? a=ab u:=hu
  have OE:(World.on w T d).frozen? a=aa:=hz
  rw[Mr hu2 OE n1 n2]
  exact ih (w.setCell a v) (w'.setCell a' v') _ x w1 ik rj hs n T d hn ht
 |@new R o o' k k' ho hk ih=>
  intro w w' es x w1 ik hr hs n T d hn ht
  simp only[Sem.runT] at hs ⊢
  exact ih w.heap.size w'.heap.size { w with heap:=w.heap.push o } { w' with heap:=w'.heap.push o' } _ x w1 ik (PR hr ho).1 hs n T d hn ht
 |@shape R r r' l k k' h hk ih=>
  intro w w' es x w1 ik hr hs n T d hn ht
  exact ih _ _ (hr.shape h) w w' _ x w1 ik hr hs n T d hn ht
 |@getObj R r r' l k k' h hk ih=>
  intro w w' es x w1 ik hr hs n T d hn ht
  obtain⟨o,o',h1,h2,ho⟩:=hr.obj _ _ _ h
  have h1':(World.on w T d).heap[r]?=ab o:=h1
  simp only[Sem.runT,h1] at hs
  simp only[Sem.runT,h1']
  have O1:=ho
  cases ho with
  |cells=>simp at hs
  |map clock he=>exact ih _ _ O1 w w' _ x w1 ik hr hs n T d hn ht
  |chan cap c s t tm hb=>exact ih _ _ O1 w w' _ x w1 ik hr hs n T d hn ht
  |number lost ha=>exact ih _ _ O1 w w' _ x w1 ik hr hs n T d hn ht
 |@setObj R r r' l o o' k k' h ho hk ih=>
  intro w w' es x w1 ik hr hs n T d hn ht
  obtain⟨u,u',h1,h2,hu⟩:=hr.obj _ _ _ h
  have h1':(World.on w T d).heap[r]?=ab u:=h1
  simp only[Sem.runT,h1] at hs
  simp only[Sem.runT,h1']
  cases hu with
  |cells=>simp at hs
  |map clock he=>exact ih { w with heap:=w.heap.setIfInBounds r o } { w' with heap:=w'.heap.setIfInBounds r' o' } _ x w1 ik (rV hr h ho h1 (λ _ _ _=>by simp)).1 hs n T d hn ht
  |chan cap c s t tm hb=>exact ih { w with heap:=w.heap.setIfInBounds r o } { w' with heap:=w'.heap.setIfInBounds r' o' } _ x w1 ik (rV hr h ho h1 (λ _ _ _=>by simp)).1 hs n T d hn ht
  |number lost ha=>exact ih { w with heap:=w.heap.setIfInBounds r o } { w' with heap:=w'.heap.setIfInBounds r' o' } _ x w1 ik (rV hr h ho h1 (λ _ _ _=>by simp)).1 hs n T d hn ht
 |@choose R q k k' hk ih=>
  intro w w' es x w1 ik hr hs n T d hn ht
  simp only[Sem.runT] at hs ⊢
  by_cases hq:q.forced=ae
  ·rw[if_pos hq] at hs ⊢
   exact ih 0 w w' _ x w1 ik hr hs n T d hn ht
  ·rw[if_neg hq] at hs ⊢
   have rj:HR R { w with drawn:=w.drawn+1 } w':=⟨hr.inj,hr.obj,hr.kinds⟩
   cases n with
   |zero=>
    have:=(ih _ { w with drawn:=w.drawn+1 } w' es x w1 ik rj hs 0 T d (by simp only;omega) (λ _ _ h=>by omega)).1
    simp only at this
    omega
   |succ n=>
    have e:w.tape w.drawn q=T d q:=ht 0 q (by omega)
    obtain⟨d1,o⟩:=ih _ { w with drawn:=w.drawn+1 } w' es x w1 ik rj hs n T (d+1) (by simp only;omega) (ht.add (k:=1) rfl rfl rfl rfl)
    simp only at d1
    refine⟨by omega,?_⟩
    have e1:d+1+(w1.drawn-(w.drawn+1))=d+(w1.drawn-w.drawn):=by omega
    simp only[e1] at o
    show (k (q.cut (T d q))).runT P (World.on { w with drawn:=w.drawn+1 } T (d+1)) es=_
    rw[<-e]
    exact o
 |@program R k k' hk ih=>
  intro w w' es x w1 ik hr hs n T d hn ht
  exact ih w w' es x w1 ik hr hs n T d hn ht
 |@mark R m k k' hm hk ih=>
  intro w w' es x w1 ik hr hs n T d hn ht
  simp only[Sem.runT] at hs ⊢
  exact ih w w' _ x w1 ik hr hs n T d hn ht
 |dead h=>
  intro w w' es x w1 ik hr hs n T d hn ht
  exact absurd hs (h.JM _ _ _ _ _)
structure PE(P P':aG):Prop where
 info:∀t,P'.info? t=P.info? t
 none:P.globals.size=0
 no:P.info? sF=Option.none
 depth:P'.depth=P.depth
 held:∀t,P'.stoodInHeld t=P.stoodInHeld t
theorem PE.under(h:PE P P')(t:au):P'.underlying t=P.underlying t:=by
 simp only[Program.underlying,h.info]
def ZOk(P:aG)(t:au):Prop:=∀i v,P.info? t=ab i->i.zero=ab v->∀R:BR,VR R v v
abbrev SV(P P':aG)(R:BR)(s s':Sem aj):Prop:=SR P P' (λ S a b=>VR S a b) R s s'
abbrev SE(P P':aG)(R:BR)(s s':Sem α):Prop:=SR P P' (λ _ a b=>a=b) R s s'
abbrev SA(P P':aG)(R:BR)(s s':Sem (Array aj)):Prop:=SR P P' (λ S a b=>AV S a b) R s s'
section
variable{P P':aG}{α β γ δ:Type}{A:BR->α->β->Prop}{B:BR->γ->δ->Prop}{R:BR}
theorem SR.seq{s:Sem α}{s':Sem β}{f:α->Sem γ}{f':β->Sem δ}(h:SR P P' A R s s')(k:∀S a b,R.le S->A S a b->SR P P' B S (f a) (f' b)):SR P P' B R (s >>= f) (s' >>= f'):=h.bind k
theorem dg.seq{s:Sem α}{f:α->Sem γ}(h:dg P s):dg P (s >>= f):=h.bind f
theorem ay{why:String}:dg P (stuck why:Sem α):=.halt rfl
theorem cg(u:Unsupported)(h:V9 (.unsupported u)=ae):dg P (unsupported u:Sem α):=.halt h
inductive Calm(P:aG){α:Type}:Sem α->Prop
 |pure (a:α):Calm P (.pure a)
 |dead {s:Sem α} (h:dg P s):Calm P s
 |choose {q:dP} {k:Nat->Sem α} (hk:∀n,Calm P (k n)):Calm P (.choose q k)
 |program {k:aG->Sem α} (hk:Calm P (k P)):Calm P (.program k)
 |new {c:Array aj} {e:au} {f:Nat×Nat} {k:Nat->Sem α} (hk:∀n,Calm P (k n)):Calm P (.new (.cells c e f) k)
 |load {m:Mode} {a:cr} {k:aj->Sem α} (hk:∀v,Calm P (k v)):Calm P (.load m a k)
 |getObj {r:Nat} {k:Obj->Sem α} (hk:∀v,Calm P (k v)):Calm P (.getObj r k)
 |mark {m:Mark} {k:Sem α} (hk:Calm P k):Calm P (.mark m k)
 |shape {r:Nat} {k:Option (au×Nat)->Sem α} (hk:∀n,Calm P (k n)):Calm P (.shape r k)
 |frozen {a:cr} {k:Bool->Sem α} (hk:∀n,Calm P (k n)):Calm P (.frozen a k)
theorem Calm.then{s:Sem α}(hs:Calm P s){f:α->Sem γ}(h:∀a,dg P (f a)):dg P (s >>= f):=by
 show dg P (s.bind f)
 induction hs with
 |pure a=>exact h a
 |dead d=>exact d.bind f
 |choose _ i=>exact .choose i
 |program _ i=>exact .program i
 |new _ i=>exact .new i
 |load _ i=>exact .load i
 |getObj _ i=>exact .getObj i
 |mark _ i=>exact .mark i
 |shape _ i=>exact .shape i
 |frozen _ i=>exact .frozen i
theorem Calm.seq{s:Sem α}(hs:Calm P s){f:α->Sem γ}(h:∀a,Calm P (f a)):Calm P (s >>= f):=by
 show Calm P (s.bind f)
 induction hs with
 |pure a=>exact h a
 |dead d=>exact .dead (d.bind f)
 |choose _ i=>exact .choose i
 |program _ i=>exact .program i
 |new _ i=>exact .new i
 |load _ i=>exact .load i
 |getObj _ i=>exact .getObj i
 |mark _ i=>exact .mark i
 |shape _ i=>exact .shape i
 |frozen _ i=>exact .frozen i
theorem zet(t:au):Calm P (dQ t):=by
 refine .program ?_
 show Calm P (match P.info? t with|some i=>Sem.pure i|none=>stuck "no such type")
 cases P.info? t with
 |none=>exact .dead ay
 |some i=>exact .pure i
theorem Qc(t:au):Calm P (underlying t):=by
 refine .program ?_
 show Calm P (match P.underlying t with|some i=>Sem.pure i|none=>stuck "no such type")
 cases P.underlying t with
 |none=>exact .dead ay
 |some i=>exact .pure i
theorem Mk(t:au):Calm P (elemOf t):=(Qc t).seq λ d=>by cases d<;>first|exact .pure _|exact .dead ay
theorem Ml(t:au)(v:aj):Calm P (newVar t v):=.new λ n=>.pure _
theorem ZH(h:PE P P')(t:au):SR P P' (λ _ a b=>a=b/\P.info? t=ab a) R (dQ t) (dQ t):=by
 refine .program ?_
 show SR P P' _ R (match P.info? t with|some i=>Sem.pure i|none=>stuck "no such type") (match P'.info? t with|some i=>Sem.pure i|none=>stuck "no such type")
 rw[h.info]
 cases P.info? t with
 |none=>exact .dead ay
 |some i=>exact .pure ⟨rfl,rfl⟩
theorem SR.mono{A':BR->α->β->Prop}{s:Sem α}{s':Sem β}(h:SR P P' A R s s')(k:∀S a b,A S a b->A' S a b):SR P P' A' R s s':=by
 induction h with
 |pure h=>exact .pure (k _ _ _ h)
 |load m h _ i=>exact .load m h i
 |store m h hv _ i=>exact .store m h hv i
 |new ho _ i=>exact .new ho i
 |shape h _ i=>exact .shape h i
 |getObj h _ i=>exact .getObj h i
 |setObj h ho _ i=>exact .setObj h ho i
 |choose q _ i=>exact .choose q i
 |program _ i=>exact .program i
 |mark hm _ i=>exact .mark hm i
 |dead h=>exact .dead h
theorem znG(h:PE P P')(t:au):SE P P' R (dQ t) (dQ t):=(ZH h t).mono λ _ _ _ e=>e.1
theorem zfb(h:PE P P')(t:au):SR P P' (λ _ a b=>a=b/\P.underlying t=ab a) R (underlying t) (underlying t):=by
 refine .program ?_
 show SR P P' _ R (match P.underlying t with|some i=>Sem.pure i|none=>stuck "no such type") (match P'.underlying t with|some i=>Sem.pure i|none=>stuck "no such type")
 rw[h.under]
 cases P.underlying t with
 |none=>exact .dead ay
 |some i=>exact .pure ⟨rfl,rfl⟩
theorem Hs(h:PE P P')(t:au):SE P P' R (underlying t) (underlying t):=(zfb h t).mono λ _ _ _ e=>e.1
theorem OW(h:PE P P')(t:au):SE P P' R (jl t) (jl t):=
 .seq (znG h t) λ _ _ _ _ e=>by subst e;exact .pure rfl
theorem ZI(h:PE P P')(t:au):SE P P' R (qz t) (qz t):=
 .seq (Hs h t) λ _ a _ _ e=>by subst e;cases a<;>exact .pure rfl
variable{t:au}
theorem G7(h:PE P P')(hz:ZOk P t):SV P P' R (ee t) (ee t):=by
 refine .seq (ZH h t) λ S a b _ e=>?_
 obtain⟨rfl,hi⟩:=e
 cases hv:a.zero with
 |none=>exact .dead (cg _ rfl)
 |some v=>exact .pure (hz a v hi hv S)
theorem AV.nil:AV R #[] #[]:=⟨rfl,λ i v v' h=>by simp at h⟩
theorem AV.push{x x':Array aj}(h:AV R x x'){v v':aj}(hv:VR R v v'):AV R (x.push v) (x'.push v'):=by
 refine⟨by simp[h.size],λ i u u' hu mS=>?_⟩
 rw[bJ] at hu mS
 rw[<-h.size] at mS
 by_cases e:i=x.size
 ·rw[if_pos e] at hu mS;cases hu;cases mS;exact hv
 ·rw[if_neg e] at hu mS;exact h.at_ i u u' hu mS
theorem AV.app{x x' y y':Array aj}(h:AV R x x')(k:AV R y y'):AV R (x++y) (x'++y'):=by
 refine⟨by simp[h.size,k.size],λ i u u' hu mS=>?_⟩
 rw[kl] at hu mS
 rw[<-h.size] at mS
 split at hu
 ·rename_i hi;rw[if_pos hi] at mS;exact h.at_ i u u' hu mS
 ·rename_i hi;rw[if_neg hi] at mS;exact k.at_ _ u u' hu mS
theorem AV.extract{x x':Array aj}(h:AV R x x')(a b:Nat):AV R (x.extract a b) (x'.extract a b):=by
 refine⟨by simp[h.size],λ i u u' hu mS=>?_⟩
 rw[Array.getElem?_extract] at hu mS
 rw[<-h.size] at mS
 split at hu
 ·rename_i hi;rw[if_pos hi] at mS;exact h.at_ _ u u' hu mS
 ·cases hu
theorem AV.get{x x':Array aj}(h:AV R x x')(i:Nat):(x[i]?=ak/\x'[i]?=ak)\/∃v v',x[i]?=ab v/\x'[i]?=ab v'/\VR R v v':=by
 cases hx:x[i]? with
 |none=>
  refine .inl ⟨rfl,?_⟩
  rw[Array.getElem?_eq_none_iff] at hx ⊢
  rw[<-h.size];exact hx
 |some v=>
  have hi:i<x'.size:=by rw[<-h.size];exact(ah.1 hx).1
  exact .inr ⟨v,x'[i],rfl,by simp[hi],h.at_ i v _ hx (by simp[hi])⟩
theorem AV.one{v v':aj}(h:VR R v v'):AV R #[v] #[v']:=AV.nil.push h
theorem VR.cells{v v':aj}(h:VR R v v'):AV R v.cells v'.cells:=by
 cases h with
 |agg hx h=>exact⟨hx,h⟩
 |bool b=>exact .one (.bool b)
 |int k n=>exact .one (.int k n)
 |string s=>exact .one (.string s)
 |pointer h=>exact .one (.pointer h)
 |slice l c h=>exact .one (.slice l c h)
 |map h=>exact .one (.map h)
 |chan h=>exact .one (.chan h)
 |func f hx h hy h'=>exact .one (.func f hx h hy h')
 |nilFunc=>exact .one .nilFunc
 |iface t h=>exact .one (.iface t h)
 |nilIface=>exact .one .nilIface
 |tuple hx h=>exact .one (.tuple hx h)
theorem VR.zf8{x x':Array aj}(h:AV R x x'):VR R (.agg x) (.agg x'):=.agg h.size h.at_
theorem VR.tuple'{x x':Array aj}(h:AV R x x'):VR R (.tuple x) (.tuple x'):=.tuple h.size h.at_
theorem AR.add{a a':cr}(h:AR R a a')(n:Nat):AR R (a.add n) (a'.add n):=by
 obtain⟨b,o,s⟩:=a
 obtain⟨b',o',s'⟩:=a'
 obtain⟨⟨l,r,hl⟩,e1,e2⟩:=h
 simp only at r e1 e2 hl
 subst e1;subst e2
 by_cases hn:n=0
 ·simp only[Addr.add,if_pos hn];exact⟨⟨l,r,hl⟩,rfl,rfl⟩
 ·simp only[Addr.add,if_neg hn];exact⟨⟨l,r,by simp only;omega⟩,rfl,rfl⟩
theorem zdM{a a':cr}(h:AR R a a'):SV P P' R (load a) (load a'):=.load _ h λ _ _ hv=>.pure hv
theorem zjC{a a':cr}{v v':aj}(h:AR R a a')(hv:VR R v v'):SR P P' (λ _ _ _=>True) R (store a v) (store a' v'):=.store _ h hv (.pure trivial)
theorem It(n:Nat):∀{R:BR} {a a':cr} (_:AR R a a') (i:Nat) {x x':Array aj},AV R x x'->SA P P' R (jM a i n x) (jM a' i n x'):=by
 induction n with
 |zero=>intro R a a' _ i x x' hx;exact .pure hx
 |succ n ih=>intro R a a' h i x x' hx;exact .seq (zdM (h.add i)) λ S v v' hS hv=>ih (h.mono hS) (i+1) ((hx.mono hS).push hv)
def LV(R:BR):List aj->List aj->Prop
 |[],[]=>True
 |v::l,v'::l'=>VR R v v'/\LV R l l'
 |_,_=>False
theorem LV.mono{R S:BR}(h:R.le S):∀{l l':List aj},LV R l l'->LV S l l'
 |[],[],_=>trivial
 |_::_,_::_,k=>⟨k.1.mono h,k.2.mono h⟩
theorem AV.list{x x':Array aj}(h:AV R x x'):LV R x.toList x'.toList:=by
 obtain⟨l⟩:=x
 obtain⟨l'⟩:=x'
 obtain⟨h1,h2⟩:=h
 simp only[jg] at h1
 simp only[dG] at h2
 show LV R l l'
 induction l generalizing l' with
 |nil=>cases l' with|nil=>trivial|cons=>simp at h1
 |cons v l ih=>
  cases l' with
  |nil=>simp at h1
  |cons v' l'=>exact⟨h2 0 v v' rfl rfl,ih l' (by simpa using h1) λ i u u' hu mS=>h2 (i+1) u u' (by simpa using hu) (by simpa using mS)⟩
theorem wV:∀{l l':List aj} {R:BR} {a a':cr} (_:AR R a a') (i:Nat),LV R l l'->SR P P' (λ _ _ _=>True) R (storeCells a l i) (storeCells a' l' i)
 |[],[],_,_,_,_,_,_=>.pure trivial
 |_::_,_::_,_,_,_,h,i,k=>.seq (zjC (h.add i) k.1) λ _ _ _ hS _=>wV (h.mono hS) (i+1) (k.2.mono hS)
theorem Fu(h:PE P P')(t:au){a a':cr}(ha:AR R a a'):SV P P' R (et t a) (et t a'):=by
 refine .seq (ZI h t) λ S b b' hS e=>?_
 subst e
 cases b with
 |true=>
  refine .seq (OW h t) λ S' n n' hS' e=>?_
  subst e
  exact .seq (It n ((ha.mono hS).mono hS') 0 AV.nil) λ _ _ _ _ hx=>.pure (VR.zf8 hx)
 |false=>exact zdM (ha.mono hS)
theorem zag(h:PE P P')(t:au){a a':cr}(ha:AR R a a'){v v':aj}(hv:VR R v v'):SR P P' (λ _ _ _=>True) R (storeVar t a v) (storeVar t a' v'):=by
 refine .seq (OW h t) λ S n n' hS e=>?_
 subst e
 have hc:=(hv.mono hS).cells
 rw[<-hc.size]
 by_cases e:v.cells.size≠n
 ·simp only[if_pos e];exact .dead (dg.seq ay)
 ·simp only[if_neg e];exact wV (ha.mono hS) 0 hc.list
theorem xJ(e:au){x x':Array aj}(h:AV R x x'):SR P P' AR R (yM e x) (yM e x'):=
 .new (OR.row h e) λ n n'=>.pure ⟨⟨0,.inr ⟨rfl,rfl,rfl⟩,bw _⟩,rfl,rfl⟩
theorem eu(e:RuntimeError):dg P (cV e:Sem α):=by
 refine .program ?_
 cases e with
 |bounds x y s c=>exact .halt rfl
 |error m=>exact .halt rfl
 |plain m=>exact .halt rfl
 |nilDeref=>exact .halt rfl
 |typeAssertion i c a m=>exact(Mk _).then λ e=>(Ml _ _).then λ r=>.halt rfl
 |panicNil=>exact(Mk _).then λ e=>(Ml _ _).then λ r=>.halt rfl
 |unhashable t=>exact .halt rfl
theorem sc(k:cZ)(x y:Int)(c:BoundsCode):dg P (boundsPanic k x y c:Sem α):=by
 unfold boundsPanic
 dsimp only
 split
 ·exact Calm.then (s:=Functor.map (λ x=>x == 1) (choose _)) (.choose λ n=>.pure _) λ _=>eu _
 ·exact Calm.then (.pure _) λ _=>eu _
theorem zb1{v v':aj}(h:VR R v v'):SE P P' R (nO v) (nO v'):=by
 cases h with
 |int k n=>exact .pure rfl
 |@pointer a a' h=>
  cases a with
  |none=>exact .dead ay
  |some a=>exact .dead (cg _ rfl)
 |_=>exact .dead ay
theorem zjw{v v':aj}(h:VR R v v'):SA P P' R (asAgg v) (asAgg v'):=by
 cases h with
 |agg hx h=>exact .pure ⟨hx,h⟩
 |_=>exact .dead ay
theorem Vq{v v':aj}(h:VR R v v'):SR P P' AR R (qF v) (qF v'):=by
 cases h with
 |@pointer a a' h=>
  cases a with
  |none=>exact .dead (eu .nilDeref)
  |some a=>
   cases a' with
   |none=>exact h.elim
   |some a'=>exact .pure h
 |_=>exact .dead ay
theorem MO{v v':aj}(h:VR R v v'):SR P P' AR R (bZ v) (bZ v'):=by
 cases h with
 |@pointer a a' h=>
  cases a with
  |none=>exact .dead ay
  |some a=>
   cases a' with
   |none=>exact h.elim
   |some a'=>exact .pure h
 |_=>exact .dead ay
theorem ze7(h:PE P P')(t:au){v v':aj}(hv:VR R v v'):SV P P' R (eY t v) (eY t v'):=
 .seq (MO hv) λ _ _ _ _ ha=>Fu h t ha
variable{x x':aj}
theorem zb8(h:PE P P')(t:au){v v':aj}(hv:VR R v v')(hx:VR R x x'):SR P P' (λ _ _ _=>True) R (lf t v x) (lf t v' x'):=
 .seq (MO hv) λ _ _ _ hS ha=>zag h t ha (hx.mono hS)
theorem zjv(h:PE P P')(hz:ZOk P t):SV P P' R (Be t ae (.tuple #[])) (Be t ae (.tuple #[])):=
 .seq (G7 h hz) λ _ _ _ _ hv=>.seq (xJ t hv.cells) λ _ _ _ _ ha=>.pure (.pointer ha)
theorem zsd(t:au){v v':aj}(hv:VR R v v'):SV P P' R (Instr.box t v) (Instr.box t v'):=
 .seq (xJ t hv.cells) λ _ _ _ _ ha=>.pure (.pointer ha)
def LP(R:BR):List (Nat×aj)->List (Nat×aj)->Prop
 |[],[]=>True
 |x::l,x'::l'=>x.1=x'.1/\VR R x.2 x'.2/\LP R l l'
 |_,_=>False
theorem LP.mono{R S:BR}(h:R.le S):∀{l l':List (Nat×aj)},LP R l l'->LP S l l'
 |[],[],_=>trivial
 |_::_,_::_,k=>⟨k.1,k.2.1.mono h,k.2.2.mono h⟩
theorem LP.map(f:bp->aj)(f':bp->aj):∀(l:List (Nat×bp)),(∀x∈l,VR R (f x.2) (f' x.2))->LP R (l.map λ x=>(x.1,f x.2)) (l.map λ x=>(x.1,f' x.2))
 |[],_=>trivial
 |x::l,h=>⟨rfl,h x (by simp),LP.map f f' l λ y hy=>h y (by simp[hy])⟩
theorem AV.fold{x x':Array aj}(off:Nat):∀{l l':List (aj×Nat)} {c c':Array aj},AV R c c'->l.map (·.2)=l'.map (·.2)->LV R (l.map (·.1)) (l'.map (·.1))->
  AV R (l.foldl (λ cs y=>cs.setIfInBounds (off+y.2) y.1) c) (l'.foldl (λ cs y=>cs.setIfInBounds (off+y.2) y.1) c')
 |[],[],_,_,h,_,_=>h
 |[],_::_,_,_,_,e,_=>by simp at e
 |_::_,[],_,_,_,e,_=>by simp at e
 |y::l,y'::l',c,c',h,e,k=>by
  simp only[dC,iw] at e
  simp only[List.foldl_cons]
  rw[e.1]
  exact AV.fold (x:=x) (x':=x') off (h.set _ k.1) e.2 k.2
theorem OK(place:Nat->Option (Nat×Nat)):∀{l l':List (Nat×aj)} {c c':Array aj},AV R c c'->LP R l l'->
  (eJ place c l=ak/\eJ place c' l'=ak)\/∃d d',eJ place c l=ab d/\eJ place c' l'=ab d'/\AV R d d'
 |[],[],c,c',h,_=>.inr ⟨c,c',rfl,rfl,h⟩
 |[],_::_,_,_,_,k=>k.elim
 |_::_,[],_,_,_,k=>k.elim
 |(i,v)::l,(i',v')::l',c,c',h,⟨e,hv,hl⟩=>by
  simp only at e hv
  subst e
  simp only[eJ]
  cases hp:place i with
  |none=>exact .inl ⟨rfl,rfl⟩
  |some q=>
   obtain⟨off,size⟩:=q
   have hc:=hv.cells
   simp only[<-hc.size,<-h.size]
   split
   ·exact .inl ⟨rfl,rfl⟩
   ·refine OK place (AV.zjs off h hc) hl
 where
 AV.zjs {R:BR} {c c' x x':Array Value} (off:Nat) (h:AV R c c') (hx:AV R x x'):
   AV R (x.zipIdx.foldl (λ cs (y:Value×Nat)=>cs.setIfInBounds (off+y.2) y.1) c) (x'.zipIdx.foldl (λ cs (y:Value×Nat)=>cs.setIfInBounds (off+y.2) y.1) c'):=by
  rw[<-Array.foldl_toList,<-Array.foldl_toList]
  refine AV.fold (x:=x) (x':=x') off h ?_ ?_
  ·simp[hx.size]
  ·simpa using hx.list
theorem Xa(h:PE P P')(t:au){x x':Array aj}(hx:AV R x x')(off:Nat):SV P P' R (part t x off) (part t x' off):=by
 refine .seq (ZI h t) λ S b b' hS e=>?_
 subst e
 cases b with
 |true=>exact .seq (OW h t) λ S' n n' hS' e=>by subst e;exact .pure (VR.zf8 (((hx.mono hS).mono hS').extract _ _))
 |false=>
  rcases (hx.mono hS).get off with⟨e,e'⟩|⟨v,v',e,e',hv⟩
  ·simp only[e,e'];exact .dead ay
  ·simp only[e,e'];exact .pure hv
theorem zjz(h:PE P P')(t:au){v v':aj}(hv:VR R v v')(f:Nat):SV P P' R (vD t v f) (vD t v' f):=by
 refine .seq (Hs h t) λ S d d' hS e=>?_
 subst e
 cases d with
 |struct fields=>
  simp only
  cases fields[f]? with
  |none=>exact .dead ay
  |some g=>exact .seq (zjw (hv.mono hS)) λ _ _ _ _ hx=>Xa h _ hx _
 |_=>exact .dead ay
theorem zjA(h:PE P P')(t:au){v v':aj}(hv:VR R v v')(hx:VR R x x'):SV P P' R (kG t v x) (kG t v' x'):=by
 refine .seq (zb1 hx) λ S a a' hS e=>?_
 subst e
 obtain⟨k,i⟩:=a
 refine .seq (Hs h t) λ S' d d' hS' e=>?_
 subst e
 have hv2:=(hv.mono hS).mono hS'
 cases hv2 with
 |@agg c c' hc ha=>
  cases d with
  |array len elem=>
   simp only
   split
   ·exact .seq (OW h elem) λ _ _ _ hS2 e=>by subst e;exact Xa h _ (AV.mono hS2 ⟨hc,ha⟩) _
   ·exact .dead (sc _ _ _ _)
  |_=>exact .dead ay
 |string s=>
  cases d with
  |string=>
   simp only
   split
   ·exact .pure (.int _ _)
   ·exact .dead (sc _ _ _ _)
  |_=>exact .dead ay
 |_=>cases d<;>exact .dead ay
theorem zb3{v v':aj}(hv:VR R v v')(i:Nat):SV P P' R (mI v i) (mI v' i):=by
 cases hv with
 |@tuple c c' hc ha=>
  rcases AV.get ⟨hc,ha⟩ i with⟨e,e'⟩|⟨v,v',e,e',hv⟩
  ·simp only[mI,e,e'];exact .dead ay
  ·simp only[mI,e,e'];exact .pure hv
 |_=>exact .dead ay
theorem Ls(h:PE P P')(t:au){v v':aj}(hv:VR R v v'):SV P P' R (jD t v) (jD t v'):=by
 refine .seq (Hs h t) λ S d d' hS e=>?_
 subst e
 cases d<;>first|exact .dead ay|exact .pure (.iface t (hv.mono hS))
theorem OA.add{a a':Option cr}(h:OA R a a')(n:Nat):OA R (a.map (·.add n)) (a'.map (·.add n)):=by
 cases a<;>cases a'<;>first|exact h.elim|trivial|exact AR.add h n
def OV(R:BR):Option aj->Option aj->Prop
 |none,ak=>True
 |some v,ab v'=>VR R v v'
 |_,_=>False
theorem OV.mono{R S:BR}(h:R.le S):{v v':Option aj}->OV R v v'->OV S v v'
 |none,ak,_=>trivial
 |some _,ab _,k=>VR.mono h k
abbrev SQ(P P':aG){α:Type}(R:BR)(s s':Sem α):Prop:=SR P P' (λ S a b=>S=R/\a=b) R s s'
theorem SR.q{s:Sem α}{s':Sem α}{f:α->Sem γ}{f':α->Sem δ}(h:SQ P P' R s s')(k:∀a,SR P P' B R (f a) (f' a)):SR P P' B R (s >>= f) (s' >>= f'):=
 h.bind λ S a b _ e=>by obtain⟨rfl,rfl⟩:=e;exact k a
theorem gg(a:α):SQ P P' R (bN a:Sem α) (bN a):=.pure ⟨rfl,rfl⟩
theorem lX(h:PE P P')(t:au):SQ P P' R (underlying t) (underlying t):=by
 refine .program ?_
 show SR P P' _ R (match P.underlying t with|some i=>Sem.pure i|none=>stuck "no such type") (match P'.underlying t with|some i=>Sem.pure i|none=>stuck "no such type")
 rw[h.under]
 cases P.underlying t with
 |none=>exact .dead ay
 |some i=>exact .pure ⟨rfl,rfl⟩
theorem zje(h:PE P P')(t:au):SR P P' (λ S a b=>S=R/\a=b/\P.underlying t=ab a) R (underlying t) (underlying t):=by
 refine .program ?_
 show SR P P' _ R (match P.underlying t with|some i=>Sem.pure i|none=>stuck "no such type") (match P'.underlying t with|some i=>Sem.pure i|none=>stuck "no such type")
 rw[h.under]
 cases P.underlying t with
 |none=>exact .dead ay
 |some i=>exact .pure ⟨rfl,rfl,rfl⟩
theorem W5(h:PE P P')(t:au):SR P P' (λ S a b=>S=R/\a=b/\P.info? t=ab a) R (dQ t) (dQ t):=by
 refine .program ?_
 show SR P P' _ R (match P.info? t with|some i=>Sem.pure i|none=>stuck "no such type") (match P'.info? t with|some i=>Sem.pure i|none=>stuck "no such type")
 rw[h.info]
 cases P.info? t with
 |none=>exact .dead ay
 |some i=>exact .pure ⟨rfl,rfl,rfl⟩
theorem A1(h:PE P P')(t:au):SQ P P' R (dQ t) (dQ t):=by
 refine .program ?_
 show SR P P' _ R (match P.info? t with|some i=>Sem.pure i|none=>stuck "no such type") (match P'.info? t with|some i=>Sem.pure i|none=>stuck "no such type")
 rw[h.info]
 cases P.info? t with
 |none=>exact .dead ay
 |some i=>exact .pure ⟨rfl,rfl⟩
theorem wH(h:PE P P')(t:au):SQ P P' R (jl t) (jl t):=.q (A1 h t) λ a=>gg _
theorem zno(h:PE P P')(t:au):SQ P P' R (qz t) (qz t):=.q (lX h t) λ a=>by cases a<;>exact gg _
theorem J3{v v':aj}(h:VR R v v'):SQ P P' R (nO v) (nO v'):=by
 cases h with
 |int k n=>exact gg _
 |@pointer a a' h=>
  cases a with
  |none=>exact .dead ay
  |some a=>exact .dead (cg _ rfl)
 |_=>exact .dead ay
theorem OS{v v':aj}(h:VR R v v'):SQ P P' R (asInt v) (asInt v'):=.q (J3 h) λ a=>gg _
theorem zjb{v v':aj}(h:VR R v v'):SQ P P' R (asBool v) (asBool v'):=by
 cases h with
 |bool b=>exact gg _
 |_=>exact .dead ay
theorem znm{v v':aj}(hv:VR R v v')(y:Nat)(c:BoundsCode):SQ P P' R (jQ v y c) (jQ v' y c):=by
 refine .q (J3 hv) λ a=>?_
 obtain⟨k,i⟩:=a
 simp only
 split
 ·exact gg _
 ·exact .dead (sc _ _ _ _)
variable{l' hi X8 m':Option aj}
theorem Ho(b:Bool)(len cap:Nat){l m:Option aj}(hl:OV R l l')(hh:OV R hi X8)(hm:OV R m m'):
  SQ P P' R (fy b len cap l hi m) (fy b len cap l' X8 m'):=by
 unfold fy
 cases m<;>cases m'<;>first|exact hm.elim|skip
 all_goals cases hi<;>cases X8<;>first|exact hh.elim|skip
 all_goals cases l<;>cases l'<;>first|exact hl.elim|skip
 all_goals simp only[Option.isSome]
 all_goals repeat' (first
  |exact gg _
  |exact .dead (dg.seq ay)
  |(refine .q (znm (by assumption) _ _) λ _=>?_)
  |(refine .q (gg _) λ _=>?_))
theorem Fp{v v':aj}(h:VR R v v'):SR P P' (λ S a b=>S=R/\AR R a b) R (bZ v) (bZ v'):=by
 cases h with
 |@pointer a a' h=>
  cases a with
  |none=>exact .dead ay
  |some a=>
   cases a' with
   |none=>exact h.elim
   |some a'=>exact .pure ⟨rfl,h⟩
 |_=>exact .dead ay
theorem zja{v v':aj}(h:VR R v v'):SR P P' (λ S a b=>S=R/\AR R a b) R (qF v) (qF v'):=by
 cases h with
 |@pointer a a' h=>
  cases a with
  |none=>exact .dead (eu .nilDeref)
  |some a=>
   cases a' with
   |none=>exact h.elim
   |some a'=>exact .pure ⟨rfl,h⟩
 |_=>exact .dead ay
theorem zvs{c:Prop}[Decidable c]{a a':Option cr}(h:OA R a a')(n:Nat):OA R (if c then a else a.map (·.add n)) (if c then a' else a'.map (·.add n)):=by
 split
 ·exact h
 ·exact h.add n
theorem zjB(h:PE P P')(t:au){v v':aj}(hv:VR R v v'){l m:Option aj}(hl:OV R l l')(hh:OV R hi X8)(hm:OV R m m'):
  SV P P' R (nI t v l hi m) (nI t v' l' X8 m'):=by
 refine .q (lX h t) λ d=>?_
 cases hv with
 |string s=>
  cases d with
  |string=>
   simp only
   have e:m.isSome=m'.isSome:=by cases m<;>cases m'<;>first|exact hm.elim|rfl
   rw[e]
   split
   ·exact .dead (dg.seq ay)
   ·exact .q (Ho _ _ _ hl hh trivial) λ a=>.pure (.string _)
  |_=>exact .dead ay
 |@slice a a' len cap ha=>
  cases d with
  |slice elem=>
   refine .q (Ho _ _ _ hl hh hm) λ b=>?_
   exact .q (wH h elem) λ n=>.pure (.slice _ _ (zvs ha _))
  |_=>exact .dead ay
 |@pointer a a' ha=>
  cases d with
  |pointer arr=>
   refine(zja (.pointer ha)).bind λ S b b' _ e=>?_
   obtain⟨rfl,hb⟩:=e
   refine .q (lX h arr) λ d2=>?_
   cases d2 with
   |array n elem=>
    refine .q (Ho _ _ _ hl hh hm) λ c=>?_
    refine .q (wH h elem) λ k=>.pure ?_
    split
    ·exact .slice _ _ hb
    ·exact .slice _ _ (hb.add _)
   |_=>exact .dead ay
  |_=>exact .dead ay
 |_=>cases d<;>first|exact .dead ay|exact .dead (dg.seq ay)|exact .dead (dg.seq (eu _))
theorem zb7(h:PE P P')(t:au){v v':aj}(hv:VR R v v'){l m:Option aj}(hl:OV R l l')(hh:OV R hi X8)(hm:OV R m m'):
  SV P P' R (iQ t v l hi m) (iQ t v' l' X8 m'):=by
 refine .q (lX h t) λ d=>?_
 cases d with
 |array n elem=>
  refine(Fp hv).bind λ S b b' _ e=>?_
  obtain⟨rfl,hb⟩:=e
  refine .q (Ho _ _ _ hl hh hm) λ c=>?_
  refine .q (wH h elem) λ k=>.pure ?_
  split
  ·exact .slice _ _ hb
  ·exact .slice _ _ (hb.add _)
 |_=>exact zjB h t hv hl hh hm
theorem zb5(h:PE P P')(t:au){v v':aj}(hv:VR R v v')(hx:VR R x x'):SV P P' R (iP t v x) (iP t v' x'):=by
 refine .q (J3 hx) λ a=>?_
 obtain⟨k,i⟩:=a
 refine .q (lX h t) λ d=>?_
 cases d
 case' array len elem=>
  refine(Fp hv).bind λ S b b' _ e=>?_
  obtain⟨rfl,hb⟩:=e
  refine SR.bind (A:=λ S' (a b:Option cr×Nat×au)=>S'=S/\OA S' a.1 b.1/\a.2=b.2) (.pure (a:=(ab b,len,elem)) (b:=(ab b',len,elem)) ⟨rfl,(show OA S (ab b) (ab b') from hb),rfl⟩) λ S a b _ e=>?_
 case' slice elem=>
  cases hv
  case' slice a0 a0' l c ha=>
   refine SR.bind (A:=λ S' (a b:Option cr×Nat×au)=>S'=R/\OA S' a.1 b.1/\a.2=b.2) (.pure (a:=(a0,l,elem)) (b:=(a0',l,elem)) ⟨rfl,ha,rfl⟩) λ S a b _ e=>?_
 all_goals first
  |exact .dead (dg.seq ay)
  |(cases hv<;>exact .dead (dg.seq ay))
  |skip
 all_goals
  obtain⟨rfl,h1,h2⟩:=e
  obtain⟨base,len,elem⟩:=a
  obtain⟨AQ,zD4,UG⟩:=b
  simp only[bz] at h2
  obtain⟨rfl,rfl⟩:=h2
  refine .q (lX h t) λ d2=>?_
  cases base with
  |none=>
   cases AQ with
   |none=>exact .dead (sc _ _ _ _)
   |some b=>exact h1.elim
  |some a=>
   cases AQ with
   |none=>exact h1.elim
   |some a'=>
    simp only
    split
    ·exact .q (wH h elem) λ n=>.pure (.pointer (AR.add h1 _))
    ·refine .dead ?_
     repeat' split
     all_goals first|exact cg _ rfl|exact sc _ _ _ _
theorem SR.under(h:PE P P')(t:au){f:ia->Sem γ}{f':ia->Sem δ}(k:∀d,P.underlying t=ab d->SR P P' B R (f d) (f' d)):SR P P' B R (underlying t >>= f) (underlying t >>= f'):=
 (zje h t).bind λ S a b _ e=>by obtain⟨rfl,rfl,e⟩:=e;exact k a e
theorem SR.info(h:PE P P')(t:au){f:lx->Sem γ}{f':lx->Sem δ}(k:∀d,P.info? t=ab d->SR P P' B R (f d) (f' d)):SR P P' B R (dQ t >>= f) (dQ t >>= f'):=
 (W5 h t).bind λ S a b _ e=>by obtain⟨rfl,rfl,e⟩:=e;exact k a e
theorem dg.info{t:au}{f:lx->Sem γ}(k:∀d,P.info? t=ab d->dg P (f d)):dg P (dQ t >>= f):=by
 refine dg.program ?_
 show dg P ((match P.info? t with|some i=>Sem.pure i|none=>stuck "no such type").bind f)
 cases hi:P.info? t with
 |none=>exact ay.bind f
 |some i=>exact k i hi
def tT(P:aG)(t:au):Bool:=match P.info? t with
 |some { desc:=.named "sync.copyChecker" _,.. }=>aa
 |_=>ae
def zmx(P:aG):Nat->au->Bool
 |0,_=>aa
 |d+1,t=>match P.underlying t with
  |some .bool=>ae
  |some (.int _)=>tT P t
  |some .string=>ae
  |some (.struct fs)=>!P.stoodInHeld t && fs.all λ f=>f.name == "_" || zmx P d f.type
  |_=>aa
theorem zeu(r:Nat):Calm P (Hn r):=by
 unfold Hn
 refine Calm.seq (s:=shape r) (.shape λ x=>.pure x) λ x=>?_
 split
 ·exact .pure _
 ·refine Calm.seq (s:=getObj r) (.getObj λ o=>.pure o) λ o=>?_
  split<;>exact .pure _
theorem pD(a:cr):Calm P (iO a):=(zeu _).seq λ x=>.pure _
variable{k0:cZ}{y y':aj}
theorem ZA(h:PE P P')(d:Nat)(ht:P.underlying t=ab (.int k0))(hp:tT P t=ae)(hx:VR R x x')(hy:VR R y y'):
  SR P P' (λ S a b=>S=R/\a=b/\(a=ae->∃k n,x=.int k n/\y=.int k n)) R (zFO (d+1) t x y) (zFO (d+1) t x' y'):=by
 unfold zFO
 refine SR.under h t λ e he=>?_
 rw[ht] at he
 cases he
 cases hx with
 |int k n=>
  cases hy with
  |int k' n'=>
   simp only
   split
   ·rename_i hk
    subst hk
    refine .pure ⟨rfl,rfl,λ e=>⟨k,n,rfl,?_⟩⟩
    rw[eq_of_beq e]
   ·exact .dead ay
  |@pointer a a' ha=>
   cases a<;>cases a'<;>first|exact ha.elim|skip
   ·exact .dead (by first|exact ay|exact cg _ rfl)
   ·by_cases hn:n=0
    ·subst hn;exact .pure ⟨rfl,rfl,λ e=>by cases e⟩
    ·refine .dead ?_
     split<;>first|(rename_i e;cases e;exact absurd rfl hn)|exact cg _ rfl|exact ay|skip
     all_goals simp_all
  |_=>exact .dead (by first|exact ay|exact cg _ rfl)
 |@pointer a a' ha=>
  cases a<;>cases a'<;>first|exact ha.elim|skip
  ·cases hy with
   |@pointer b b' hb=>cases b<;>exact .dead (by first|exact ay|exact cg _ rfl)
   |_=>exact .dead (by first|exact ay|exact cg _ rfl)
  ·rename_i p p'
   cases hy with
   |int k n=>
    by_cases hn:n=0
    ·subst hn;exact .pure ⟨rfl,rfl,λ e=>by cases e⟩
    ·refine .dead ?_
     split<;>first|(rename_i e;cases e;exact absurd rfl hn)|exact cg _ rfl|exact ay|skip
     all_goals simp_all
   |@pointer b b' hb=>
    cases b<;>cases b'<;>first|exact hb.elim|skip
    ·exact .dead (by first|exact ay|exact cg _ rfl)
    ·refine .dead ?_
     refine(pD _).then λ u=>(pD _).then λ v=>?_
     have nf:(u.1.block == v.1.block && decide (u.1.block<P.globals.size))=aa:=by simp[h.none]
     refine dg.program ?_
     show dg P (if (u.1.block == v.1.block && decide (u.1.block<P.globals.size))=ae then _ else (dQ t >>= _))
     rw[if_neg (by simp[nf])]
     refine dg.info λ i hi=>?_
     unfold tT at hp
     rw[hi] at hp
     split
     ·rename_i hd
      obtain⟨ds,_⟩:=i
      simp only at hd
      subst hd
      simp at hp
     ·exact cg _ rfl
   |_=>exact .dead (by first|exact ay|exact cg _ rfl)
 |_=>cases hy<;>exact .dead (by first|exact ay|exact cg _ rfl)
theorem zdC{σ:Type}{f f':σ->α->Sem (ForInStep α)}:∀(l:List σ) (a:α),(∀x∈l,∀a,SQ P P' R (f x a) (f' x a))->SQ P P' R (forIn l a f) (forIn l a f')
 |[],a,_=>by simp only[List.forIn_nil];exact gg _
 |x::l,a,h=>by
  simp only[List.forIn_cons]
  refine .q (h x (by simp) a) λ s=>?_
  cases s with
  |done b=>exact gg _
  |yield b=>exact zdC l b λ y hy=>h y (by simp[hy])
theorem zh5(h:PE P P')(t:au){x x':Array aj}(hx:AV R x x')(off:Nat):SR P P' (λ S a b=>S=R/\VR R a b) R (part t x off) (part t x' off):=by
 refine .q (zno h t) λ b=>?_
 cases b with
 |true=>exact .q (wH h t) λ n=>.pure ⟨rfl,VR.zf8 (hx.extract _ _)⟩
 |false=>
  rcases hx.get off with⟨e,e'⟩|⟨v,v',e,e',hv⟩
  ·simp only[e,e'];exact .dead ay
  ·simp only[e,e'];exact .pure ⟨rfl,hv⟩
theorem Vj(h:PE P P')(hs:∀t,P'.stoodInHeld t=P.stoodInHeld t):∀(e d:Nat) (t:au) {x x' y y':aj},zmx P e t=ae->VR R x x'->VR R y y'->SQ P P' R (zFO d t x y) (zFO d t x' y')
 |0,_,_,_,_,_,_,he,_,_=>by cases he
 |_+1,0,_,_,_,_,_,_,_,_=>.dead (cg _ rfl)
 |e+1,d+1,t,x,x',y,y',he,hx,hy=>by
  unfold zmx at he
  split at he
  ·rename_i hu
   unfold zFO
   refine SR.under h t λ e he=>?_
   rw[hu] at he
   cases he
   cases hx<;>first
    |(cases hy<;>first|exact gg _|exact .dead ay)
    |exact .dead ay
  ·rename_i k hu
   exact(ZA h d hu he hx hy).mono λ S a b x=>⟨x.1,x.2.1⟩
  ·rename_i hu
   unfold zFO
   refine SR.under h t λ e he=>?_
   rw[hu] at he
   cases he
   cases hx<;>first
    |(cases hy<;>first|exact gg _|exact .dead ay)
    |exact .dead ay
  ·rename_i fs hu
   simp only[aE,kP,aT,iv,beq_iff_eq] at he
   unfold zFO
   refine SR.under h t λ e2 he2=>?_
   rw[hu] at he2
   cases he2
   cases hx with
   |@agg c c' hc ha=>
    cases hy with
    |@agg c2 c2' hc2 ha2=>
     refine .program ?_
     show SR P P' _ R (if P.stoodInHeld t=ae then _ else _) (if P'.stoodInHeld t=ae then _ else _)
     rw[hs,he.1]
     simp only[ca,if_false]
     refine SR.q (s:=forIn fs _ _) (s':=forIn fs _ _) ?_ λ s=>?_
     ·rw[<-Array.forIn_toList,<-Array.forIn_toList]
      refine zdC _ _ λ f hf a=>?_
      by_cases hn:f.name≠ "_"
      ·simp only[if_pos hn]
       have hq:=(he.2 f (by simpa using hf)).resolve_left hn
       refine(zh5 h _ ⟨hc,ha⟩ _).bind λ S u u' _ e1=>?_
       obtain⟨e0,hu1⟩:=e1
       replace e0:=e0.symm
       subst e0
       refine(zh5 h _ ⟨hc2,ha2⟩ _).bind λ S v v' _ e2=>?_
       obtain⟨e0,hv1⟩:=e2
       replace e0:=e0.symm
       subst e0
       refine .q (Vj h hs _ _ _ hq hu1 hv1) λ b=>?_
       cases b<;>exact gg _
      ·simp only[if_neg hn];exact gg _
     ·obtain⟨s1,s2⟩:=s
      cases s1<;>exact gg _
    |_=>exact .dead ay
   |_=>cases hy<;>exact .dead ay
  ·cases he
def EL(R:BR):List eI->List eI->Prop
 |[],[]=>True
 |e::l,e'::l'=>ME R e e'/\EL R l l'
 |_,_=>False
theorem EA.list{x x':Array eI}(h:EA R x x'):EL R x.toList x'.toList:=by
 obtain⟨l⟩:=x
 obtain⟨l'⟩:=x'
 obtain⟨h1,h2⟩:=h
 simp only[jg] at h1
 simp only[dG] at h2
 show EL R l l'
 induction l generalizing l' with
 |nil=>cases l' with|nil=>trivial|cons=>simp at h1
 |cons v l ih=>
  cases l' with
  |nil=>simp at h1
  |cons v' l'=>exact⟨h2 0 v v' rfl rfl,ih l' (by simpa using h1) λ i u u' hu mS=>h2 (i+1) u u' (by simpa using hu) (by simpa using mS)⟩
def Found(R:BR)(k:aj)(es:List eI)(n:Nat):Option (Nat×aj)->Option (Nat×aj)->Prop
 |none,ak=>True
 |some (i,v),ab (j,v')=>i=j/\VR R v v'/\∃kk m,k=.int kk m/\n<=i/\∃e,es[i-n]?=ab e/\e.key=.int kk m
 |_,_=>False
variable{k:aj}
theorem Found.next{es:List eI}{e:eI}{n:Nat}:∀{a b:Option (Nat×aj)},Found R k es (n+1) a b->Found R k (e::es) n a b
 |none,ak,_=>trivial
 |some (i,v),ab (j,v'),⟨h1,h2,kk,m,h3,h4,e',h5,h6⟩=>⟨h1,h2,kk,m,h3,by omega,e',by rw[show i-n=(i-(n+1))+1 by omega];simpa using h5,h6⟩
 |none,ab _,h=>h.elim
 |some _,ak,h=>h.elim
theorem zh1{k k':aj}(hk:VR R k k')(k0:cZ):∀{l l':List eI} (n:Nat),EL R l l'->
  (lb (.int k0) k l n=ak/\lb (.int k0) k' l' n=ak)\/∃a b,lb (.int k0) k l n=ab a/\lb (.int k0) k' l' n=ab b/\Found R k l n a b
 |[],[],n,_=>.inr ⟨ak,ak,rfl,rfl,trivial⟩
 |[],_::_,_,h=>h.elim
 |_::_,[],_,h=>h.elim
 |e::l,e'::l',n,⟨he,hl⟩=>by
  obtain⟨ek,ev,eb⟩:=e
  obtain⟨ek',ev',eb'⟩:=e'
  obtain⟨h1,h2,h3⟩:=he
  simp only at h1 h2 h3
  simp only[lb]
  cases hk with
  |int kk m=>
   cases h1 with
   |int kk' m'=>
    simp only[Instr.sameNow]
    by_cases hkk:kk=kk'
    ·subst hkk
     simp only[if_true]
     by_cases hm:m=m'
     ·subst hm
      simp only[beq_self_eq_true]
      exact .inr ⟨_,_,rfl,rfl,rfl,h2,kk,m,rfl,aA _,⟨.int kk m,ev,eb⟩,by simp,rfl⟩
     ·have hb:(m == m')=aa:=by simpa using hm
      simp only[hb]
      rcases zh1 (.int kk m) k0 (n+1) hl with h|⟨a,b,g1,g2,g3⟩
      ·exact .inl h
      ·exact .inr ⟨a,b,g1,g2,g3.next⟩
    ·simp only[if_neg hkk];exact .inl ⟨trivial,trivial⟩
   |_=>exact .inl ⟨rfl,rfl⟩
  |_=>cases h1<;>exact .inl ⟨rfl,rfl⟩
theorem Zy(h:PE P P'){t:au}{k0:cZ}(ht:P.underlying t=ab (.int k0))(hp:tT P t=ae){k k':aj}(hk:VR R k k'):∀{l l':List eI} (n:Nat),EL R l l'->
  SR P P' (λ S a b=>S=R/\Found R k l n a b) R (Instr.findAsking t k l n) (Instr.findAsking t k' l' n)
 |[],[],n,_=>.pure ⟨rfl,trivial⟩
 |[],_::_,_,h=>h.elim
 |_::_,[],_,h=>h.elim
 |e::l,e'::l',n,⟨he,hl⟩=>by
  refine(ZA h 9999 ht hp hk he.key).bind λ S a b _ e2=>?_
  obtain⟨e0,rfl,e3⟩:=e2
  replace e0:=e0.symm
  subst e0
  cases a with
  |true=>
   obtain⟨kk,m,g1,g2⟩:=e3 rfl
   exact .pure ⟨rfl,rfl,he.val,kk,m,g1,aA _,e,by simp,g2⟩
  |false=>exact(Zy h ht hp hk (n+1) hl).mono λ S a b x=>⟨x.1,x.2.next⟩
variable{k':aj}
theorem zh3(h:PE P P')(ht:P.underlying t=ab (.int k0))(hp:tT P t=ae)(hk:VR R k k'){es es':Array eI}(he:EA R es es'):
  SR P P' (λ S a b=>S=R/\Found R k es.toList 0 a b) R (oE t k es.toList) (oE t k' es'.toList):=by
 refine SR.under h t λ d hd=>?_
 rw[ht] at hd
 cases hd
 rcases zh1 hk k0 0 he.list with⟨g1,g2⟩|⟨a,b,g1,g2,g3⟩
 ·simp only[g1,g2];exact Zy h ht hp hk 0 he.list
 ·simp only[g1,g2];exact .pure ⟨rfl,g3⟩
theorem Qw(h:PE P P')(ht:P.underlying t=ab (.int k0))(b b':Bool)(v v':aj):SQ P P' R (nK b 10000 t v) (nK b' 10000 t v'):=by
 refine SR.under h t λ d hd=>?_
 rw[ht] at hd
 cases hd
 exact gg _
theorem EA.push{x x':Array eI}(h:EA R x x'){v v':eI}(hv:ME R v v'):EA R (x.push v) (x'.push v'):=by
 refine⟨by simp[h.size],λ i u u' hu mS=>?_⟩
 rw[bJ] at hu mS
 rw[<-h.size] at mS
 by_cases e:i=x.size
 ·rw[if_pos e] at hu mS;cases hu;cases mS;exact hv
 ·rw[if_neg e] at hu mS;exact h.at_ i u u' hu mS
theorem EA.get{x x':Array eI}(h:EA R x x'){i:Nat}{e:eI}(he:x[i]?=ab e):∃e',x'[i]?=ab e'/\ME R e e':=by
 have hi:i<x'.size:=by rw[<-h.size];exact(ah.1 he).1
 exact⟨x'[i],by simp[hi],h.at_ i e _ he (by simp[hi])⟩
theorem EA.modify{x x':Array eI}(h:EA R x x')(i:Nat){f f':eI->eI}(hf:∀e e',ME R e e'->ME R (f e) (f' e')):EA R (x.modify i f) (x'.modify i f'):=by
 refine⟨by simp[h.size],λ j u u' hu mS=>?_⟩
 rw[du] at hu mS
 by_cases e:i=j
 ·rw[if_pos e] at hu mS
  cases hx:x[j]? with
  |none=>rw[hx] at hu;cases hu
  |some a=>
   obtain⟨a',ha',hm⟩:=h.get hx
   rw[hx] at hu;rw[ha'] at mS
   simp only[cO,aF] at hu mS
   subst hu mS
   exact hf _ _ hm
 ·rw[if_neg e] at hu mS;exact h.at_ j u u' hu mS
variable{r r':Nat}
theorem Kc{l:Nat}(h:R r r' l){f:Obj->Sem γ}{f':Obj->Sem δ}(km:∀es es' clock,EA R es es'->SR P P' B R (f (.map es clock)) (f' (.map es' clock)))(kc:∀a b c d e g,dg P (f (.chan a b c d e g)))
  (kx:∀c e g,dg P (f (.cells c e g))) (kn:∀a b,dg P (f (.number a b))):SR P P' B R (getObj r >>= f) (getObj r' >>= f'):=
 .getObj h λ o o' ho=>by
  cases ho with
  |cells _ hs hc hf=>exact .dead (kx ..)
  |map clock he=>exact km _ _ _ he
  |chan=>exact .dead (kc ..)
  |number=>exact .dead (kn ..)
def UM(P:aG)(t:au):Bool:=match P.underlying t with
 |some (.map k _)=>(match P.underlying k with
  |some (.int _)=>tT P k
  |_=>aa)
 |_=>aa
theorem Qq(h:UM P t=ae):∃k e k0,P.underlying t=ab (.map k e)/\P.underlying k=ab (.int k0)/\tT P k=ae:=by
 unfold UM at h
 split at h
 ·rename_i k e he
  split at h
  ·rename_i k0 hk
   exact⟨k,e,k0,he,hk,h⟩
  ·cases h
 ·cases h
theorem Iu(h:PE P P')(ht:UM P t=ae){m m' v v':aj}(hm:VR R m m')(hk:VR R k k')(hv:VR R v v'):
  SR P P' (λ _ _ _=>True) R (mo t m k v) (mo t m' k' v'):=by
 obtain⟨kt,e,k0,h1,h2,h3⟩:=Qq ht
 unfold mo
 refine SR.under h t λ d hd=>?_
 rw[h1] at hd
 cases hd
 cases hm with
 |@map r r' hr=>
  cases r<;>cases r'<;>first|exact hr.elim|skip
  ·exact .dead (eu _)
  ·obtain⟨l,hr⟩:=hr
   refine Kc hr (λ es es' clock he=>?_) (λ _ _ _ _ _ _=>ay) (λ _ _ _=>ay) (λ _ _=>ay)
   refine .q (Qw h h2 _ _ _ _) λ _=>?_
   refine(zh3 h h2 h3 hk he).bind λ S a b _ x=>?_
   obtain⟨e0,hf⟩:=x
   replace e0:=e0.symm
   subst e0
   match a,b,hf with
   |none,ak,_=>exact .setObj hr (λ m=>.map _ (he.push ⟨hk,hv,rfl⟩)) (.pure trivial)
   |some (i,u),ab (j,u'),⟨hij,hu,kk,mm,hkm,hi,en,hen,zuD⟩=>
    subst hij hkm
    have zuy:es[i]?=ab en:=by simpa using hen
    obtain⟨en',he1,he2⟩:=he.get zuy
    cases hk
    have tl:=he2.key
    rw[zuD] at tl
    generalize hq:en'.key=q at tl
    cases tl
    simp only[zuy,he1,cO,cS,zuD,hq]
    have hs:Instr.sameBits 10000 (.int kk mm) (.int kk mm)=ae:=by simp[Instr.sameBits]
    refine SR.bind (A:=λ S a b=>S=R/\a=b/\a=.int kk mm) ?_ λ S a b _ x=>?_
    ·unfold Instr.keyThatStays
     rw[if_pos hs]
     exact .pure ⟨rfl,rfl,rfl⟩
    ·obtain⟨e0,rfl,rfl⟩:=x
     replace e0:=e0.symm
     subst e0
     exact .setObj hr (λ m=>.map _ (he.modify i λ e e' hm=>⟨.int _ _,hv,hm.born⟩)) (.pure trivial)
 |_=>exact .dead ay
theorem ze8(h : PE P P')(ht : UM P t = ae)(hz : ∀ k e, P.underlying t = ab (.map k e) → ZOk P e){m m': aj}(hm : VR R m m')(hk : VR R k k') :
    SV P P' R (ta t m k aa) (ta t m' k' aa) := by
  obtain ⟨kt, e, k0, h1, h2, h3⟩ := Qq ht
  unfold ta
  refine SR.under h t fun d hd => ?_
  rw [h1] at hd
  cases hd
  have fin : ∀ {es es' : Array eI}, EA R es es' → SV P P' R
      (do nK es.isEmpty 10000 kt k
          let x ← oE kt k es.toList
          let (v, ok) ← match x with
            | some (_, v) => bN (v, ae)
            | none => bN (← ee e, aa)
          bN (if aa = ae then .tuple #[v, .bool ok] else v))
      (do nK es'.isEmpty 10000 kt k'
          let x ← oE kt k' es'.toList
          let (v, ok) ← match x with
            | some (_, v) => bN (v, ae)
            | none => bN (← ee e, aa)
          bN (if aa = ae then .tuple #[v, .bool ok] else v)) := by
    intro es es' he
    refine .q (Qw h h2 _ _ _ _) fun _ => ?_
    refine (zh3 h h2 h3 hk he).bind fun S a b _ x => ?_
    obtain ⟨e0, hf⟩ := x
    replace e0 := e0.symm
    subst e0
    match a, b, hf with
    | none, ak, _ => exact .seq (G7 h (hz _ _ h1)) fun S u u' _ hu => .pure hu
    | some (i, u), ab (j, u'), ⟨_, hu, _⟩ => exact .pure hu
  cases hm with
  | @map r r' hr =>
    cases r <;> cases r' <;> first | exact hr.elim | skip
    · exact fin (es := #[]) (es' := #[]) ⟨rfl, fun i v v' a b => by simp at a⟩
    · obtain ⟨l, hr⟩ := hr
      exact Kc hr (fun es es' clock he => fin he) (fun _ _ _ _ _ _ => dg.seq ay) (fun _ _ _ => dg.seq ay) (fun _ _ => dg.seq ay)
  | _ => exact .dead (dg.seq ay)
def vp:aj->Bool
 |.bool _|.int _ _|.string _|.pointer ak|.slice ak _ _|.map ak|.chan ak|.nilFunc|.nilIface=>ae
 |_=>aa
def zcV:aj->Bool
 |.agg cs=>cs.all vp
 |v=>vp v
theorem G0{v:aj}(h:vp v=ae):VR R v v:=by
 unfold vp at h
 split at h<;>first
  |exact .bool _
  |exact .int _ _
  |exact .string _
  |exact .pointer trivial
  |exact .slice _ _ trivial
  |exact .map trivial
  |exact .chan trivial
  |exact .nilFunc
  |exact .nilIface
  |cases h
theorem zdo{v:aj}(h:zcV v=ae):VR R v v:=by
 unfold zcV at h
 split at h
 ·rename_i cs
  refine .agg rfl λ i u u' hu mS=>?_
  rw[hu] at mS
  cases mS
  rw[aT] at h
  exact G0 (h u (df hu))
 ·exact G0 h
def zOk(P:aG)(t:au):Bool:=match P.info? t with
 |some i=>(match i.zero with
  |some v=>zcV v
  |none=>ae)
 |none=>ae
theorem xC(h:zOk P t=ae):ZOk P t:=by
 intro i v hi hv R
 unfold zOk at h
 rw[hi] at h
 simp only[hv] at h
 exact zdo h
theorem zh4 (h : PE P P') : ∀ (fs : List Field) (acc : Array (Nat × Nat)), SQ P P' R (fs.foldlM (fun (bs : Array (Nat × Nat)) (f : Field) => Functor.map bs.push (do let x ← jl f.type; bN (f.offset, x) : Sem (Nat × Nat))) acc) (fs.foldlM (fun (bs : Array (Nat × Nat)) (f : Field) => Functor.map bs.push (do let x ← jl f.type; bN (f.offset, x) : Sem (Nat × Nat))) acc)
  | [], acc => by simp only [zV]; exact gg _
  | f :: fs, acc => by
    simp only [iE]
    refine SR.q (f := fun s => fs.foldlM _ s) ?_ fun a => zh4 h fs a
    show SQ P P' R ((jl f.type >>= fun x => bN (f.offset, x)) >>= fun y => bN (acc.push y)) ((jl f.type >>= fun x => bN (f.offset, x)) >>= fun y => bN (acc.push y))
    exact .q (.q (wH h _) fun n => gg _) fun n => gg _
theorem zjd(h : PE P P')(fs : Array Field) : SQ P P' R (fs.mapM fun f => (do bN (f.offset, ← jl f.type) : Sem (Nat × Nat))) (fs.mapM fun f => (do bN (f.offset, ← jl f.type) : Sem (Nat × Nat))) := by
  rw [gm, ← iq]
  exact zh4 (R := R) h fs.toList #[]
theorem zjy(h:PE P P')(hz:ZOk P t){ps ps':Array (Nat×aj)}(hp:LP R ps.toList ps'.toList):SV P P' R (iV t ps) (iV t ps'):=by
 unfold iV
 refine(SR.mono (A':=λ S a b=>S=R/\VR R a b) ?_ λ _ _ _ x=>x).bind λ S v v' _ x=>?_
 ·refine(W5 h t).bind λ S a b _ e=>?_
  obtain⟨e0,rfl,hi⟩:=e
  replace e0:=e0.symm
  subst e0
  cases hv:a.zero with
  |none=>exact .dead (cg _ rfl)
  |some v=>exact .pure ⟨rfl,hz a v hi hv _⟩
 ·obtain⟨e0,hv⟩:=x
  replace e0:=e0.symm
  subst e0
  refine .q (lX h t) λ d=>?_
  cases d with
  |struct fields=>
   refine .q (zjd h fields) λ places=>?_
   rcases OK (R:=R) (λ i=>places[i]?) hv.cells hp with⟨e,e'⟩|⟨d,d',e,e',hd⟩
   ·simp only[e,e'];exact .dead ay
   ·simp only[e,e'];exact .pure (VR.zf8 hd)
  |array n elem=>
   refine .q (wH h elem) λ sz=>?_
   rcases OK (R:=R) (λ i=>ab (i*sz,sz)) hv.cells hp with⟨e,e'⟩|⟨d,d',e,e',hd⟩
   ·simp only[e,e'];exact .dead ay
   ·simp only[e,e'];exact .pure (VR.zf8 hd)
  |_=>exact .dead ay
variable{z z':Array aj}
theorem AV.rep(h:AV R z z')(n:Nat):AV R ((iU n).map λ i=>z[i % z.size]!) ((iU n).map λ i=>z'[i % z'.size]!)\/z.size=0:=by
 by_cases h0:z.size=0
 ·exact .inr h0
 ·refine .inl ⟨by simp,λ i u u' hu mS=>?_⟩
  simp only[kg] at hu mS
  cases hi:(iU n)[i]? with
  |none=>rw[hi] at hu;cases hu
  |some j=>
   rw[hi] at hu mS
   simp only[cO,aF] at hu mS
   have cj:j % z.size<z.size:=nD _ (by omega)
   have zgc:j % z'.size<z'.size:=nD _ (by rw[<-h.size];omega)
   refine h.at_ (j % z.size) u u' ?_ ?_
   ·rw[<-hu,getElem!_pos z _ cj,bj cj]
   ·rw[<-mS,h.size,getElem!_pos z' _ zgc,bj zgc]
theorem AV.zrh(h:AV R z z')(n:Nat):AV R ((iU n).map λ i=>z[i % z.size]!) ((iU n).map λ i=>z'[i % z'.size]!):=by
 rcases h.rep n with h1|h1
 ·exact h1
 ·have h2:z=#[]:=q9 h1
  have h3:z'=#[]:=q9 (by rw[<-h.size];exact h1)
  subst h2 h3
  refine⟨by simp,λ i u u' hu mS=>?_⟩
  rw[hu] at mS
  cases mS
  simp only[kg] at hu
  cases hi:(iU n)[i]? with
  |none=>rw[hi] at hu;cases hu
  |some j=>
   rw[hi] at hu
   simp at hu
   subst hu
   exact .bool _
theorem ZJ(h:PE P P')(hz:ZOk P t):SR P P' (λ S a b=>S=R/\VR R a b) R (ee t) (ee t):=by
 refine(W5 h t).bind λ S a b _ e=>?_
 obtain⟨e0,rfl,hi⟩:=e
 replace e0:=e0.symm
 subst e0
 cases hv:a.zero with
 |none=>exact .dead (cg _ rfl)
 |some v=>exact .pure ⟨rfl,hz a v hi hv _⟩
def LU(P:aG)(t:au):Bool:=match P.underlying t with
 |some (.slice e)=>zOk P e
 |_=>aa
theorem FC{e:au}(h:LU P t=ae)(hu:P.underlying t=ab (.slice e)):ZOk P e:=by
 unfold LU at h
 rw[hu] at h
 exact xC h
theorem Ud(h : PE P P')(ht : LU P t = ae)(n : Nat){ps ps': Array (Nat × aj)}(hp : LP R ps.toList ps'.toList) : SV P P' R (lE t n ps) (lE t n ps') := by
  unfold lE
  refine SR.under h t fun d hd => ?_
  cases d with
  | slice elem =>
    refine .q (wH h elem) fun sz => ?_
    by_cases hb : n * sz > 2 ^ 24
    · simp only [if_pos hb]; exact .dead (dg.seq (cg _ rfl))
    · simp only [if_neg hb]
      have fin : ∀ {z z' : Array aj}, AV R z z' → SV P P' R
          (match eJ (fun i => ab (i * sz, sz)) ((iU (n * sz)).map (z[· % z.size]!)) ps.toList with
            | some cells => (do bN (.slice (ab (← yM elem cells)) n n) : Sem aj)
            | _ => stuck "buildSlice: a part of the wrong size")
          (match eJ (fun i => ab (i * sz, sz)) ((iU (n * sz)).map (z'[· % z'.size]!)) ps'.toList with
            | some cells => (do bN (.slice (ab (← yM elem cells)) n n) : Sem aj)
            | _ => stuck "buildSlice: a part of the wrong size") := by
        intro z z' hz
        rcases OK (R := R) (fun i => ab (i * sz, sz)) (hz.zrh (n * sz)) hp with ⟨e, e'⟩ | ⟨d, d', e, e', hd⟩
        · simp only [e, e']; exact .dead ay
        · simp only [e, e']
          exact .seq (xJ elem hd) fun S a a' _ ha => .pure (.slice _ _ ha)
      by_cases h0 : n * sz = 0
      · simp only [if_pos h0]
        exact fin (z := #[]) (z' := #[]) AV.nil
      · simp only [if_neg h0]
        refine (ZJ h (FC ht hd)).bind fun S v v' _ x => ?_
        obtain ⟨e0, hv⟩ := x
        replace e0 := e0.symm
        subst e0
        exact fin hv.cells
  | _ => exact .dead ay
theorem Vi(n:Nat):SQ P P' R (askRoom n) (askRoom n):=by
 unfold askRoom
 split
 ·exact .mark rfl (gg ())
 ·exact gg _
theorem zb6(t:au):SV P P' R (DX t ak) (DX t ak):=
 .new (.map 0 ⟨rfl,λ i v v' a=>by simp at a⟩) λ n n'=>.pure (.map ⟨0,.inr ⟨rfl,rfl,rfl⟩⟩)
theorem zaf(h:PE P P')(t:au){v v':aj}(hv:VR R v v'):SV P P' R (uu t v) (uu t v'):=by
 unfold uu
 refine .q (OS hv) λ n=>?_
 refine .q (lX h t) λ d=>?_
 cases d with
 |chan dir elem=>
  refine .q (A1 h elem) λ i=>?_
  dsimp only
  split
  ·exact .dead (dg.seq (eu _))
  ·exact .new (.chan _ aa 0 0 aa AV.nil) λ n n'=>.pure (.chan ⟨0,.inr ⟨rfl,rfl,rfl⟩⟩)
 |_=>exact .dead ay
theorem XL(h : PE P P')(ht : LU P t = ae){l l' c c': aj}(hl : VR R l l')(hc : VR R c c') : SV P P' R (zS t l c) (zS t l' c') := by
  unfold zS
  refine SR.under h t fun d hd => ?_
  cases d with
  | slice elem =>
    refine .q (OS hl) fun n => ?_
    refine .q (OS hc) fun m' => ?_
    refine .q (A1 h elem) fun i => ?_
    dsimp only
    split
    · refine .dead ?_
      repeat' split
      all_goals first
        | exact dg.seq (eu _)
        | exact dg.seq (Calm.then (s := choose _) (.choose fun n => .pure n) fun _ => eu _)
        | exact Calm.then (s := choose _) (.choose fun n => .pure n) fun _ => dg.seq (eu _)
    · refine .q (Vi _) fun _ => ?_
      refine .q (wH h elem) fun sz => ?_
      have fin : ∀ {S : BR} {z z' : Array aj} (m : Nat), AV S z z' → SV P P' S (do let a ← yM elem ((iU m).map (z[· % z.size]!)); bN (.slice (ab a) (aL.wrap n).toNat (aL.wrap m').toNat)) (do let a ← yM elem ((iU m).map (z'[· % z'.size]!)); bN (.slice (ab a) (aL.wrap n).toNat (aL.wrap m').toNat)) := by
        intro S z z' m hz
        exact .seq (xJ elem (AV.zrh hz _)) fun T a a' _ (ha : AR T a a') => .pure (VR.slice (R := T) (a := ab a) (a' := ab a') _ _ ha)
      split
      · exact fin (z := #[]) (z' := #[]) _ AV.nil
      · refine (ZJ h (FC ht hd)).bind fun S v v' _ x => ?_
        obtain ⟨e0, hv⟩ := x
        replace e0 := e0.symm
        subst e0
        exact fin _ hv.cells
  | _ => exact .dead ay
theorem Uf(h : PE P P'){v v': aj}(hv : VR R v v')(xt : au)(ht : ZOk P t)(ok : Bool) : SV P P' R (qU v xt t ok) (qU v' xt t ok) := by
  have holds : ∀ {u u' : aj}, VR R u u' → SV P P' R (bN (if ok = ae then .tuple #[u, .bool ae] else u)) (bN (if ok = ae then .tuple #[u', .bool ae] else u')) := by
    intro u u' hu
    cases ok with
    | true => exact .pure (VR.tuple' ((AV.one hu).push (.bool ae)))
    | false => exact .pure hu
  have YE : ∀ (s d : Option au) (m : String), SV P P' R (if ok = ae then (do bN (.tuple #[← ee t, .bool aa])) else cV (.typeAssertion s d t m)) (if ok = ae then (do bN (.tuple #[← ee t, .bool aa])) else cV (.typeAssertion s d t m)) := by
    intro s d m
    cases ok with
    | true => exact .seq (G7 h ht) fun S u u' _ hu => .pure (VR.tuple' ((AV.one hu).push (.bool aa)))
    | false =>
      simp only [ca, if_false]
      exact .dead (eu _)
  unfold qU
  refine .q (lX h t) fun d => ?_
  cases hv with
  | @iface ty u u' hu =>
    cases d with
    | interface want =>
      refine .q (A1 h ty) fun i => ?_
      cases Instr.missingMethod want i.methods with
      | none => exact holds (.iface ty hu)
      | some m => exact YE _ _ _
    | _ =>
      simp only
      split
      · exact holds hu
      · exact YE _ _ _
  | nilIface => cases d <;> exact YE _ _ _
  | _ => cases d <;> exact .dead ay
theorem wU(size n:Nat){v v':aj}(hv:VR R v v'):SA P P' R (uL size n v) (uL size n v'):=by
 cases hv with
 |@slice a a' l c h=>
  cases a<;>cases a'<;>first|exact h.elim|skip
  ·exact .pure AV.nil
  ·exact It _ h 0 AV.nil
 |string s=>
  refine .pure ⟨rfl,λ i u u' hu mS=>?_⟩
  rw[hu] at mS
  cases mS
  simp only[kg] at hu
  cases hi:(s.extract 0 n).data[i]? with
  |none=>rw[hi] at hu;cases hu
  |some b=>rw[hi] at hu;simp only[cO,aF] at hu;subst hu;exact .int _ _
 |_=>exact .dead ay
theorem znp{v v':aj}(hv:VR R v v'):SQ P P' R (DT v) (DT v'):=by
 cases hv with
 |slice l c h=>exact gg _
 |string s=>exact gg _
 |_=>exact .dead ay
theorem AV.zeroCells(h:AV R z z')(n:Nat):AV R (m7 z n) (m7 z' n):=by
 unfold m7
 rw[<-h.size]
 have:=h.zrh (n*z.size)
 rw[<-h.size] at this
 exact this
theorem Qb(a:cr)(n:Nat):Calm P (uM a n):=by
 unfold uM
 refine Calm.seq (s:=shape a.block) (.shape λ x=>.pure x) λ x=>?_
 split<;>exact .pure _
theorem S9(size l n : Nat)(b : Option cr)(x : aj) : Calm P (Builtin.mayShare size l n b x) := by
  have fin : ∀ there : Bool, Calm P (if (!there) = ae then bN ae else match x with
      | .slice (ab b') _ _ => do bN (!(← uM b' (n * size)) || b.any (·.block == b'.block))
      | _ => bN aa) := by
    intro there
    split
    · exact .pure _
    · split
      · exact (Qb _ _).seq fun u => .pure _
      · exact .pure _
  unfold Builtin.mayShare
  cases b with
  | none => exact Calm.seq (.pure ae) fin
  | some a =>
    refine (Qb _ _).seq fun u => ?_
    refine Calm.seq (s := frozen _) (.frozen fun x => .pure x) fun v => ?_
    exact Calm.seq (.pure _) fin
theorem ze6(h:PE P P'){t2 ty:au}(ht:LU P t=ae)(h2:∀k,P.underlying t2≠ab (.int k)){v v':aj}(hv:VR R v v')(hx:VR R x x'):
  SV P P' R (oO #[t,t2] ty #[v,x]) (oO #[t,t2] ty #[v',x']):=by
 unfold oO
 simp only[dG,bE,List.getElem?_cons_succ]
 refine SR.under h t λ d hd=>?_
 cases d with
 |slice elem=>
  have hz:=FC ht hd
  cases hv with
  |@slice a a' l c ha=>
   refine .q (wH h elem) λ size=>?_
   refine SR.under h t2 λ d2 Ss=>?_
   cases d2<;>first|exact absurd Ss (h2 _)|skip
   all_goals
    simp only[pure_bind]
    simp only[ca,if_false,Bool.not_false,if_true,false_or]
    refine .q (znp hx) λ n=>?_
    by_cases hn:l+n<=c
    ·simp only[if_pos hn]
     refine .seq (wU size n hx) λ S y y' hS hy=>?_
     cases a<;>cases a'<;>first|exact ha.elim|skip
     ·exact .pure (VR.slice (R:=S) (a:=ak) (a':=ak) _ _ trivial)
     ·rename_i p p'
      exact .seq (wV ((AR.mono hS ha).add _) 0 hy.list) λ T _ _ hT _=>.pure (VR.slice (R:=T) (a:=ab p) (a':=ab p') _ _ (AR.mono hT (AR.mono hS ha)))
    ·simp only[if_neg hn]
     refine .q (A1 h elem) λ i=>?_
     split
     ·exact .dead (dg.seq (eu _))
     ·refine .q (A1 h elem) λ i2=>?_
      split
      ·refine .dead (dg.seq ?_)
       refine(S9 _ _ _ _ _).then λ b=>?_
       cases b
       ·exact dg.mark (cg _ rfl)
       ·exact cg _ rfl
      ·refine SR.q (s:=choose _) (s':=choose _) (.choose _ λ n=>gg n) λ cap=>?_
       refine .q (A1 h elem) λ i3=>?_
       refine .q (Vi _) λ _=>?_
       refine .seq (wU size l (.slice l c ha)) λ S y y' hS hy=>?_
       refine .seq (wU size n (hx.mono hS)) λ T u u' hT hu=>?_
       refine .seq (G7 h hz) λ U z z' hU hzz=>?_
       exact .seq (xJ elem ((((hy.mono hT).mono hU).app (hu.mono hU)).app (hzz.cells.zeroCells _))) λ V q q' _ (hq:AR V q q')=>.pure (VR.slice (R:=V) (a:=ab q) (a':=ab q') _ _ hq)
  |_=>exact .dead ay
 |_=>exact .dead ay
theorem PE.cellsOf(h:PE P P')(t:au):P'.cellsOf t=P.cellsOf t:=by simp only[Program.cellsOf,h.info]
theorem PE.bytesOf(h:PE P P')(t:au):P'.bytesOf t=P.bytesOf t:=by simp only[Program.bytesOf,h.info]
theorem PE.byteOfCell(h:PE P P'):∀(d:Nat) (t:au) (o:Nat),byteOfCell P' d t o=byteOfCell P d t o
 |0,_,_=>rfl
 |d+1,t,o=>by simp only[Go.byteOfCell,h.under,h.cellsOf,h.bytesOf,h.byteOfCell d]
theorem PE.cellOfByte(h:PE P P'):∀(d:Nat) (t:au) (o:Nat),cellOfByte P' d t o=cellOfByte P d t o
 |0,_,_=>rfl
 |d+1,t,o=>by simp only[Go.cellOfByte,h.under,h.cellsOf,h.bytesOf,h.cellOfByte d]
theorem PE.guard(h:PE P P'):∀(d:Nat) (t:au),P'.eqGuardType d t=P.eqGuardType d t
 |0,_=>rfl
 |d+1,t=>by simp only[Program.eqGuardType,h.under,h.guard d]
theorem PE.cellAt(h:PE P P'){d:Nat}{e:au}{n m off:Nat}{b:Int}{x:Nat}(hn:n<=m)(hx:lP P d e n off b=ab x):lP P' d e m off b=ab x:=by
 unfold lP at hx ⊢
 simp only[h.cellsOf,h.bytesOf,h.byteOfCell,h.cellOfByte]
 by_cases h0:(P.cellsOf e=0 || P.bytesOf e=0)=ae
 ·simp only[h0,if_true] at hx;cases hx
 ·simp only[h0,ca,if_false] at hx ⊢
  cases h1:Go.byteOfCell P d e (off % P.cellsOf e) with
  |none=>rw[h1] at hx;cases hx
  |some here=>
   rw[h1] at hx
   simp only[Option.bind_eq_bind,lG] at hx ⊢
   split at hx
   ·cases hx
   ·rename_i hc
    have hm:n*P.bytesOf e<=m*P.bytesOf e:=Nat.mul_le_mul_right _ hn
    rw[if_neg ?_]
    ·exact hx
    ·simp only[iv,decide_eq_true_eq,not_or,Int.not_lt,ge_iff_le,Int.not_le] at hc ⊢
     exact⟨hc.1,Int.lt_of_lt_of_le hc.2 (Int.ofNat_le.2 hm)⟩
def NA(R:BR):Option (cr×Bool)->Option (cr×Bool)->Prop
 |none,ak=>True
 |some x,ab x'=>AR R x.1 x'.1/\x.2=x'.2
 |_,_=>False
theorem SH.isSome{l:Nat}:∀{x x':Option (au×Nat)},SH l x x'->x'.isSome=x.isSome
 |none,ak,_=>rfl
 |some _,ab _,_=>rfl
theorem G5{l:Nat}(h:R r r' l):SR P P' (λ S a b=>S=R/\SH l a b) R (shape r) (shape r'):=.shape h λ x x' hx=>.pure ⟨rfl,hx⟩
theorem zbQ{l:Nat}(h:R r r' l):SR P P' (λ S a b=>S=R/\NA R a b) R (Hn r) (Hn r'):=by
 unfold Hn
 refine(G5 h).bind λ S x x' _ e=>?_
 obtain⟨rfl,hx⟩:=e
 rw[hx.isSome]
 split
 ·exact .pure ⟨rfl,trivial⟩
 ·refine .getObj h λ o o' ho=>?_
  cases ho with
  |number lost ha=>exact .pure ⟨rfl,ha,rfl⟩
  |_=>exact .pure ⟨rfl,trivial⟩
theorem ZB{l:Nat}(h:R r r' l):SR P P' (λ S a b=>S=R/\a=ak/\b=ak) R (viewAt r) (viewAt r'):=by
 unfold viewAt
 refine(G5 h).bind λ S x x' _ e=>?_
 obtain⟨rfl,hx⟩:=e
 rw[hx.isSome]
 split
 ·exact .pure ⟨rfl,rfl,rfl⟩
 ·refine .getObj h λ o o' ho=>?_
  cases ho<;>exact .pure ⟨rfl,rfl,rfl⟩
theorem Zz{a a':cr}(h:AR R a a'):SR P P' (λ S x y=>S=R/\AR R x.1 y.1/\x.2=y.2) R (iO a) (iO a'):=by
 have h0:=h
 obtain⟨⟨l,r,_⟩,_⟩:=h0
 refine(zbQ r).bind λ S x x' _ e=>?_
 obtain⟨rfl,hx⟩:=e
 cases x<;>cases x'<;>first|exact hx.elim|skip
 ·exact .pure ⟨rfl,h,rfl⟩
 ·exact .pure ⟨rfl,hx⟩
theorem Z7(h:PE P P')(t:au){a a':cr}(ha:AR R a a')(hy:VR R y y'):
  SR P P' (λ S x x'=>S=R/\∃b b',x=.pointer (ab b)/\x'=.pointer (ab b')/\AR R b b') R (gf #[] t #[.pointer (ab a),y]) (gf #[] t #[.pointer (ab a'),y']):=by
 have h0:=ha
 obtain⟨⟨l,r,hl⟩,e1,e2⟩:=h0
 unfold gf
 refine .q (OS hy) λ n=>?_
 by_cases hn:n=0
 ·simp only[if_pos hn]
  refine(ZB r).bind λ S x x' _ e=>?_
  obtain⟨rfl,rfl,rfl⟩:=e
  exact .pure ⟨rfl,a,a',rfl,rfl,ha⟩
 ·simp only[if_neg hn]
  by_cases hm:n<0
  ·simp only[if_pos hm];exact .dead (dg.seq (cg _ rfl))
  ·simp only[if_neg hm]
   refine(G5 r).bind λ S x x' _ e=>?_
   obtain⟨rfl,hx⟩:=e
   match x,x',hx with
   |none,ak,_=>exact .dead (cg _ rfl)
   |some (e,n0),ab (e',m0),.inl ⟨he,hnm,hl0⟩=>
    subst he
    refine .program ?_
    show SR P P' _ S (match lP P P.depth e' (n0/P.cellsOf e') a.off n with|some off=>_|none=>_) (match lP P' P'.depth e' (m0/P'.cellsOf e') a'.off n with|some off=>_|none=>_)
    cases hc:lP P P.depth e' (n0/P.cellsOf e') a.off n with
    |none=>exact .dead (cg _ rfl)
    |some off=>
     have:=h.cellAt (m:=m0/P.cellsOf e') (Nat.div_le_div_right hnm) hc
     rw[h.depth,h.cellsOf,<-e1,this]
     exact .pure ⟨rfl,_,_,rfl,rfl,⟨l,r,by simp only;omega⟩,rfl,e2⟩
   |some (e,n0),ab (e',m0),.inr ⟨he,_⟩=>
    subst he
    refine .dead (dg.program ?_)
    show dg P (match lP P P.depth sF (n0/P.cellsOf sF) a.off n with|some off=>_|none=>_)
    have:lP P P.depth sF (n0/P.cellsOf sF) a.off n=ak:=by
     unfold lP
     have:P.cellsOf sF=0:=by simp only[Program.cellsOf,h.no];rfl
     simp[this]
    rw[this]
    exact cg _ rfl
theorem qj(h:PE P P')(hx:VR R x x')(hy:VR R y y')(hp:∃a,x=.pointer a):SV P P' R (vJ t x y) (vJ t x' y'):=by
 obtain⟨a,rfl⟩:=hp
 cases hx with
 |@pointer _ a' ha=>
  unfold vJ
  refine .q (lX h t) λ d=>?_
  have key:SV P P' R (match (oG a) with
    |.pointer (ab n)=>(do
     let (a,lost) <-iO n
     match <-gf #[] t #[.pointer (ab a),y] with
     |.pointer (ab b)=>asNumber b lost
     |v=>pure v)
    |_=>gf #[] t #[.pointer a,y]) (match (oG a') with
    |.pointer (ab n)=>(do
     let (a,lost) <-iO n
     match <-gf #[] t #[.pointer (ab a),y'] with
     |.pointer (ab b)=>asNumber b lost
     |v=>pure v)
    |_=>gf #[] t #[.pointer a',y']):=by
   cases a<;>cases a'<;>first|exact ha.elim|skip
   ·refine .dead ?_
    unfold gf
    have c:Calm P (asInt y):=by
     unfold asInt
     cases y<;>first|exact .pure _|exact .dead (dg.seq ay)|skip
     rename_i p
     cases p
     ·exact .dead (dg.seq ay)
     ·exact .dead (dg.seq (cg _ rfl))
    refine c.then λ n=>?_
    dsimp only
    split
    ·exact cg _ rfl
    ·split
     ·exact cg _ rfl
     ·exact cg _ rfl
   ·rename_i n n'
    refine(Zz ha).bind λ S p p' _ e=>?_
    obtain⟨rfl,h1,h2⟩:=e
    obtain⟨p1,lost⟩:=p
    obtain⟨p1',zBh⟩:=p'
    simp only at h1 h2
    subst h2
    refine(Z7 h t h1 hy).bind λ T u u' _ e=>?_
    obtain⟨rfl,b,b',rfl,rfl,hb⟩:=e
    exact .new (.number lost hb) λ n n'=>.pure (.pointer ⟨⟨0,.inr ⟨rfl,rfl,rfl⟩,bw _⟩,rfl,rfl⟩)
  cases d with
  |unsafePointer=>exact .dead (dg.seq (cg _ rfl))
  |_=>cases a<;>cases a'<;>exact key
theorem zfa{a a':cr}{l:Nat}(r:R a.block a'.block l):SQ P P' R (noView a) (noView a'):=by
 unfold noView
 refine(ZB r).bind λ S x x' _ e=>?_
 obtain⟨rfl,rfl,rfl⟩:=e
 exact gg _
theorem SR.prog{f:aG->Sem γ}{f':aG->Sem δ}(h:SR P P' B R (f P) (f' P')):SR P P' B R (Go.program >>= f) (Go.program >>= f'):=.program h
theorem zeY(h:PE P P'){a a':cr}(ha:AR R a a')(k:cZ)(n:Int):SR P P' (λ S x y=>S=R/\VR R x y) R (y7 k a n) (y7 k a' n):=by
 obtain⟨⟨l,r,hl⟩,e1,e2⟩:=ha
 unfold y7
 refine(G5 r).bind λ S x x' _ e=>?_
 obtain⟨rfl,hx⟩:=e
 match x,x',hx with
 |none,ak,_=>exact .dead (cg _ rfl)
 |some (e,n0),ab (e',m0),.inr ⟨he,_⟩=>
  subst he
  refine .dead (dg.info λ d hd=>?_)
  rw[h.no] at hd
  cases hd
 |some (e,n0),ab (e',m0),.inl ⟨he,_,hl0⟩=>
  subst he
  refine .q (A1 h _) λ i=>?_
  dsimp only
  split
  ·exact .dead (dg.seq (cg _ rfl))
  ·refine SR.q (s:=byteOf a) (s':=byteOf a') ?_ λ b=>.pure ⟨rfl,.int _ _⟩
   unfold byteOf
   rw[<-e2]
   cases a.spot with
   |some s=>exact gg _
   |none=>
    refine SR.prog ?_
    refine SR.q (zfa r) λ _=>?_
    refine(G5 r).bind λ S x x' _ e=>?_
    obtain⟨e0,hx⟩:=e
    replace e0:=e0.symm
    subst e0
    match x,x',hx with
    |none,ak,_=>exact .dead ay
    |some (e,n0),ab (e',m0),.inr ⟨_,he⟩=>exact absurd hl0 he
    |some (e,n0),ab (e',m0),.inl ⟨he,_,_⟩=>
     subst he
     simp only[h.cellsOf,h.bytesOf,h.byteOfCell,h.depth,<-e1]
     split
     ·exact gg _
     ·cases byteOfCell P P.depth e' (a.off % P.cellsOf e') with
      |none=>exact .dead ay
      |some b=>exact gg _
theorem Y3{a b:cr}(h:PE P P'){f:Nat×Nat->Sem γ}:dg P (Op.twoPlaces a b >>= f):=by
 refine dg.seq ?_
 unfold Op.twoPlaces
 refine dg.program ?_
 show dg P (if (a.block != b.block || decide (a.block≥P.globals.size))=ae then _ else _)
 rw[if_pos (by simp[h.none])]
 exact dg.seq (cg _ rfl)
theorem zhU(op : lu)(t : au)(k k' : cZ)(a b : Int) : (∃ v, binOp op t (.int k a) (.int k' b) = .pure v ∧ ∀ R : BR, VR R v v) ∨ ∀ P : aG, dg P (binOp op t (.int k a) (.int k' b)) := by
  have hs : ∀ op, (∃ v, xk op k a k' b = .pure v ∧ ∀ R : BR, VR R v v) ∨ ∀ P : aG, dg P (xk op k a k' b) := by
    intro op
    unfold xk
    split
    · exact .inr fun P => eu _
    · cases op <;> first | exact .inl ⟨_, rfl, fun _ => .int _ _⟩ | exact .inr fun P => ay
  have hd : ∀ op, (∃ v, qI op k a b = .pure v ∧ ∀ R : BR, VR R v v) ∨ ∀ P : aG, dg P (qI op k a b) := by
    intro op
    unfold qI
    split
    · exact .inr fun P => eu _
    · cases op <;> first | exact .inl ⟨_, rfl, fun _ => .int _ _⟩ | exact .inr fun P => ay
  cases op <;> first
    | exact hs .shl
    | exact hs .shr
    | (show (∃ v, (if k ≠ k' then _ else _) = _ ∧ _) ∨ ∀ P, dg P (if k ≠ k' then _ else _)
       split
       · exact .inr fun P => ay
       · first
         | exact .inl ⟨_, rfl, fun _ => .int _ _⟩
         | exact .inl ⟨_, rfl, fun _ => .bool _⟩
         | exact hd .quo
         | exact hd .rem
         | exact .inr fun P => ay)
theorem zsh(op : lu)(t : au)(a b : ByteArray) : (∃ v, binOp op t (.string a) (.string b) = .pure v ∧ ∀ R : BR, VR R v v) ∨ ∀ P : aG, dg P (binOp op t (.string a) (.string b)) := by
  cases op <;> first
    | exact .inl ⟨_, rfl, fun _ => .bool _⟩
    | exact .inr fun P => ay
    | (simp only [binOp, Op.stringOp]
       split
       · exact .inr fun P => cg _ rfl
       · exact .inl ⟨_, rfl, fun _ => .string _⟩)
def isEq:lu->Bool
 |.eql|.neq=>ae
 |_=>aa
theorem zjx(h : PE P P'){op: lu}(ho : isEq op = aa)(ht : P.underlying t = ab (.int k0))(hx : VR R x x')(hy : VR R y y') :
    SV P P' R (binOp op t x y) (binOp op t x' y') := by
  have add : ∀ {x x' : aj}, VR R x x' → (∃ a, x = .pointer a) → ∀ {y y' : aj}, VR R y y' → SV P P' R (do if (← underlying t) matches .unsafePointer then movedPointer t x y else vJ t x y) (do if (← underlying t) matches .unsafePointer then movedPointer t x' y' else vJ t x' y') := by
    intro x x' hx hp y y' hy
    refine SR.under h t fun d hd => ?_
    rw [ht] at hd
    cases hd
    exact qj h hx hy hp
  have sub : ∀ {a b : cr}, dg P (do Op.addrSub .u64 (← iO a).1 (← iO b).1) := (pD _).then fun _ => (pD _).then fun _ => Y3 h
  have cmp : ∀ {a b : cr} {op : lu}, dg P (do Op.addrCmp op (← iO a).1 (← iO b).1) := (pD _).then fun _ => (pD _).then fun _ => Y3 h
  have md : ∀ {a a' : cr} (k : cZ) (n : Int), AR R a a' → SV P P' R (do y7 k (← iO a).1 n) (do y7 k (← iO a').1 n) := by
    intro a a' k n ha
    refine (Zz ha).bind fun S p p' _ e => ?_
    obtain ⟨rfl, h1, h2⟩ := e
    exact (zeY h h1 k n).mono fun S a b x => by obtain ⟨rfl, x⟩ := x; exact x
  cases hx
  case int k n =>
    cases hy
    case int k' n' =>
      rcases zhU op t k k' n n' with ⟨v, e, hv⟩ | hd
      · rw [e]; exact .pure (hv _)
      · exact .dead (hd P)
    case pointer a a' ha =>
      cases a <;> cases a' <;> first | exact ha.elim | skip
      all_goals cases op <;> first
        | (cases ho; done)
        | exact .dead ay
        | exact .dead (cg _ rfl)
        | exact qj h (.pointer ha) (.int k n) ⟨_, rfl⟩
        | exact md _ _ ha
    all_goals cases op <;> first
      | (cases ho; done)
      | exact .dead ay
  case string s =>
    cases hy
    case string s' =>
      rcases zsh op t s s' with ⟨v, e, hv⟩ | hd
      · rw [e]; exact .pure (hv _)
      · exact .dead (hd P)
    all_goals cases op <;> first
      | (cases ho; done)
      | exact .dead ay
      | exact .dead (cg _ rfl)
  case pointer a a' ha =>
    cases a <;> cases a' <;> first | exact ha.elim | skip
    all_goals cases hy
    case none.none.int k n =>
      cases op <;> first
        | (cases ho; done)
        | exact .dead ay
        | exact .dead (cg _ rfl)
        | exact add (.pointer ha) ⟨_, rfl⟩ (.int k n)
        | exact qj h (.pointer ha) (.int k _) ⟨_, rfl⟩
    case some.some.int p p' k n =>
      cases op <;> first
        | (cases ho; done)
        | exact .dead ay
        | exact .dead (cg _ rfl)
        | exact add (.pointer ha) ⟨_, rfl⟩ (.int k n)
        | exact qj h (.pointer ha) (.int k _) ⟨_, rfl⟩
        | exact md _ _ ha
    case none.none.pointer b b' hb =>
      cases b <;> cases b' <;> first | exact hb.elim | skip
      all_goals cases op <;> first
        | (cases ho; done)
        | exact .dead ay
        | exact .dead (cg _ rfl)
    case some.some.pointer p p' b b' hb =>
      cases b <;> cases b' <;> first | exact hb.elim | skip
      all_goals cases op <;> first
        | (cases ho; done)
        | exact .dead ay
        | exact .dead (cg _ rfl)
        | exact .dead sub
        | exact .dead cmp
    all_goals cases op <;> first
      | (cases ho; done)
      | exact .dead ay
      | exact .dead (cg _ rfl)
  all_goals cases hy <;> cases op <;> first
    | (cases ho; done)
    | exact .dead ay
    | exact .dead (cg _ rfl)
theorem znn(h:PE P P')(hg:P.eqGuardType P.depth t=aa)(op:lu)(xo yo:bp)(hx:VR R x x')(hy:VR R y y'):
  SQ P P' R (jG op t xo yo x y) (jG op t xo yo x' y'):=by
 have nil:∀b:Bool,SQ P P' R (do
   if b then return
   if <-td vE t .nilIface .nilIface then unsupported (.noEntry "binop/eql: two nil values of an interface type with methods, neither of them the literal nil")) (do
   if b then return
   if <-td vE t .nilIface .nilIface then unsupported (.noEntry "binop/eql: two nil values of an interface type with methods, neither of them the literal nil")):=by
  intro b
  cases b with
  |true=>exact gg _
  |false=>
   refine SR.q (s:=td vE t .nilIface .nilIface) (s':=td vE t .nilIface .nilIface) ?_ λ b=>?_
   ·unfold td vE
    refine .q (lX h t) λ d=>?_
    cases d<;>exact gg _
   ·cases b
    ·exact gg _
    ·exact .dead (cg _ rfl)
 unfold jG
 generalize hb:(!(match op with|.eql|.neq=>ae|_=>aa))=b
 cases b with
 |true=>exact gg _
 |false=>
  rw[if_neg (c:=aa=ae) (by decide),if_neg (c:=aa=ae) (by decide)]
  cases hx
  case nilIface=>
   cases hy
   case nilIface=>exact nil _
   all_goals exact gg _
  case agg c c' hc hcc=>
   cases hy
   case agg d d' hd hdd=>
    refine SR.prog ?_
    refine SR.prog ?_
    rw[h.guard,h.depth,hg]
    exact gg _
   all_goals exact gg _
  all_goals exact gg _
def zre(P:aG)(t:au):Bool:=match P.underlying t with
 |some (.pointer _)|some (.interface _)|some (.slice _)|some (.map _ _)=>ae
 |_=>aa
def isNil:bp->Bool
 |.const (.pointer ak)|.const .nilIface|.const (.slice ak _ _)|.const (.map ak)=>ae
 |_=>aa
theorem zjc(h:PE P P')(d:Nat)(ht:zre P t=ae)(hx:VR R x x')(hy:isNil (.const y)=ae):SQ P P' R (zFO (d+1) t x y) (zFO (d+1) t x' y):=by
 unfold zFO
 refine SR.under h t λ e he=>?_
 unfold zre at ht
 rw[he] at ht
 unfold isNil at hy
 split at hy
 case h_5=>cases hy
 all_goals
  rename_i hq
  cases hq
 all_goals
  cases e<;>first
   |(cases ht;done)
   |skip
 all_goals
  cases hx
  case pointer a a' ha=>cases a<;>cases a'<;>first|exact ha.elim|exact gg _|exact .dead ay
  case map a a' ha=>cases a<;>cases a'<;>first|exact ha.elim|exact gg _|exact .dead ay
  case slice a a' l c ha=>cases a<;>cases a'<;>first|exact ha.elim|exact gg _|exact .dead ay
  all_goals first
   |exact .dead ay
   |exact gg _
def zc4(P:aG)(op:lu)(t:au)(y:bp):Bool:=
 if isEq op then !P.eqGuardType P.depth t && zmx P 8 t || zre P t && isNil y
 else match P.underlying t with
  |some (.int _)=>ae
  |_=>aa
def zaS(P:aG)(t:au):Bool:=match P.underlying t with
 |some (.int _)=>ae
 |_=>aa
theorem zb2(h:PE P P'){s:au}(hs:zaS P s=ae)(ht:zaS P t=ae){v v':aj}(hv:VR R v v'):SV P P' R (convert s t v) (convert s t v'):=by
 unfold convert
 refine SR.under h s λ d hd=>SR.under h t λ e he=>?_
 unfold zaS at hs ht
 rw[hd] at hs
 rw[he] at ht
 cases d<;>first|(cases hs;done)|skip
 cases e<;>first|(cases ht;done)|skip
 cases hv
 case int k n=>exact .pure (.int _ _)
 case pointer a a' ha=>cases a<;>cases a'<;>first|exact ha.elim|exact .dead (cg _ rfl)
 all_goals exact .dead (cg _ rfl)
theorem zjD(op:UnOp){v v':aj}(hv:VR R v v'):SV P P' R (Op.unary op v) (Op.unary op v'):=by
 cases hv
 case int k n=>cases op<;>first|exact .pure (.int _ _)|exact .dead ay
 case bool b=>cases op<;>first|exact .pure (.bool _)|exact .dead ay
 case pointer a a' ha=>cases a<;>cases a'<;>first|exact ha.elim|(cases op<;>first|exact .dead ay|exact .dead (cg _ rfl))
 all_goals cases op<;>exact .dead ay
def vy(P:aG)(s:au)(f:Nat):Bool:=match P.underlying s with
 |some (.struct fs)=>(match fs[f]? with
  |some g=>(match P.info? g.type with
   |some i=>i.size != 0
   |none=>ae)
  |none=>ae)
 |_=>ae
theorem zb4(h:PE P P'){s:au}{f:Nat}(hf:vy P s f=ae){v v':aj}(hv:VR R v v'):SV P P' R (k9 s v f) (k9 s v' f):=by
 unfold k9
 refine SR.under h s λ d hd=>?_
 unfold vy at hf
 rw[hd] at hf
 cases d with
 |struct fields=>
  simp only at hf ⊢
  cases hg:fields[f]? with
  |none=>exact .dead ay
  |some g=>
   rw[hg] at hf
   simp only at hf ⊢
   refine(Fp hv).bind λ S a a' _ e=>?_
   obtain⟨rfl,ha⟩:=e
   unfold fieldPlace jl
   refine SR.seq (A:=λ T a b=>AR T a b) ?_ λ T b b' _ hb=>.pure (VR.pointer (R:=T) (a:=ab b) (a':=ab b') hb)
   show SR P P' _ S ((dQ g.type >>= λ i=>bN i.size) >>= _) ((dQ g.type >>= λ i=>bN i.size) >>= _)
   rw[bind_assoc,bind_assoc]
   refine SR.info h _ λ i hi=>?_
   rw[hi] at hf
   simp only[bne_iff_ne,ne_eq] at hf
   show SR P P' _ S (if i.size=0 then _ else _) (if i.size=0 then _ else _)
   rw[if_neg hf,if_neg hf]
   exact .pure (AR.add ha _)
 |_=>exact .dead ay
theorem zse(h:PE P P')(t ty:au){v v':aj}(hv:VR R v v'):SV P P' R (kJ #[t] ty #[v]) (kJ #[t] ty #[v']):=by
 unfold kJ
 simp only[dG,bE]
 refine .q (lX h t) λ d=>?_
 cases d
 case string=>cases hv<;>first|exact .pure (.int _ _)|exact .dead ay
 case array=>exact .pure (.int _ _)
 case pointer arr=>
  refine .q (lX h arr) λ e=>?_
  cases e<;>first|exact .pure (.int _ _)|exact .dead ay
 case slice=>cases hv<;>first|exact .pure (.int _ _)|exact .dead ay
 case map=>
  cases hv
  case map r r' hr=>
   cases r<;>cases r'<;>first|exact hr.elim|skip
   ·exact .pure (.int _ _)
   ·obtain⟨l,hr⟩:=hr
    exact Kc hr (λ es es' clock he=>.pure (by rw[<-he.size];exact .int _ _)) (λ _ _ _ _ _ _=>ay) (λ _ _ _=>ay) (λ _ _=>ay)
  all_goals exact .dead ay
 case chan=>
  cases hv
  case chan r r' hr=>
   cases r<;>cases r'<;>first|exact hr.elim|skip
   ·exact .pure (.int _ _)
   ·obtain⟨l,hr⟩:=hr
    refine .getObj hr λ o o' ho=>?_
    cases ho with
    |chan cap closed s r tm hb=>exact .pure (by rw[hb.size];exact .int _ _)
    |_=>exact .dead ay
  all_goals exact .dead ay
 all_goals exact .dead ay
theorem znH(hx:VR R x x')(hy:VR R y y'):SV P P' R (s9 x y) (s9 x' y'):=by
 cases hx
 case int k n=>
  cases hy
  case int=>exact .pure (.int _ _)
  case pointer a a' ha=>cases a<;>cases a'<;>first|exact ha.elim|exact .dead ay|exact .dead (cg _ rfl)
  all_goals exact .dead ay
 case string s=>
  cases hy
  case string s'=>exact .pure (.string _)
  case pointer a a' ha=>cases a<;>cases a'<;>first|exact ha.elim|exact .dead ay|exact .dead (cg _ rfl)
  all_goals exact .dead ay
 case pointer a a' ha=>
  cases a<;>cases a'<;>first|exact ha.elim|skip
  ·cases hy
   case pointer b b' hb=>cases b<;>cases b'<;>first|exact hb.elim|exact .dead ay|exact .dead (cg _ rfl)
   all_goals exact .dead ay
  ·exact .dead (by cases y<;>exact cg _ rfl)
 all_goals
  cases hy
  case pointer b b' hb=>cases b<;>cases b'<;>first|exact hb.elim|exact .dead ay|exact .dead (cg _ rfl)
  all_goals exact .dead ay
theorem zdN:∀{l l':List aj} {R:BR} {x x':aj},VR R x x'->LV R l l'->SV P P' R (l.foldlM s9 x) (l'.foldlM s9 x')
 |[],[],_,_,_,hx,_=>.pure hx
 |[],_::_,_,_,_,_,h=>h.elim
 |_::_,[],_,_,_,_,h=>h.elim
 |_::_,_::_,_,_,_,hx,h=>by
  simp only[iE]
  exact .seq (znH hx h.1) λ S u u' hS hu=>zdN hu (h.2.mono hS)
theorem zsf(ts:Array au)(ty:au){xs xs':Array aj}(h:AV R xs xs'):SV P P' R (zk ts ty xs) (zk ts ty xs'):=by
 unfold zk
 have hl:=h.list
 generalize xs.toList=l at hl
 generalize xs'.toList=l' at hl
 cases l<;>cases l'<;>first|exact hl.elim|skip
 ·exact .dead ay
 ·exact zdN hl.1 hl.2
theorem zjg{info:au->Option lx}{d:ia}{i:lx}(h:Made.reckon info d=ab i):i.methods=#[]:=by
 have b:∀{α:Type} {x:Option α} {f:α->Option lx},(∀a,f a=ab i->i.methods=#[])->x.bind f=ab i->i.methods=#[]:=by
  intro α x f k e
  cases x with
  |none=>cases e
  |some a=>exact k a e
 unfold Made.reckon at h
 split at h
 case h_7=>
  unfold Made.reckonStruct at h
  refine b (λ a e=>?_) h
  dsimp only at e
  split at e<;>(cases e;rfl)
 all_goals first
  |(cases h;done)
  |skip
 all_goals repeat' (first
  |(refine b (λ a e=>?_) h;clear h;rename _=ab i=>h)
  |(cases h;rfl)
  |(cases h;done)
  |(split at h)
  |dsimp only at h)
theorem ziD{T:Tables}{i:lx}(ht:¬t<T.types.size):∀{f:Nat},pz T f t=ab i->i.methods=#[]
 |0,h=>by cases h
 |f+1,h=>by
  unfold pz at h
  rw[if_neg ht] at h
  cases hd:Made.decode (t-T.types.size) with
  |none=>rw[hd] at h;cases h
  |some d=>rw[hd] at h;exact zjg h
def Wz(P:aG)(name:String):Bool:=P.types.all λ i=>match i.methods.find? (·.name == name) with
 |some m=>(m.path.all λ x=>!x.deref) && m.func.isSome
 |none=>ae
theorem znI(xt:au)(ty:au)(m:String){v v':aj}(hv:VR R v v'):SV P P' R (qn #[xt] ty #[v,strVal "",strVal m]) (qn #[xt] ty #[v',strVal "",strVal m]):=by
 unfold qn strVal
 cases hv
 case pointer a a' ha=>
  cases a<;>cases a'<;>first|exact ha.elim|skip
  ·refine .dead (dg.choose λ n=>?_)
   show dg P (if (n == 1)=ae then (cV .nilDeref >>= λ _=>_) else _)
   split
   ·exact dg.seq (eu _)
   ·refine(Qc _).then λ d=>?_
    cases d<;>first|exact ay|skip
    refine(zet _).then λ i=>?_
    split
    ·split
     ·dsimp only
      split
      ·exact eu _
      ·exact cg _ rfl
     ·exact ay
    ·exact ay
  ·exact .pure (.pointer ha)
 all_goals exact .dead ay
theorem Vr(h:PE P P'):∀(l:List FieldStep) (t:au) {R:BR} {v v':aj},(∀x∈l,x.deref=aa)->VR R v v'->
  SR P P' (λ S a b=>a.1=b.1/\∃u u',a.2=Place.val u/\b.2=Place.val u'/\VR S u u') R (follow l t (.val v)) (follow l t (.val v'))
 |[],t,R,v,v',_,hv=>.pure ⟨rfl,v,v',rfl,rfl,hv⟩
 |s::rest,t,R,v,v',hl,hv=>by
  unfold follow
  refine .q (lX h _) λ d=>?_
  cases d with
  |struct fields=>
   simp only
   cases fields[s.index]? with
   |none=>exact .dead ay
   |some f=>
    simp only[hl s (by simp),ca,if_false]
    cases hv with
    |agg hx ha=>exact .seq (Xa h f.type ⟨hx,ha⟩ f.offset) λ S u u' _ hu=>Vr h rest f.type (λ x hx=>hl x (by simp[hx])) hu
    |_=>exact .dead ay
  |_=>exact .dead ay
theorem ze9(h : PE P P')(d d' : Nat)(t : au){name: String}(hm : Wz P name = ae){v v': aj}(hv : VR R v v') :
    SR P P' (fun S a b => a.1 = b.1 ∧ VR S a.2 b.2) R (method (d + 1) t v name) (method (d' + 1) t v' name) := by
  unfold method
  refine SR.info h t fun i hi => ?_
  have hk : (match i.methods.find? (·.name == name) with | some m => (m.path.all fun x => !x.deref) && m.func.isSome | none => ae) = ae := by
    unfold Wz at hm
    rw [aT] at hm
    by_cases ht : t < P.types.size
    · exact hm i (df (i := t) (by simpa [Tables.info?, ht] using hi))
    · rw [ziD ht (by simpa only [Tables.info?, if_neg ht] using hi)]
      rfl
  cases hf : i.methods.find? (·.name == name) with
  | none => exact .dead ay
  | some m =>
    rw [hf] at hk
    simp only [aE] at hk
    have hp : ∀ x ∈ m.path.toList, x.deref = aa := by
      have := hk.1
      rw [aT] at this
      intro x hx
      simpa using this x (by simpa using hx)
    cases hfn : m.func with
    | none => rw [hfn] at hk; cases hk.2
    | some q =>
      obtain ⟨f, pr⟩ := q
      refine .seq (Vr h m.path.toList t hp hv) fun S0 a b hS0 hab => ?_
      obtain ⟨xt, xa⟩ := a
      obtain ⟨xt', xb⟩ := b
      obtain ⟨e1, v, v', e2, e3, hv⟩ := hab
      simp only at e1 e2 e3
      subst e1 e2 e3
      simp only [hfn]
      refine SR.seq (A := fun S a b => VR S a b) ?_ fun S u u' _ hu => .pure ⟨rfl, hu⟩
      unfold receiverAt
      refine .q (lX h xt) fun e => ?_
      cases e <;> cases pr
      case pointer.false elem =>
        refine SR.seq (A := fun S a b => VR S a b) (R := S0) (s := Place.get xt (.val v)) (s' := Place.get xt (.val v')) (.pure hv) fun S u u' _ hu => ?_
        have fin : ∀ {S : BR} {p p' : aj}, VR S p p' → SV P P' S (do et elem (← qF p)) (do et elem (← qF p')) := fun hp => .seq (Vq hp) fun T a a' _ ha => Fu h elem ha
        split
        · exact .seq (znI xt xt _ hu) fun T p p' _ hp => fin hp
        · exact fin hu
      all_goals first
        | exact .pure hv
        | exact .dead ay
end
def dummy:fI:={ (default:fI) with name := "no such function",origin := "no such function",body:=ak }
theorem zbz:Extern.findNext dummy=ak:=by kernel_rfl
theorem zbx:Extern.find dummy=ak:=by kernel_rfl
theorem zeD:(dummy.name == "runtime.NumGoroutine")=aa:=by kernel_rfl
theorem zby:(dummy.name.endsWith ".init" && !dummy.name.startsWith "(" && !dummy.name.startsWith "gosem.")=aa:=by kernel_rfl
structure PG(P P':aG):Prop where
 pe:PE P P'
 fn:∀(f:ck) (fn:fI),P.funcs[f]?=ab fn->fn=dummy\/(fn.body.isSome=ae/\(fn.name == "runtime.NumGoroutine")=aa/\P'.funcs[f]?=ab fn)
 size:P'.funcs.size=P.funcs.size
 mixed:P'.follows .mixedOrders=P.follows .mixedOrders
structure CR(R:BR)(c c':oz):Prop where
 chan:VR R c.chan c'.chan
 send:OV R c.send c'.send
 zero:VR R c.zero c'.zero
structure DR(R:BR)(d d':eH):Prop where
 target:d'.target=d.target
 close:∃ts t cs,d.target=.builtin .close ts t cs
 args:AV R d.args d'.args
def zh0:mq->Bool
 |.select=>aa
 |_=>ae
inductive NR(P:aG)(R:BR):Next->Next->Prop
 |value {v v':aj} (h:VR R v v'):NR P R (.value v) (.value v')
 |skip:NR P R .skip .skip
 |enter (f:ck) (hf:∃fn,P.funcs[f]?=ab fn/\fn.body.isSome=ae) {x x':Array aj} (h:AV R x x'):NR P R (.enter f x) (.enter f x')
 |defer {d d':eH} (h:DR R d d'):NR P R (.defer d) (.defer d')
 |comm {c c':oz} (h:CR R c c') (sh:mq) (hs:zh0 sh=ae):NR P R (.comm #[c] ae sh) (.comm #[c'] ae sh)
abbrev SN(P P':aG)(R:BR)(s s':Sem Next):Prop:=SR P P' (λ S a b=>NR P S a b) R s s'
section
variable{P P':aG}{α β γ δ:Type}{A:BR->α->β->Prop}{B:BR->γ->δ->Prop}{R:BR}
theorem sZ{s s':Sem aj}(h:SV P P' R s s'):SN P P' R (do pure (.value (<-s))) (do pure (.value (<-s'))):=.seq h λ _ _ _ _ hv=>.pure (.value hv)
theorem zrm{s s':Sem Unit}(h:SR P P' (λ _ _ _=>True) R s s'):SN P P' R (do s;pure .skip) (do s';pure .skip):=.seq h λ _ _ _ _ _=>.pure .skip
theorem MM(g:PG P P')(f:ck){x x':Array aj}(h:AV R x x'):SN P P' R (fJ f x) (fJ f x'):=by
 unfold fJ
 refine SR.prog ?_
 cases hf:P.funcs[f]? with
 |none=>exact .dead ay
 |some fn=>
  rcases g.fn f fn hf with rfl|⟨h1,h2,h3⟩
  ·refine .dead ?_
   simp only[zeD,zbz,zbx,zby,ca,if_false]
   exact dg.mark (cg _ rfl)
  ·have hb:fn.body.isNone=aa:=by
    cases hb:fn.body with
    |none=>rw[hb] at h1;cases h1
    |some c=>rfl
   simp only[h3,h2,hb,ca,if_false]
   exact .pure (.enter f ⟨fn,hf,h1⟩ h)
theorem Ue(g:PG P P'){name:String}(hm:Wz P name=ae){v v':aj}(hv:VR R v v'){x x':Array aj}(hx:AV R x x'):SN P P' R (Ff v name x) (Ff v' name x'):=by
 unfold Ff
 cases hv with
 |@iface t u u' hu=>
  refine SR.prog ?_
  show SR P P' _ R (method ((P.types.size+99)+1) t u name >>= _) (method ((P'.types.size+99)+1) t u' name >>= _)
  refine .seq (ze9 g.pe _ _ t hm hu) λ S p p' hS hp=>?_
  obtain⟨f,r⟩:=p
  obtain⟨f',r'⟩:=p'
  obtain⟨e,hr⟩:=hp
  simp only at e hr
  subst e
  exact MM g f ((AV.one hr).app (hx.mono hS))
 |nilIface=>exact .dead (eu _)
 |_=>exact .dead ay
def u7:bp->Bool
 |.tmp _|.func _=>ae
 |.const v=>zcV v
 |.global _=>aa
def WB(P:aG)(c:Call):Bool:=c.args.all u7 && match c.callee with
 |.builtin .len=>c.argTypes.size == 1 && c.args.size == 1
 |.builtin .append=>c.argTypes.size == 2 && c.args.size == 2 && LU P (c.argTypes.getD 0 0) && !zaS P (c.argTypes.getD 1 0)
 |.builtin .min=>ae
 |.invoke r name=>u7 r && Wz P name
 |.value f=>u7 f
 |_=>aa
def zuL(P:aG)(t:au):Bool:=match P.underlying t with
 |some (.map _ e)=>zOk P e
 |_=>ae
def zoK(P:aG)(t:au):Bool:=match P.underlying t with
 |some (.chan _ e)=>zOk P e
 |_=>ae
def Pb(P:aG)(o:Op):Bool:=match o with
 |.move x|.assign x|.box _ x|.load _ x|.nilCheck x|.unOp _ _ x|.makeInterface _ x|.makeChan _ x|.field _ x _|.extract x _=>u7 x
 |.pick c a b=>u7 c && u7 a && u7 b
 |.alloc t=>zOk P t
 |.build t ps=>zOk P t && ps.all λ x=>u7 x.2
 |.buildSlice t _ ps=>LU P t && ps.all λ x=>u7 x.2
 |.store _ a x=>u7 a && u7 x
 |.binOp op t x y _=>u7 x && u7 y && zc4 P op t y
 |.convert s d x=>u7 x && zaS P s && zaS P d
 |.makeMap _ ak=>ae
 |.makeSlice t l c=>u7 l && u7 c && LU P t
 |.slice _ x l h m=>u7 x && l.all u7 && h.all u7 && m.all u7
 |.fieldAddr s x f=>u7 x && vy P s f
 |.indexAddr _ x i|.index _ x i=>u7 x && u7 i
 |.lookup t x i ok=>u7 x && u7 i && !ok && UM P t && zuL P t
 |.mapUpdate t m k x|.insert t m k x=>u7 m && u7 k && u7 x && UM P t
 |.typeAssert x _ t _=>u7 x && zOk P t
 |.call c=>WB P c
 |.defer c=>c.args.all u7 && (c.callee matches .builtin .close)
 |.send ch x=>u7 ch && u7 x
 |.recv t ch _=>u7 ch && zoK P t
 |_=>aa
theorem AV.map{f f':bp->aj}{xs:Array bp}(h:xs.all u7=ae)(hf:∀x,u7 x=ae->VR R (f x) (f' x)):AV R (xs.map f) (xs.map f'):=by
 refine⟨by simp,λ i u u' hu mS=>?_⟩
 simp only[kg] at hu mS
 cases hx:xs[i]? with
 |none=>rw[hx] at hu;cases hu
 |some x=>
  rw[hx] at hu mS
  simp only[cO,aF] at hu mS
  subst hu mS
  rw[aT] at h
  exact hf x (h x (df hx))
theorem OV.map{f f':bp->aj}{x:Option bp}(h:x.all u7=ae)(hf:∀x,u7 x=ae->VR R (f x) (f' x)):OV R (x.map f) (x.map f'):=by
 cases x with
 |none=>trivial
 |some x=>exact hf x h
theorem LP.ofMap{f f':bp->aj}{ps:Array (Nat×bp)}(h:(ps.all λ x=>u7 x.2)=ae)(hf:∀x,u7 x=ae->VR R (f x) (f' x)):
  LP R (ps.map λ x=>(x.1,f x.2)).toList (ps.map λ x=>(x.1,f' x.2)).toList:=by
 simp only[Array.toList_map]
 rw[aT] at h
 exact LP.map f f' _ λ x hx=>hf _ (h x (by simpa using hx))
theorem zv0 (h : PE P P') {op : lu} (ho : isEq op = ae) {t : au} (xo yo : bp) (hk : zc4 P op t yo = ae) {x x' y y' : aj} (hx : VR R x x') (hy : VR R y y') (hc : ∀ v, yo = .const v → y = v ∧ y' = v) :
    SV P P' R (do jG op t xo yo x y; binOp op t x y) (do jG op t xo yo x' y'; binOp op t x' y') := by
  have fin : ∀ op, isEq op = ae → SQ P P' R (rQ t x y) (rQ t x' y') → SV P P' R (binOp op t x y) (binOp op t x' y') := by
    intro op ho hq
    have k1 : SV P P' R (do pure (.bool (← rQ t x y))) (do pure (.bool (← rQ t x' y'))) := .q hq fun b => .pure (.bool _)
    have k2 : SV P P' R (do pure (.bool (!(← rQ t x y)))) (do pure (.bool (!(← rQ t x' y')))) := .q hq fun b => .pure (.bool _)
    clear hq hc
    cases op <;> first | (cases ho; done) | skip
    all_goals
      cases hx
      case int k n =>
        cases hy
        case int k' n' =>
          clear k1 k2
          refine (?_ : SV P P' R (binOp _ t (.int k n) (.int k' n')) (binOp _ t (.int k n) (.int k' n')))
          rcases zhU _ t k k' n n' with ⟨v, e, hv⟩ | hd
          · rw [e]; exact .pure (hv _)
          · exact .dead (hd P)
        all_goals first | exact k1 | exact k2
      case string s =>
        cases hy
        case string s' => exact .pure (.bool _)
        all_goals first | exact k1 | exact k2
      all_goals cases hy <;> first | exact k1 | exact k2
  unfold zc4 at hk
  rw [if_pos ho] at hk
  simp only [iv, aE, kP] at hk
  rcases hk with ⟨h1, h2⟩ | ⟨h1, h2⟩
  · exact .q (znn h h1 op xo yo hx hy) fun _ => fin op ho (Vj h h.held 8 10000 t h2 hx hy)
  · cases yo with
    | const v =>
      obtain ⟨rfl, rfl⟩ := hc v rfl
      refine .q (s := jG op t xo (.const y') x y') (s' := jG op t xo (.const y') x' y') ?_ fun _ => fin op ho (zjc h 9999 h1 hx h2)
      have : ∀ x, jG op t xo (.const y') x y' = Sem.pure () := by
        intro x
        unfold isNil at h2
        split at h2
        case h_5 => cases h2
        all_goals
          rename_i hq
          cases hq
          cases op <;> first
            | (cases ho; done)
            | (cases x <;> first | rfl | (cases xo <;> rfl))
      rw [this, this]
      exact gg _
    | tmp _ => cases h2
    | global _ => cases h2
    | func _ => cases h2
theorem zmt{α:Type}{x:Array α}(h:x.size=1):∃a,x=#[a]:=by
 obtain⟨l⟩:=x
 match l,h with
 |[a],_=>exact⟨a,rfl⟩
theorem zuo{α:Type}{x:Array α}(h:x.size=2):∃a b,x=#[a,b]:=by
 obtain⟨l⟩:=x
 match l,h with
 |[a,b],_=>exact⟨a,b,rfl⟩
theorem znF (g : PG P P') {c : Call} (hc : WB P c = ae) (ty : au) {f f' : bp → aj} (hf : ∀ x, u7 x = ae → VR R (f x) (f' x)) :
    SN P P' R (do let d ← resolve f c ty; invoke d.target d.args) (do let d ← resolve f' c ty; invoke d.target d.args) := by
  unfold WB at hc
  rw [aE] at hc
  obtain ⟨ha, hc⟩ := hc
  have args := AV.map (R := R) ha hf
  obtain ⟨callee, as, ts⟩ := c
  simp only at ha hc args
  cases callee with
  | builtin b =>
    simp only [resolve, pure_bind, invoke]
    generalize (as.map fun | .const _ => ae | _ => aa) = cs
    cases b <;> first | (cases hc; done) | skip
    case len =>
      simp only [aE, beq_iff_eq] at hc
      obtain ⟨h1, h2⟩ := hc
      obtain ⟨t, rfl⟩ := zmt h1
      obtain ⟨x, rfl⟩ := zmt h2
      simp only [lF, dC, pZ]
      exact sZ (zse g.pe t ty (hf x (by simpa using ha)))
    case min => exact sZ (zsf _ _ args)
    case append =>
      simp only [aE, beq_iff_eq, kP] at hc
      obtain ⟨⟨⟨h1, h2⟩, h3⟩, h4⟩ := hc
      obtain ⟨t, t2, rfl⟩ := zuo h1
      obtain ⟨x, y, rfl⟩ := zuo h2
      simp only [List.all_toArray, List.all_cons, aE] at ha
      simp only [lF, dC, pZ]
      refine sZ (ze6 g.pe (by simpa using h3) ?_ (hf x ha.1) (hf y ha.2.1))
      intro k hk
      simp only [zaS] at h4
      have : (#[t, t2] : Array au).getD 1 0 = t2 := rfl
      rw [this, hk] at h4
      cases h4
  | invoke r name =>
    simp only [aE] at hc
    simp only [resolve, pure_bind, invoke]
    have e : ∀ f : bp → aj, (#[f r] ++ as.map f)[0]? = ab (f r) := fun f => by rw [kl]; rfl
    have e2 : ∀ f : bp → aj, (#[f r] ++ as.map f).extract 1 (#[f r] ++ as.map f).size = as.map f := fun f => by simp
    simp only [e, e2]
    exact Ue g hc.2 (hf r hc.1) args
  | value x =>
    simp only [resolve]
    have hx := hf x hc
    generalize f x = u at hx
    generalize f' x = u' at hx
    cases hx
    case func q x x' y y' hx h hy h' =>
      simp only [Deferred.ofValue, pure_bind, invoke]
      exact MM g q ((AV.app ⟨hx, h⟩ args).app ⟨hy, h'⟩)
    case nilFunc => exact .dead (show dg P (cV .nilDeref) from eu _)
    all_goals exact .dead (dg.seq ay)
theorem W9(g:PG P P'){o:di}(ho:Pb P o.op=ae){f f':bp->aj}(hf:∀x,u7 x=ae->VR R (f x) (f' x))(hc:∀v,f (.const v)=v/\f' (.const v)=v):SN P P' R (bd f o) (bd f' o):=by
 have h:=g.pe
 obtain⟨dst,op,ty,pos,af,gd⟩:=o
 simp only at ho
 unfold bd
 cases op<;>simp only[Pb,aE,ca] at ho
 case move x=>exact .pure (.value (hf x ho))
 case assign x=>exact .pure (.value (hf x ho))
 case pick c a b=>exact .q (zjb (hf c ho.1.1)) λ b=>.pure (.value (by cases b;exact hf _ ho.2;exact hf _ ho.1.2))
 case alloc t=>exact sZ (zjv h (xC ho))
 case box t x=>exact sZ (zsd t (hf x ho))
 case build t ps=>exact sZ (zjy h (xC ho.1) (LP.ofMap ho.2 hf))
 case buildSlice t n ps=>exact sZ (Ud h ho.1 n (LP.ofMap ho.2 hf))
 case load t x=>exact sZ (ze7 h t (hf x ho))
 case store t a x=>exact zrm (zb8 h t (hf a ho.1) (hf x ho.2))
 case nilCheck x=>
  have hx:=hf x ho
  simp only
  generalize f x=u at hx
  generalize f' x=u' at hx
  cases hx
  case pointer a a' ha=>
   cases a<;>cases a'<;>first|exact ha.elim|skip
   ·exact .dead (eu _)
   ·exact .pure (.value (.pointer ha))
  case nilIface=>exact .dead (eu _)
  case nilFunc=>exact .dead (eu _)
  case bool b=>exact .pure (.value (.bool b))
  case int k n=>exact .pure (.value (.int k n))
  case string s=>exact .pure (.value (.string s))
  case slice a a' l c h=>exact .pure (.value (.slice l c h))
  case map a a' h=>exact .pure (.value (.map h))
  case chan a a' h=>exact .pure (.value (.chan h))
  case func q x x' y y' hx h hy h'=>exact .pure (.value (.func q hx h hy h'))
  case iface t u u' h=>exact .pure (.value (.iface t h))
  case agg x x' hx h=>exact .pure (.value (.agg hx h))
  case tuple x x' hx h=>exact .pure (.value (.tuple hx h))
 case binOp op t x y yt=>
  refine sZ ?_
  by_cases he:isEq op=ae
  ·exact zv0 h he x y ho.2 (hf x ho.1.1) (hf y ho.1.2) (λ v hv=>by subst hv;exact hc v)
  ·have he':isEq op=aa:=by simpa using he
   have hk:=ho.2
   unfold zc4 at hk
   rw[if_neg he] at hk
   split at hk
   ·rename_i k hk0
    have hg:∀a b:aj,jG op t x y a b=Sem.pure ():=by
     intro a b
     unfold jG
     cases op<;>first|(cases he';done)|rfl
    rw[hg,hg]
    exact zjx h he' hk0 (hf x ho.1.1) (hf y ho.1.2)
   ·cases hk
 case unOp op t x=>exact sZ (zjD op (hf x ho))
 case convert s d x=>exact sZ (zb2 h ho.1.2 ho.2 (hf x ho.1.1))
 case makeInterface t x=>exact sZ (Ls h t (hf x ho))
 case makeMap t r=>
  cases r with
  |none=>exact sZ (zb6 t)
  |some r=>cases ho
 case makeChan t s=>exact sZ (zaf h t (hf s ho))
 case makeSlice t l c=>exact sZ (XL h ho.2 (hf l ho.1.1) (hf c ho.1.2))
 case slice t x lo hi mx=>exact sZ (zb7 h t (hf x ho.1.1.1) (OV.map ho.1.1.2 hf) (OV.map ho.1.2 hf) (OV.map ho.2 hf))
 case fieldAddr s x i=>exact sZ (zb4 h ho.2 (hf x ho.1))
 case field t x i=>exact sZ (zjz h t (hf x ho) i)
 case indexAddr t x i=>exact sZ (zb5 h t (hf x ho.1) (hf i ho.2))
 case index t x i=>exact sZ (zjA h t (hf x ho.1) (hf i ho.2))
 case lookup t x i ok=>
  obtain⟨⟨⟨⟨h1,h2⟩,h3⟩,h4⟩,h5⟩:=ho
  cases ok with
  |true=>cases h3
  |false=>
   refine sZ (ze8 h h4 (λ k e he=>?_) (hf x h1) (hf i h2))
   unfold zuL at h5
   rw[he] at h5
   exact xC h5
 case mapUpdate t m k x=>exact zrm (Iu h ho.2 (hf m ho.1.1.1) (hf k ho.1.1.2) (hf x ho.1.2))
 case insert t m k x=>exact zrm (Iu h ho.2 (hf m ho.1.1.1) (hf k ho.1.1.2) (hf x ho.1.2))
 case typeAssert x xt t ok=>exact sZ (Uf h (hf x ho.1) xt (xC ho.2) ok)
 case extract x i=>exact sZ (zb3 (hf x ho) i)
 case call c=>exact znF g ho ty hf
 case defer c=>
  obtain⟨callee,as,ts⟩:=c
  simp only at ho
  cases callee with
  |builtin b=>
   cases b<;>first|(cases ho.2;done)|skip
   simp only[resolve,pure_bind]
   exact .pure (.defer ⟨rfl,⟨_,_,_,rfl⟩,AV.map ho.1 hf⟩)
  |_=>cases ho.2
 case send ch x=>exact .pure (.comm ⟨hf ch ho.1,(show OV R (ab (f x)) (ab (f' x)) from hf x ho.2),.tuple rfl λ i v v' a=>by simp at a⟩ _ rfl)
 case recv t ch ok=>
  refine SR.under h t λ d hd=>?_
  have hz:=ho.2
  unfold zoK at hz
  rw[hd] at hz
  cases d with
  |chan dir e=>exact .seq (G7 h (xC hz)) λ S z z' hS hzz=>.pure (.comm ⟨(hf ch ho.1).mono hS,(show OV S ak ak from trivial),hzz⟩ _ rfl)
  |_=>exact .dead ay
end
def od(P:aG):Code->Bool
 |.skip|.exit _|.ret=>ae
 |.region _ ops _=>ops.all λ o=>Pb P o.op
 |.seq a b=>od P a && od P b
 |.cond c a b=>u7 c && od P a && od P b
 |.block _ c=>od P c
 |.loop c=>od P c
 |_=>aa
def qG(P:aG):qD->Bool
 |.code c=>od P c
 |.inBlock _=>ae
 |.inLoop c=>od P c
 |.inRegion ops _=>ops.all λ o=>Pb P o.op
 |_=>aa
def GP(P:aG):Prop:=∀(f:ck) (fn:fI) (c:Code),P.funcs[f]?=ab fn->fn.body=ab c->od P c=ae
inductive LR where
 |next (fr:aB) (L:List aB) (w:ai) (es:Array bT) (acts:List jX)
 |ret (v:aj) (w:ai) (es:Array bT)
 |bad
def mV(fr:aB)(L:List aB)(c:oz)(sh:mq)(w:ai)(es:Array bT):LR:=
 match c.chan with
 |.chan (ab r)=>
  match w.heap[r]?,c.send with
  |some (.chan cap buf closed Pe Wd tm),ab v=>
   if closed then .bad else if buf.size<cap then
    .next (fr.finish (qR #[c] sh 0 undef false)) L { w with heap:=w.heap.setIfInBounds r (.chan cap (buf.push v) closed (Pe+1) Wd tm) } es [.send r Pe,.sendDone r Pe]
   else .bad
  |some (.chan cap buf closed Pe Wd tm),ak=>
   if buf.size > 0 then
    .next (fr.finish (qR #[c] sh 0 (buf.getD 0 undef) ae)) L { w with heap:=w.heap.setIfInBounds r (.chan cap (buf.extract 1 buf.size) closed Pe (Wd+1) tm) } es [.recv r Wd cap,.recvDone r Wd]
   else if closed then .next (fr.finish (qR #[c] sh 0 c.zero aa)) L w es [.recvClosed r]
   else .bad
  |_,_=>.bad
 |_=>.bad
def LF(P:aG)(fr:aB)(L:List aB)(o:di)(w:ai):LR:=
 match (bd fr.eval o).runT P w #[] with
 |(.ok (.value v) w1,es)=>.next (fr.finish v) L w1 (seen P fr.fn es) []
 |(.ok .skip w1,es)=>.next (fr.finish undef) L w1 (seen P fr.fn es) []
 |(.ok (.enter f args) w1,es)=>.next (aU P f args .normal) (fr::L) w1 (seen P fr.fn es) []
 |(.ok (.defer d) w1,es)=>.next ({ fr with defers:=d::fr.defers }.finish undef) L w1 (seen P fr.fn es) []
 |(.ok (.comm cs blocking sh) w1,es)=>(match cs.toList,blocking with
  |[c],ae=>mV fr L c sh w1 (seen P fr.fn es)
  |_,_=>.bad)
 |_=>.bad
def lto(fr:aB)(L:List aB)(w:ai)(todo:List qD):LR:=.next { fr with todo } L w #[] []
def JB(P:aG)(fr:aB)(L:List aB)(w:ai):LR:=
 match fr.todo with
 |[]|.code .ret::_=>.next { fr with mode:=.returning } L w #[] []
 |.code .skip::k|.inBlock _::k=>lto fr L w k
 |.code (.seq a b)::k=>lto fr L w (.code a::.code b::k)
 |.code (.cond c a b)::k=>(match fr.eval c with
  |.bool t=>lto fr L w (.code (if t then a else b)::k)
  |_=>.bad)
 |.code (.block id c)::k=>lto fr L w (.code c::.inBlock id::k)
 |.code (.loop c)::k=>lto fr L w (.code c::.inLoop c::k)
 |.inLoop c::k=>lto fr L w (.code c::.inLoop c::k)
 |.code (.exit id)::k=>(match tN id k with
  |some k'=>lto fr L w k'
  |none=>.bad)
 |.code (.region id ops draw)::k=>
  if draw then (match (choose (.order fr.fn id)).run P w with
   |.ok t w1=>.next { fr with todo:=.inRegion ops (Region.schedule (P.follows .mixedOrders) ops t)::k } L w1 #[] []
   |.halt _ _=>.bad)
  else lto fr L w (.inRegion ops (oY ops.size)::k)
 |.inRegion _ []::k=>lto fr L w k
 |.inRegion ops (i::_)::_=>
  if ((ops[i]?).map (aR · (yielded ops fr.tmps))).getD aa then (match ops[i]? with
   |some o=>LF P fr L o w
   |none=>.bad)
  else .next (fr.finish undef) L w #[] []
 |_=>.bad
def tI(P:aG)(fr:aB)(L:List aB)(w:ai):LR:=
 match fr.defers with
 |d::ds=>(match d.target with
  |.builtin .close _ _ _=>(match (invoke d.target d.args).runT P w #[] with
   |(.ok (.value _) w1,es)=>.next { fr with defers:=ds } L w1 (seen P fr.fn es) []
   |_=>.bad)
  |_=>.bad)
 |[]=>(match P.funcs[fr.fn]? with
  |none=>.bad
  |some fn=>(match (results fn fr.tmps).runT P w #[] with
   |(.ok v w1,es)=>(match L with
    |[]=>.ret v w1 (seen P fr.fn es)
    |c::L'=>.next (c.finish v) L' w1 (seen P fr.fn es) [])
   |_=>.bad))
def eG(P:aG)(fr:aB)(L:List aB)(w:ai):LR:=
 match fr.mode with
 |.run=>JB P fr L w
 |.returning=>tI P fr L w
 |.panicking _=>.bad
def LD(R:BR):List eH->List eH->Prop
 |[],[]=>True
 |d::l,d'::l'=>DR R d d'/\LD R l l'
 |_,_=>False
structure yC(P:aG)(R:BR)(fr bx:aB):Prop where
 fn:bx.fn=fr.fn
 has:∃fn,P.funcs[fr.fn]?=ab fn/\fn.body.isSome=ae
 tmps:AV R fr.tmps bx.tmps
 todo:bx.todo=fr.todo
 ok:∀x∈fr.todo,qG P x=ae
 defers:LD R fr.defers bx.defers
 mode:bx.mode=fr.mode
 norm:fr.kind=.normal
 zP:bx.kind=.normal
 round:fr.roundOf=ak
 tO:bx.roundOf=ak
 live:fr.mode=.run\/fr.mode=.returning
structure CaR(P:aG)(R:BR)(fr bx:aB):Prop where
 base:yC P R fr bx
 run:fr.mode=.run
 at_:∃ops i rest k,fr.todo=.inRegion ops (i::rest)::k
def LA(P:aG)(R:BR):List aB->List aB->Prop
 |[],[]=>True
 |c::l,c'::l'=>CaR P R c c'/\LA P R l l'
 |_,_=>False
section
variable{P P':aG}{R S:BR}
theorem DR.mono(h:R.le S){d d':eH}(k:DR R d d'):DR S d d':=⟨k.target,k.close,k.args.mono h⟩
theorem LD.mono(h:R.le S):∀{l l':List eH},LD R l l'->LD S l l'
 |[],[],_=>trivial
 |_::_,_::_,k=>⟨k.1.mono h,k.2.mono h⟩
theorem yC.mono(h:R.le S){a b:aB}(k:yC P R a b):yC P S a b:=⟨k.fn,k.has,k.tmps.mono h,k.todo,k.ok,k.defers.mono h,k.mode,k.norm,k.zP,k.round,k.tO,k.live⟩
theorem CaR.mono(h:R.le S){a b:aB}(k:CaR P R a b):CaR P S a b:=⟨k.base.mono h,k.run,k.at_⟩
theorem LA.mono(h:R.le S):∀{l l':List aB},LA P R l l'->LA P S l l'
 |[],[],_=>trivial
 |_::_,_::_,k=>⟨k.1.mono h,k.2.mono h⟩
theorem ua:VR R undef undef:=.tuple rfl λ i v v' a=>by simp at a
theorem AV.getD{x x':Array aj}(h:AV R x x')(i:Nat):VR R (x.getD i undef) (x'.getD i undef):=by
 rcases h.get i with⟨e,e'⟩|⟨v,v',e,e',hv⟩
 ·rw[bS,bS,e,e'];exact ua
 ·rw[bS,bS,e,e'];exact hv
theorem yC.eval{a b:aB}(k:yC P R a b){x:bp}(hx:u7 x=ae):VR R (a.eval x) (b.eval x):=by
 cases x with
 |tmp t=>exact k.tmps.getD t
 |const v=>exact zdo hx
 |func f=>exact .func f rfl (λ i v v' a=>by simp at a) rfl (λ i v v' a=>by simp at a)
 |global g=>cases hx
theorem yC.finish{a b:aB}(k:yC P R a b){v v':aj}(hv:VR R v v'):yC P R (a.finish v) (b.finish v'):=by
 unfold Frame.finish
 rw[k.todo]
 split
 ·rename_i ops i rest kk e
  have ho:=k.ok
  rw[e] at ho
  refine⟨k.fn,k.has,?_,rfl,?_,k.defers,k.mode,k.norm,k.zP,k.round,k.tO,k.live⟩
  ·cases (ops[i]?).bind (·.dst) with
   |none=>exact k.tmps
   |some d=>exact k.tmps.set d hv
  ·intro x hx
   rcases bF.1 hx with rfl|hx
   ·exact ho (.inRegion ops (i::rest)) (by simp)
   ·exact ho x (by simp[hx])
 all_goals first
  |(rename_i e;exact absurd (k.ok _ (by rw[e];exact List.mem_cons_self)) (by simp[qG]))
  |exact k
theorem AV.yielded{x x':Array aj}(h:AV R x x')(ops:Array di):yielded ops x'=yielded ops x:=by
 funext j
 unfold Go.yielded
 cases (ops[j]?).bind (·.dst) with
 |none=>rfl
 |some d=>
  simp only[lG]
  rcases h.get d with⟨e,e'⟩|⟨v,v',e,e',hv⟩
  ·rw[e,e']
  ·rw[e,e']
   cases hv<;>rfl
theorem Fh{id:Nat}:∀{k k':List qD},tN id k=ab k'->∀x∈k',x∈k
 |[],k',h=>by cases h
 |i::k,k',h=>by
  intro x hx
  unfold tN at h
  split at h
  ·rename_i heq
   obtain⟨rfl,rfl⟩:=D2 heq
   split at h
   ·cases h;exact iX _ hx
   ·exact iX _ (Fh h x hx)
  ·rename_i heq
   obtain⟨rfl,rfl⟩:=D2 heq
   exact iX _ (Fh h x hx)
  ·cases h
end
def zf4(R:BR)(a:jX):Prop:=∃b r l,R b r l/\∃k,a=.send r k\/a=.sendDone r k\/(∃cap,a=.recv r k cap)\/a=.recvDone r k\/a=.recvClosed r
def Sim(P:aG)(R:BR)(w w':ai)(r r':LR):Prop:=
 match r with
 |.next fr1 L1 w1 _ _=>∃AO Yc wi es' xi R1,r'=.next AO Yc wi es' xi/\yC P R1 fr1 AO/\LA P R1 L1 Yc/\HR R1 w1 wi/\KP R w w' R1 w1 wi/\(∀e∈es',Sx R w R1 e)/\(∀a∈xi,zf4 R1 a)
 |.ret v w1 _=>∃v' wi es' R1,r'=.ret v' wi es'/\VR R1 v v'/\HR R1 w1 wi/\KP R w w' R1 w1 wi/\(∀e∈es',Sx R w R1 e)
 |.bad=>True
section
variable{P P':aG}{R:BR}{α:Type}
theorem MN (h : PE P P') {x x' : Array aj} : ∀ (rs : List mz) {R : BR} {acc acc' : Array aj}, AV R x x' → AV R acc acc' →
    SA P P' R (rs.foldlM (fun (bs : Array aj) (r : mz) => Functor.map bs.push (match r with
      | .tmp t => pure (x.getD t undef)
      | .cell a t => do et t (← qF (x.getD a undef)) : Sem aj)) acc)
     (rs.foldlM (fun (bs : Array aj) (r : mz) => Functor.map bs.push (match r with
      | .tmp t => pure (x'.getD t undef)
      | .cell a t => do et t (← qF (x'.getD a undef)) : Sem aj)) acc')
  | [], R, acc, acc', _, ha => by simp only [zV]; exact .pure ha
  | r :: rs, R, acc, acc', hx, ha => by
    simp only [iE]
    refine SR.seq (A := fun S a b => AV S a b) ?_ fun S a b hS hab => MN h rs (hx.mono hS) hab
    cases r with
    | tmp t => exact .pure (ha.push (hx.getD t))
    | cell a t =>
      show SA P P' R ((qF (x.getD a undef) >>= fun y => et t y) >>= fun y => bN (acc.push y)) ((qF (x'.getD a undef) >>= fun y => et t y) >>= fun y => bN (acc'.push y))
      refine .seq (.seq (Vq (hx.getD a)) fun S y y' _ hy => Fu h t hy) fun S v v' hS hv => .pure ((ha.mono hS).push hv)
variable{x x':Array aj}
theorem QF(h:PE P P')(fn:fI)(hx:AV R x x'):SV P P' R (results fn x) (results fn x'):=by
 unfold results
 rw[gm,gm,<-iq,<-iq]
 refine .seq (MN h fn.results.toList (acc:=#[]) (acc':=#[]) hx AV.nil) λ S a b _ hab=>.pure ?_
 have e:=hab.size
 by_cases h1:a.size=1
 ·have h2:b.size=1:=e▸h1
  rw[dif_pos h1,dif_pos h2]
  exact hab.at_ 0 _ _ (by simp[h1]) (by simp[h2])
 ·have h2:¬b.size=1:=e▸h1
  rw[dif_neg h1,dif_neg h2]
  exact VR.tuple' hab
theorem PG.same(g:PG P P'){f:ck}{fn:fI}(hf:P.funcs[f]?=ab fn)(hb:fn.body.isSome=ae):P'.funcs[f]?=ab fn:=by
 rcases g.fn f fn hf with rfl|⟨_,_,h⟩
 ·cases hb
 ·exact h
variable{b:aB}
theorem yC.zdI{a:aB}(k:yC P R a b)(todo:List qD)(h:∀x∈todo,qG P x=ae):yC P R { a with todo } { b with todo }:=⟨k.fn,k.has,k.tmps,rfl,h,k.defers,k.mode,k.norm,k.zP,k.round,k.tO,k.live⟩
variable{L L':List aB}
theorem wI{a:aB}(k:yC P R a b)(hl:LA P R L L'){w w':ai}(hr:HR R w w')(todo:List qD)(h:∀x∈todo,qG P x=ae):Sim P R w w' (lto a L w todo) (lto b L' w' todo):=
 ⟨_,_,_,_,_,R,rfl,k.zdI todo h,hl,hr,KP.refl _ _ _,by simp,by simp⟩
theorem px(g:PG P P')(gp:GP P){f:ck}(hf:∃fn,P.funcs[f]?=ab fn/\fn.body.isSome=ae)(hx:AV R x x'):yC P R (aU P f x .normal) (aU P' f x' .normal):=by
 obtain⟨fn,h1,h2⟩:=hf
 have h3:=g.same h1 h2
 unfold aU
 simp only[h1,h3]
 refine⟨rfl,⟨fn,h1,h2⟩,?_,rfl,?_,trivial,rfl,rfl,rfl,rfl,rfl,.inl rfl⟩
 ·rw[hx.size]
  refine hx.app ⟨by simp,λ i v v' hv Js=>?_⟩
  rw[hv] at Js
  cases Js
  have:=df hv
  simp only[Array.mem_replicate] at this
  rw[this.2]
  exact ua
 ·intro y hy
  obtain⟨c,hc⟩:=Option.isSome_iff_exists.1 h2
  simp only[cO,lG,hc,cS,List.mem_singleton] at hy
  subst hy
  exact gp f fn c h1 hc
theorem zju{a:aB}{c c':oz}{sh:mq}(hs:zh0 sh=ae){w0 w0' w w':ai}{R0:BR}(k:yC P R a b)(hl:LA P R L L')(hc:CR R c c')(hr:HR R w w')(kp:KP R0 w0 w0' R w w')
  (cj:∀a a' l,R0 a a' l->a<w0.heap.size/\a'<w0'.heap.size) {es es':Array bT} (sC:∀e∈es',Sx R0 w0 R e):
  Sim P R0 w0 w0' (mV a L c sh w es) (mV b L' c' sh w' es'):=by
 have res:∀(j:Int) (ok:Bool) {v v':aj},VR R v v'->VR R (qR #[c] sh j v ok) (qR #[c'] sh j v' ok):=by
  intro j ok v v' hv
  cases sh with
  |send=>exact ua
  |recv b=>
   cases b with
   |false=>exact hv
   |true=>exact VR.tuple' ((AV.one hv).push (.bool ok))
  |select=>cases hs
 obtain⟨ch,sd,z⟩:=c
 obtain⟨ch',sd',z'⟩:=c'
 obtain⟨h1,h2,h3⟩:=hc
 simp only at h1 h2 h3 res
 unfold mV
 simp only
 cases h1
 case chan r r' hrr=>
  cases r with
  |none=>trivial
  |some r=>
   cases r' with
   |none=>exact hrr.elim
   |some r'=>
    obtain⟨l,hrr⟩:=hrr
    obtain⟨o,o',g1,g2,ho⟩:=hr.obj _ _ _ hrr
    simp only[g1,g2]
    have upd:∀{o1 o1':Obj} {j:Int} {v v':aj} {ok:Bool} {acts xi:List jX},(∀m,OR R m o1 o1')->(∀c e f,o≠.cells c e f)->VR R v v'->(∀a∈xi,zf4 R a)->
      Sim P R0 w0 w0' (.next (a.finish (qR #[⟨.chan (ab r),sd,z⟩] sh j v ok)) L { w with heap:=w.heap.setIfInBounds r o1 } es acts)
       (.next (b.finish (qR #[⟨.chan (ab r'),sd',z'⟩] sh j v' ok)) L' { w' with heap:=w'.heap.setIfInBounds r' o1' } es' xi):=by
     intro o1 o1' j v v' ok acts xi h4 h5 hv h6
     obtain⟨q1,q2,_⟩:=rV hr hrr h4 g1 h5
     exact⟨_,_,_,_,_,R,rfl,k.finish (res j ok hv),hl,q1,kp.trans q2 cj,sC,h6⟩
    cases ho with
    |@chan cap bb bb' closed s rc tm hb=>
     match sd,sd',h2 with
     |some v,ab v',h2=>
      simp only
      cases closed with
      |true=>trivial
      |false=>
       simp only[ca,if_false]
       rw[<-hb.size]
       split
       ·refine upd (λ m=>.chan _ _ _ _ _ (hb.push h2)) (λ _ _ _=>by simp) ua ?_
        intro x hx
        simp only[bF,cf,or_false] at hx
        rcases hx with rfl|rfl
        ·exact⟨r,r',l,hrr,s,.inl rfl⟩
        ·exact⟨r,r',l,hrr,s,.inr (.inl rfl)⟩
       ·trivial
     |none,ak,_=>
      simp only
      rw[<-hb.size]
      by_cases X5:bb.size > 0
      ·rw[if_pos X5,if_pos X5]
       refine upd (λ m=>.chan _ _ _ _ _ (hb.extract _ _)) (λ _ _ _=>by simp) (hb.getD 0) ?_
       intro x hx
       simp only[bF,cf,or_false] at hx
       rcases hx with rfl|rfl
       ·exact⟨r,r',l,hrr,rc,.inr (.inr (.inl ⟨cap,rfl⟩))⟩
       ·exact⟨r,r',l,hrr,rc,.inr (.inr (.inr (.inl rfl)))⟩
      ·rw[if_neg X5,if_neg X5]
       cases closed with
       |true=>
        simp only[if_true]
        refine⟨_,_,_,_,_,R,rfl,k.finish (res 0 aa h3),hl,hr,kp,sC,?_⟩
        intro x hx
        simp only[bF,cf,or_false] at hx
        subst hx
        exact⟨r,r',l,hrr,0,.inr (.inr (.inr (.inr rfl)))⟩
       |false=>trivial
    |_=>trivial
 all_goals trivial
theorem zr9(g:PG P P')(gp:GP P){a:aB}{w w':ai}(k:yC P R a b)(hl:LA P R L L')(hr:HR R w w')(ht:∀n,TA n w w'){o:di}(ho:Pb P o.op=ae)(hm:a.mode=.run)(iZ:∃ops i rest k,a.todo=.inRegion ops (i::rest)::k):
  Sim P R w w' (LF P a L o w) (LF P' b L' o w'):=by
 unfold LF
 rw[k.fn]
 cases hx:(bd a.eval o).runT P w #[] with
 |mk r es=>
  cases r with
  |halt x w1=>trivial
  |ok n w1=>
   obtain⟨_,n',wi,es',R1,h1,h2,h3,h4,h5⟩:=(W9 (R:=R) g ho (λ x hx=>k.eval hx) (λ v=>⟨rfl,rfl⟩)).run w w' #[] #[] n w1 es hr hx (w1.drawn-w.drawn) (by omega) (ht _)
   rw[h1]
   have sC:∀e∈seen P' a.fn (#[]++es'),Sx R w R1 e:=λ e he=>h5 e (by simpa using DU he)
   have k1:=k.mono h4.le
   have OD:=hl.mono h4.le
   cases h2 with
   |value hv=>exact⟨_,_,_,_,_,R1,rfl,k1.finish hv,OD,h3,h4,sC,by simp⟩
   |skip=>exact⟨_,_,_,_,_,R1,rfl,k1.finish ua,OD,h3,h4,sC,by simp⟩
   |enter f hf hargs=>
    exact⟨_,_,_,_,_,R1,rfl,px g gp hf hargs,⟨⟨k1,hm,iZ⟩,OD⟩,h3,h4,sC,by simp⟩
   |defer hd=>
    refine⟨_,_,_,_,_,R1,rfl,yC.finish ?_ ua,OD,h3,h4,sC,by simp⟩
    exact⟨rfl,k1.has,k1.tmps,k1.todo,k1.ok,⟨hd,k1.defers⟩,k1.mode,k1.norm,k1.zP,k1.round,k1.tO,k1.live⟩
   |comm hc sh hs=>exact zju hs k1 OD hc h3 h4 (λ _ _ _ r=>hr.lt r) sC
theorem ZG(ts : Array au)(t : au)(cs : Array Bool)(hx : AV R x x') : SN P P' R (invoke (.builtin .close ts t cs) x) (invoke (.builtin .close ts t cs) x') := by
  show SN P P' R (do pure (.value (← lC ts t x))) (do pure (.value (← lC ts t x')))
  refine sZ ?_
  unfold lC
  by_cases h1 : x.size = 1
  · obtain ⟨u, rfl⟩ := zmt h1
    obtain ⟨u', rfl⟩ := zmt (hx.size ▸ h1)
    have hu := hx.at_ 0 u u' rfl rfl
    cases hu
    case chan r r' hr =>
      cases r <;> cases r' <;> first | exact hr.elim | skip
      · exact .dead (eu _)
      · obtain ⟨l, hr⟩ := hr
        refine .getObj hr fun o o' ho => ?_
        cases ho with
        | chan cap closed s rc tm hb =>
          cases closed with
          | true =>
            refine .dead ?_
            show dg P ((cV (.plain "close of closed channel") : Sem PUnit) >>= fun _ => _)
            exact dg.seq (eu _)
          | false => exact .setObj hr (fun m => .chan _ _ _ _ _ hb) (.pure (.tuple rfl fun i v v' a => by simp at a))
        | _ => exact .dead ay
    all_goals exact .dead ay
  · refine .dead ?_
    obtain ⟨l⟩ := x
    match l, h1 with
    | [], _ => exact ay
    | [a], h => exact absurd rfl h
    | a :: b :: l, _ => exact ay
theorem zjt(g:PG P P'){a:aB}{w w':ai}(k:yC P R a b)(hl:LA P R L L')(hr:HR R w w')(ht:∀n,TA n w w'):Sim P R w w' (tI P a L w) (tI P' b L' w'):=by
 unfold tI
 have hd:=k.defers
 cases hda:a.defers with
 |cons d ds=>
  cases hdb:b.defers with
  |nil=>rw[hda,hdb] at hd;exact hd.elim
  |cons d' ds'=>
   rw[hda,hdb] at hd
   obtain⟨⟨hd1,⟨ts,t,cs,Ss⟩,hd3⟩,hd4⟩:=hd
   have hd5:d'.target=.builtin .close ts t cs:=hd1.trans Ss
   simp only[Ss,hd5]
   cases hx:(invoke (.builtin .close ts t cs) d.args).runT P w #[] with
   |mk r es=>
    cases r with
    |halt x w1=>trivial
    |ok n w1=>
     obtain⟨_,n',wi,es',R1,h1,h2,h3,h4,h5⟩:=(ZG (P:=P) (P':=P') (R:=R) ts t cs hd3).run w w' #[] #[] n w1 es hr hx (w1.drawn-w.drawn) (by omega) (ht _)
     rw[h1]
     have sC:∀e∈seen P' b.fn (#[]++es'),Sx R w R1 e:=λ e he=>h5 e (by simpa using DU he)
     have k1:=k.mono h4.le
     cases h2 with
     |value hv=>exact⟨_,_,_,_,_,R1,rfl,⟨k1.fn,k1.has,k1.tmps,k1.todo,k1.ok,hd4.mono h4.le,k1.mode,k1.norm,k1.zP,k1.round,k1.tO,k1.live⟩,hl.mono h4.le,h3,h4,sC,by simp⟩
     |_=>trivial
 |nil=>
  cases hdb:b.defers with
  |cons d' ds'=>rw[hda,hdb] at hd;exact hd.elim
  |nil=>
   obtain⟨fn,hf,hb⟩:=k.has
   have Cr:P'.funcs[b.fn]?=ab fn:=by rw[k.fn];exact g.same hf hb
   simp only[hf,Cr]
   cases hx:(results fn a.tmps).runT P w #[] with
   |mk r es=>
    cases r with
    |halt x w1=>trivial
    |ok v w1=>
     obtain⟨_,v',wi,es',R1,h1,h2,h3,h4,h5⟩:=(QF (R:=R) g.pe fn k.tmps).run w w' #[] #[] v w1 es hr hx (w1.drawn-w.drawn) (by omega) (ht _)
     rw[h1]
     have sC:∀e∈seen P' b.fn (#[]++es'),Sx R w R1 e:=λ e he=>h5 e (by simpa using DU he)
     cases L with
     |nil=>
      cases L' with
      |nil=>exact⟨v',wi,_,R1,rfl,h2,h3,h4,sC⟩
      |cons=>exact hl.elim
     |cons c L=>
      cases L' with
      |nil=>exact hl.elim
      |cons c' L'=>
       have OD:=LA.mono h4.le hl
       exact⟨_,_,_,_,_,R1,rfl,OD.1.base.finish h2,OD.2,h3,h4,sC,by simp⟩
theorem sim(g:PG P P')(gp:GP P){a:aB}{w w':ai}(k:yC P R a b)(hl:LA P R L L')(hr:HR R w w')(ht:∀n,TA n w w'):Sim P R w w' (eG P a L w) (eG P' b L' w'):=by
 obtain⟨afn,atm,ato,ade,amo,aki,aro⟩:=a
 obtain⟨bfn,btm,bto,bde,bmo,bki,bro⟩:=b
 have e1:=k.fn
 have e2:=k.todo
 have e3:=k.mode
 simp only at e1 e2 e3
 subst e1 e2 e3
 unfold eG
 have fc:=k.ok
 simp only at fc
 have leave:Sim P R w w' (.next ⟨bfn,atm,bto,ade,.returning,aki,aro⟩ L w #[] []) (.next ⟨bfn,btm,bto,bde,.returning,bki,bro⟩ L' w' #[] []):=
  ⟨_,_,_,_,_,R,rfl,⟨k.fn,k.has,k.tmps,k.todo,k.ok,k.defers,rfl,k.norm,k.zP,k.round,k.tO,.inr rfl⟩,hl,hr,KP.refl _ _ _,by simp,by simp⟩
 cases bmo with
 |panicking c=>trivial
 |returning=>exact zjt g k hl hr ht
 |run=>
  unfold JB
  cases bto with
  |nil=>exact leave
  |cons x kk=>
   have tail:∀x∈kk,qG P x=ae:=λ x hx=>fc x (by simp[hx])
   have one:∀{y:qD},qG P y=ae->∀x∈y::kk,qG P x=ae:=by
    intro y hy x hx
    rcases bF.1 hx with rfl|hx
    ·exact hy
    ·exact tail x hx
   have two:∀{y z:qD},qG P y=ae->qG P z=ae->∀x∈y::z::kk,qG P x=ae:=by
    intro y z hy hz x hx
    rcases bF.1 hx with rfl|hx
    ·exact hy
    ·exact one hz x hx
   have head:=fc x (by simp)
   cases x with
   |code c=>
    cases c with
    |skip=>exact wI k hl hr _ tail
    |ret=>exact leave
    |seq x y=>
     have h1:od P x=ae/\od P y=ae:=by simpa [qG,od] using head
     exact wI k hl hr _ (two (y:=.code x) (z:=.code y) h1.1 h1.2)
    |cond c x y=>
     have h1:(u7 c=ae/\od P x=ae)/\od P y=ae:=by simpa [qG,od] using head
     have hc:=k.eval h1.1.1
     simp only
     generalize Frame.eval _ c=u at hc ⊢
     generalize Frame.eval _ c=u' at hc ⊢
     cases hc
     case bool t=>
      refine wI k hl hr _ (one (y:=.code (if t=ae then x else y)) ?_)
      cases t
      ·exact h1.2
      ·exact h1.1.2
     all_goals trivial
    |block id c=>exact wI k hl hr _ (two (y:=.code c) (z:=.inBlock id) head rfl)
    |loop c=>exact wI k hl hr _ (two (y:=.code c) (z:=.inLoop c) head head)
    |exit id=>
     simp only
     cases hx:tN id kk with
     |none=>trivial
     |some k'=>exact wI k hl hr _ λ z hz=>tail z (Fh hx z hz)
    |region id ops draw=>
     cases draw with
     |false=>exact wI k hl hr _ (one (y:=.inRegion ops (oY ops.size)) head)
     |true=>
      simp only[if_true]
      rw[g.mixed]
      have e1:(choose (.order bfn id)).run P w=.ok (Question.cut (.order bfn id) (w.tape w.drawn (.order bfn id))) { w with drawn:=w.drawn+1 }:=by
       simp[choose,Sem.run,ix]
      have e2:(choose (.order bfn id)).run P' w'=.ok (Question.cut (.order bfn id) (w'.tape w'.drawn (.order bfn id))) { w' with drawn:=w'.drawn+1 }:=by
       simp[choose,Sem.run,ix]
      have e3:w.tape w.drawn (.order bfn id)=w'.tape w'.drawn (.order bfn id):=ht 1 0 _ (by omega)
      rw[e1,e2,e3]
      have kp:KP R w w' R { w with drawn:=w.drawn+1 } { w' with drawn:=w'.drawn+1 }:=⟨BR.le_refl _,aA _,by simp,λ _ _ _ h=>.inl h,λ k hk=>by simp at hk<;>omega,λ _ _ _=>rfl,λ _ _ _ _ _=>⟨rfl,rfl⟩,rfl,rfl,rfl,rfl,rfl,rfl,by simp,by simp⟩
      exact⟨_,_,_,_,_,R,rfl,k.zdI _ (one (y:=.inRegion ops _) head),hl,⟨hr.inj,hr.obj,hr.kinds⟩,kp,by simp,by simp⟩
    |_=>trivial
   |inBlock id=>exact wI k hl hr _ tail
   |inLoop c=>exact wI k hl hr _ (two (y:=.code c) (z:=.inLoop c) head head)
   |inRegion ops l=>
    cases l with
    |nil=>exact wI k hl hr _ tail
    |cons i rest=>
     have hy:yielded ops btm=yielded ops atm:=AV.yielded k.tmps ops
     simp only[hy]
     split
     ·cases ho:ops[i]? with
      |none=>trivial
      |some o=>
       have h1:(ops.all λ o=>Pb P o.op)=ae:=head
       rw[aT] at h1
       exact zr9 g gp k hl hr ht (h1 o (df ho)) rfl ⟨_,_,_,_,rfl⟩
     ·exact⟨_,_,_,_,_,R,rfl,k.finish ua,hl,hr,KP.refl _ _ _,by simp,by simp⟩
   |_=>trivial
end
def wo(P:aG)(fs:Array fI):aG:={ P with globals:=#[],funcs:=fs }
section
variable{P:aG}{fs:Array fI}
theorem Qp:∀(f:Nat) (t:au),pz (wo P fs).toTables f t=pz P.toTables f t
 |0,_=>rfl
 |f+1,t=>by
  have e:pz (wo P fs).toTables f=pz P.toTables f:=funext (Qp f)
  unfold pz
  rw[e]
  rfl
theorem tS(t:au):(wo P fs).info? t=P.info? t:=by
 unfold Tables.info?
 rw[Qp]
 rfl
theorem CY(t:au):(wo P fs).underlying t=P.underlying t:=by simp only[Program.underlying,tS]
theorem zdP(t:au):(wo P fs).underlyingId t=P.underlyingId t:=by simp only[Program.underlyingId,tS]
theorem UY:∀(d:Nat) (t u:au),(wo P fs).alikeButTags d t u=P.alikeButTags d t u
 |0,_,_=>rfl
 |d+1,t,u=>by
  have e:(wo P fs).alikeButTags d=P.alikeButTags d:=funext λ a=>funext λ b=>UY d a b
  simp only[Program.alikeButTags,tS,CY,zdP,e]
theorem ziC(t:au):(wo P fs).stoodInHeld t=P.stoodInHeld t:=by
 simp only[Program.stoodInHeld,Program.stoodInAs,tS,CY,zdP,UY]
 rfl
theorem eo:∀(d:Nat) (t:au),(wo P fs).eqGuardType d t=P.eqGuardType d t
 |0,_=>rfl
 |d+1,t=>by
  have e:(wo P fs).eqGuardType d=P.eqGuardType d:=funext λ a=>eo d a
  simp only[Program.eqGuardType,CY,e]
theorem ib:(wo P fs).depth=P.depth:=rfl
theorem r7:(wo P fs).types=P.types:=rfl
theorem zeS:P.follows .mixedOrders=(wo P fs).follows .mixedOrders:=rfl
theorem zr4:(wo P fs).rt=P.rt:=rfl
theorem ly{P:aG}{f:ck}{fn:fI}(hf:P.funcs[f]?=ab fn)(hn:(fn.name == "runtime.NumGoroutine")=aa)(hb:fn.body.isNone=aa)(args:Array aj)(w:ai):(fJ f args).run P w=.ok (.enter f args) w:=by
 unfold fJ
 show Sem.run P (match P.funcs[f]? with|none=>stuck "call: no such function"|some fn=>_) w=_
 rw[hf]
 simp only[hn,hb,ca,if_false]
 rfl
theorem zrY(h:P.info? sF=ak):PE (wo P fs) P:=⟨λ t=>(tS t).symm,rfl,(tS _).trans h,rfl,λ t=>(ziC t).symm⟩
variable{w:ai}
theorem tz{α β:Type}(Q:aG)(s:Sem α)(f:α->Sem β)(w:ai):(s >>= f).run Q w=(s.run Q w).andThen λ a w'=>(f a).run Q w':=Sem.run_bind ..
theorem J8{α:Type}(Q:aG)(a:α)(w:ai):(bN a:Sem α).run Q w=.ok a w:=rfl
theorem yf(t:au):(dQ t).run (wo P fs) w=(dQ t).run P w:=by
 show Sem.run (wo P fs) (match (wo P fs).info? t with|some i=>Sem.pure i|none=>stuck "no such type") w=Sem.run P (match P.info? t with|some i=>Sem.pure i|none=>stuck "no such type") w
 rw[tS]
 cases P.info? t<;>rfl
theorem uX(t:au):(underlying t).run (wo P fs) w=(underlying t).run P w:=by
 show Sem.run (wo P fs) (match (wo P fs).underlying t with|some i=>Sem.pure i|none=>stuck "no such type") w=Sem.run P (match P.underlying t with|some i=>Sem.pure i|none=>stuck "no such type") w
 rw[CY]
 cases P.underlying t<;>rfl
theorem Sg(t:au):(jl t).run (wo P fs) w=(jl t).run P w:=by
 unfold jl
 rw[tz,tz,yf]
 generalize (dQ t).run P w=r
 cases r with
 |ok i w1=>simp only[ie,J8]
 |halt x w1=>simp only[ie]
theorem Uc(t:au):(qz t).run (wo P fs) w=(qz t).run P w:=by
 unfold qz
 rw[tz,tz,uX]
 generalize (underlying t).run P w=r
 cases r with
 |ok d w1=>cases d<;>simp only[ie,J8]
 |halt x w1=>simp only[ie]
theorem Jl(t:au):(ee t).run (wo P fs) w=(ee t).run P w:=by
 unfold ee
 rw[tz,tz,yf]
 generalize (dQ t).run P w=r
 cases r with
 |ok i w1=>
  simp only[ie]
  cases i.zero with
  |some v=>simp only[J8]
  |none=>simp only[unsupported,Sem.run]
 |halt x w1=>simp only[ie]
end
def LM(m:Nat):Nat->List fI->List fI
 |_,[]=>[]
 |i,f::r=>(if nJ m i then f else dummy)::LM m (i+1) r
theorem Zv(m:Nat):∀(l:List fI) (i k:Nat),(LM m i l)[k]?=(l[k]?).map λ f=>if nJ m (i+k) then f else dummy
 |[],_,_=>rfl
 |f::r,i,0=>rfl
 |f::r,i,k+1=>by
  show (LM m (i+1) r)[k]?=(r[k]?).map _
  rw[Zv m r (i+1) k,show i+1+k=i+(k+1) by omega]
theorem Zw(m:Nat):∀(l:List fI) (i:Nat),(LM m i l).length=l.length
 |[],_=>rfl
 |_::r,i=>by simp[LM,Zw m r (i+1)]
def Pn(P:aG)(m:Nat):aG:=wo P (LM m 0 P.funcs.toList).toArray
theorem PT(P:aG)(m k:Nat):(Pn P m).funcs[k]?=(P.funcs[k]?).map λ f=>if nJ m k then f else dummy:=by
 show ((LM m 0 P.funcs.toList).toArray)[k]?=_
 rw[dG,Zv,Nat.zero_add,Array.getElem?_toList]
theorem zbP{P:aG}{m k:Nat}{fn:fI}(h:P.funcs[k]?=ab fn)(hb:nJ m k=ae):(Pn P m).funcs[k]?=ab fn:=by
 rw[PT,h,cO,if_pos hb]
def okF(P:aG)(fn:fI):Bool:=match fn.body with
 |some c=>od P c
 |none=>ae
def zqP(P:aG)(m:Nat)(q:fI->Bool):Bool:=(oY P.funcs.size).all λ k=>!Nat.testBit m k || (P.funcs[k]?).all q
theorem zdb{P:aG}{m:Nat}{q:fI->Bool}(h:zqP P m q=ae){k:Nat}{fn:fI}(hk:P.funcs[k]?=ab fn)(hb:nJ m k=ae):q fn=ae:=by
 have:=List.all_eq_true.1 h k (List.mem_range.2 (ah.1 hk).1)
 simpa [hk,hb] using this
theorem zi5{P:aG}{m:Nat}(hn:P.info? sF=ak)(h:zqP P m (λ fn=>fn.body.isSome && !(fn.name == "runtime.NumGoroutine"))=ae):PG (Pn P m) P:=by
 refine⟨zrY hn,λ f fn hf=>?_,?_,zeS⟩
 ·rw[PT] at hf
  obtain⟨fn0,h0,rfl⟩:=aN.1 hf
  by_cases hb:nJ m f=ae
  ·rw[if_pos hb]
   have:=zdb h h0 hb
   simp only[aE,kP] at this
   exact .inr ⟨this.1,this.2,h0⟩
  ·rw[if_neg hb]
   exact .inl rfl
 ·show P.funcs.size=(LM m 0 P.funcs.toList).toArray.size
  simp[Zw]
theorem zi4{P:aG}{m:Nat}(h:zqP P m (okF (Pn P m))=ae):GP (Pn P m):=by
 intro f fn c hf hc
 rw[PT] at hf
 obtain⟨fn0,h0,rfl⟩:=aN.1 hf
 by_cases hb:nJ m f=ae
 ·rw[if_pos hb] at hc
  have:=zdb h h0 hb
  unfold okF at this
  rw[hc] at this
  exact this
 ·rw[if_neg hb] at hc
  cases hc
open Go.Conc
section
variable{P:aG}{main:Bool}{fr:aB}{L:List aB}{w:ai}
theorem Sem.zjl{α:Type}{p:aG}{e:Sem α}{w:ai}{es ik:Array bT}{r:Result α}(h:e.runT p w es=(r,ik)):e.run p w=r:=by
 rw[<-Sem.runT_fst p e w es,h]
def Does(P:aG)(main:Bool)(fr:aB)(L:List aB)(w:ai)(r:LR):Prop:=
 match r with
 |.next fr1 L1 w1 es acts=>∀cs,(acts=[]/\bU P main (G fr (L++cs)) w=.go (G fr1 (L1++cs)) w1 es)\/
   (∃c sh w0,bU P main (G fr (L++cs)) w=.comm (G fr (L++cs)) #[c] ae sh w0 es/\mV fr L c sh w0 es=.next fr1 L1 w1 es acts)
 |.ret v w1 es=>L=[]/\fr.mode=.returning/\fr.defers=[]/\(∃fn,P.funcs[fr.fn]?=ab fn/\(results fn fr.tmps).run P w=.ok v w1)/\∀c cs,bU P main (G fr (c::cs)) w=.go (G (c.finish v) cs) w1 es
 |.bad=>True
theorem H8{c:oz}{sh:mq}{es:Array bT}{r:LR}(h:mV fr L c sh w es=r):r=.bad\/∃fr1 w1 acts,r=.next fr1 L w1 es acts:=by
 subst h
 unfold mV
 repeat' split
 all_goals first
  |exact .inl rfl
  |exact .inr ⟨_,_,_,rfl⟩
theorem zmV{ops:Array di}{i:Nat}{rest:List Nat}{k:List qD}{o:di}(hk:fr.kind=.normal)(Yb:fr.roundOf=ak)(hm:fr.mode=.run)(ht:fr.todo=.inRegion ops (i::rest)::k)(ho:ops[i]?=ab o)
  (hw:((ops[i]?).map (aR · (yielded ops fr.tmps))).getD aa=ae):Does P main fr L w (LF P fr L o w):=by
 have e:∀cs,bU P main (G fr (L++cs)) w=dR P ae fr (L++cs) ak (bd fr.eval o) w:=by
  intro cs
  have zhe:fr.oper?=ab o:=by simp[Frame.oper?,ht,ho]
  simp only[bU,G,hm,eK,ht,hw,if_true,stepG.oper,zhe,Yb]
 unfold LF
 cases hx:(bd fr.eval o).runT P w #[] with
 |mk r es=>
  have kd:(fr.kind == CallKind.early)=aa:=by rw[hk];rfl
  cases r with
  |halt x w1=>trivial
  |ok n w1=>
   have hp:=hx
   simp only[Sem.runT_eq,bz] at hp
   obtain⟨ku,qC⟩:=hp
   cases n with
   |value v=>
    intro cs
    refine .inl ⟨rfl,?_⟩
    rw[e]
    simp[dR,ku,qC,kd,dE,G]
   |skip=>
    intro cs
    refine .inl ⟨rfl,?_⟩
    rw[e]
    simp[dR,ku,qC,kd,dE,G]
   |enter f args=>
    intro cs
    refine .inl ⟨rfl,?_⟩
    rw[e]
    simp[dR,ku,qC,kd,dE,G,ht]
   |defer d=>
    intro cs
    refine .inl ⟨rfl,?_⟩
    rw[e]
    simp[dR,ku,qC,kd,dE,G]
   |comm zhL blocking sh=>
    simp only
    split
    ·rename_i c hc
     have hc':zhL=#[c]:=by
      obtain⟨l⟩:=zhL
      simp only at hc
      rw[hc]
     subst hc'
     rcases H8 (fr:=fr) (L:=L) (w:=w1) (c:=c) (sh:=sh) (es:=seen P fr.fn es) rfl with h|⟨fr1,w2,acts,h⟩
     ·rw[h];trivial
     ·rw[h]
      intro cs
      refine .inr ⟨c,sh,w1,?_,h⟩
      rw[e]
      simp[dR,ku,qC,kd,dE,G]
    ·trivial
   |_=>trivial
theorem ry(Yb:fr.roundOf=ak)(hm:fr.mode=.run){todo:List qD}(h:∀cs,bU P main (G fr (L++cs)) w=.go (G { fr with todo } (L++cs)) w #[]):Does P main fr L w (lto fr L w todo):=
 λ cs=>.inl ⟨rfl,h cs⟩
theorem zez(hk:fr.kind=.normal)(Yb:fr.roundOf=ak)(hm:fr.mode=.returning):Does P main fr L w (tI P fr L w):=by
 unfold tI
 cases hd:fr.defers with
 |cons d ds=>
  simp only
  obtain⟨t,args⟩:=d
  cases t with
  |builtin b ts ty cs=>
   cases b<;>first|trivial|skip
   simp only
   cases hx:(invoke (.builtin .close ts ty cs) args).runT P w #[] with
   |mk r es=>
    cases r with
    |halt x w1=>trivial
    |ok n w1=>
     cases n<;>first|trivial|skip
     have hp:=hx
     simp only[Sem.runT_eq,bz] at hp
     obtain⟨ku,qC⟩:=hp
     intro cs
     refine .inl ⟨rfl,?_⟩
     simp[bU,G,hm,unwind,hd,l6,ku,qC,dE]
  |_=>trivial
 |nil=>
  simp only
  cases hf:P.funcs[fr.fn]? with
  |none=>trivial
  |some fn=>
   simp only
   cases hx:(results fn fr.tmps).runT P w #[] with
   |mk r es=>
    cases r with
    |halt x w1=>trivial
    |ok v w1=>
     have hp:=hx
     simp only[Sem.runT_eq,bz] at hp
     obtain⟨ku,qC⟩:=hp
     cases L with
     |nil=>
      refine⟨rfl,hm,hd,⟨fn,hf,Sem.zjl hx⟩,λ c cs=>?_⟩
      simp[bU,G,hm,unwind,hd,hf,ku,qC,dE,doReturn,hk]
     |cons c L=>
      intro cs
      refine .inl ⟨rfl,?_⟩
      simp[bU,G,hm,unwind,hd,hf,ku,qC,dE,doReturn,hk]
theorem zaL(hk:fr.kind=.normal)(Yb:fr.roundOf=ak):Does P main fr L w (eG P fr L w):=by
 unfold eG
 cases hm:fr.mode with
 |panicking c=>trivial
 |returning=>exact zez hk Yb hm
 |run=>
  have leave:fr.todo=[]\/(∃k,fr.todo=.code .ret::k)->Does P main fr L w (.next { fr with mode:=.returning } L w #[] []):=by
   intro h cs
   refine .inl ⟨rfl,?_⟩
   rcases h with h|⟨k,h⟩<;>simp[bU,G,hm,eK,h,Yb]
  simp only
  unfold JB
  split
  ·rename_i h;exact leave (.inl h)
  ·rename_i k h;exact leave (.inr ⟨_,h⟩)
  ·rename_i k h;exact ry Yb hm λ cs=>by simp[bU,G,hm,eK,h]
  ·rename_i k h;exact ry Yb hm λ cs=>by simp[bU,G,hm,eK,h]
  ·rename_i k h;exact ry Yb hm λ cs=>by simp[bU,G,hm,eK,h]
  ·rename_i c x y k h
   split
   ·rename_i t ht;exact ry Yb hm λ cs=>by simp[bU,G,hm,eK,h,ht]
   ·trivial
  ·rename_i k h;exact ry Yb hm λ cs=>by simp[bU,G,hm,eK,h]
  ·rename_i k h;exact ry Yb hm λ cs=>by simp[bU,G,hm,eK,h]
  ·rename_i k h;exact ry Yb hm λ cs=>by simp[bU,G,hm,eK,h]
  ·rename_i id k h
   split
   ·rename_i k' hx;exact ry Yb hm λ cs=>by simp[bU,G,hm,eK,h,hx]
   ·trivial
  ·rename_i id ops draw k h
   cases draw with
   |false=>exact ry Yb hm λ cs=>by simp[bU,G,hm,eK,h]
   |true=>
    simp only[if_true]
    cases hx:(choose (.order fr.fn id)).run P w with
    |halt _ _=>trivial
    |ok t w1=>
     intro cs
     refine .inl ⟨rfl,?_⟩
     simp only[bU,G,hm,eK,h,Bool.not_true,ca,if_false,hx]
  ·rename_i k h;exact ry Yb hm λ cs=>by simp[bU,G,hm,eK,h]
  ·rename_i ops i rest k h
   split
   ·rename_i hw
    cases ho:ops[i]? with
    |none=>trivial
    |some o=>exact zmV hk Yb hm h ho hw
   ·rename_i hw
    intro cs
    refine .inl ⟨rfl,?_⟩
    simp[bU,G,hm,eK,h,hw]
  ·trivial
end
section
variable{P P':aG}{R:BR}{fr fr1:aB}{L L1 cs:List aB}{w w1:ai}
theorem x8{rest:Rest}{gs:Array aI}{i:Nat}{c:oz}{sh:mq}{es ik:Array bT}{acts:List jX}(hp:∀r b,partners gs r b=[])(h:mV fr L c sh w es=.next fr1 L1 w1 ik acts):
  L1=L/\ik=es/\communicate P rest gs i (G fr cs) #[c] ae sh w=(.next { world:=w1,gs:=gs.setIfInBounds i (G fr1 cs),rest },(acts.map λ a=>({ g:=i,fn:=fr.fn,pos:=fr.place,act:=a }:MemOp)).toArray):=by
 obtain⟨ch,sd,z⟩:=c
 unfold mV at h
 simp only at h
 split at h
 ·rename_i r
  split at h
  ·rename_i cap buf closed Pe Wd tm v ho
   split at h
   ·cases h
   ·rename_i hc
    have hc':closed=aa:=by simpa using hc
    subst hc'
    split at h
    ·rename_i hb
     simp only[LR.next.injEq] at h
     obtain⟨rfl,rfl,rfl,rfl,rfl⟩:=h
     refine⟨rfl,rfl,?_⟩
     have hw:ways w gs ⟨.chan (ab r),ab v,z⟩=[.buffer]:=by simp[ways,ho,hp,hb]
     simp[communicate,hw,ho,G,sn,choose,Sem.run,ie,ix]
    ·cases h
  ·rename_i cap buf closed Pe Wd tm ho
   by_cases hb:buf.size > 0
   ·rw[if_pos hb] at h
    simp only[LR.next.injEq] at h
    obtain⟨rfl,rfl,rfl,rfl,rfl⟩:=h
    refine⟨rfl,rfl,?_⟩
    have hw:ways w gs ⟨.chan (ab r),ak,z⟩=[.buffer]:=by simp[ways,ho,hb]
    simp[communicate,hw,ho,G,sn,choose,Sem.run,ie,ix,hp]
   ·rw[if_neg hb] at h
    split at h
    ·rename_i hc
     subst hc
     simp only[LR.next.injEq] at h
     obtain⟨rfl,rfl,rfl,rfl,rfl⟩:=h
     refine⟨rfl,rfl,?_⟩
     have hw:ways w gs ⟨.chan (ab r),ak,z⟩=[.closed]:=by simp[ways,ho,hb,hp]
     simp[communicate,hw,ho,G,sn,choose,Sem.run,ie,ix]
    ·cases h
  ·cases h
 ·cases h
theorem Nq{rest:Rest}{gs:Array aI}{i:Nat}{c:oz}{sh:mq}{es:Array bT}(hm:fr.mode=.run)(hp:∀r b,partners gs r b=[])(h:mV fr L c sh w es=.bad):
  (∃o w2 ops,communicate P rest gs i (G fr cs) #[c] ae sh w=(.ended o w2,ops))\/
  (∃chain w2 ops,communicate P rest gs i (G fr cs) #[c] ae sh w=(.next { world:=w2,gs:=gs.setIfInBounds i (G { fr with mode:=.panicking chain } cs),rest },ops))\/
  (∃x w2 ops,communicate P rest gs i (G fr cs) #[c] ae sh w=(.next { world:=w2,gs:=gs.setIfInBounds i { G fr cs with status:=.blocked,offers:=x },rest },ops)):=by
 obtain⟨ch,sd,z⟩:=c
 have wait:ways w gs ⟨ch,sd,z⟩=[]->(∀r,ch=.chan (ab r)->(w.heap[r]? matches ab (.chan ..))=ae)->(∃r,ch=.chan r)->
   (∃o w2 ops,communicate P rest gs i (G fr cs) #[⟨ch,sd,z⟩] ae sh w=(.ended o w2,ops))\/
   (∃chain w2 ops,communicate P rest gs i (G fr cs) #[⟨ch,sd,z⟩] ae sh w=(.next { world:=w2,gs:=gs.setIfInBounds i (G { fr with mode:=.panicking chain } cs),rest },ops))\/
   (∃x w2 ops,communicate P rest gs i (G fr cs) #[⟨ch,sd,z⟩] ae sh w=(.next { world:=w2,gs:=gs.setIfInBounds i { G fr cs with status:=.blocked,offers:=x },rest },ops)):=by
  intro hw hch hc
  obtain⟨r,rfl⟩:=hc
  have nil:∀g:aI,communicate P rest gs i g #[⟨.chan r,sd,z⟩] ae sh w=match waitingAt rest #[⟨.chan r,sd,z⟩] w with
    |some w=>(.next { world:=w,gs:=gs.setIfInBounds i { g with status:=.blocked,offers:=ab (#[⟨.chan r,sd,z⟩],sh) },rest },#[])
    |none=>(.ended (.unsupported (.resourceLimit "no descriptor is free for the run-time's poller, which the first wait for a timer's channel opens") (g.frame.pos P)) w,#[]):=by
   intro g
   cases r with
   |none=>simp[communicate,hw];rfl
   |some r=>
    have:=hch r rfl
    split at this
    ·rename_i h1
     simp[communicate,hw,h1];rfl
    ·cases this
  rw[nil]
  cases waitingAt rest #[⟨.chan r,sd,z⟩] w with
  |none=>exact .inl ⟨_,_,_,rfl⟩
  |some w2=>exact .inr (.inr ⟨_,_,_,rfl⟩)
 unfold mV at h
 simp only at h
 split at h
 ·rename_i r
  split at h
  ·rename_i cap buf closed Pe Wd tm v ho
   split at h
   ·rename_i hc
    subst hc
    have hw:ways w gs ⟨.chan (ab r),ab v,z⟩=[.sendClosed]:=by simp[ways,ho]
    refine .inr (.inl ?_)
    cases hx:(cV (.plain "send on closed channel"):Sem Unit).run P w with
    |ok a w2=>
     exfalso
     have:dg P (cV (.plain "send on closed channel"):Sem Unit):=eu _
     have e:(cV (.plain "send on closed channel"):Sem Unit).runT P w #[]=(.ok a w2,(cV (.plain "send on closed channel"):Sem Unit).events P w #[]):=by rw[Sem.runT_eq,hx]
     exact this.JM _ _ _ _ _ e
    |halt x w2=>
     have hv:∃v,x=.panic v:=by
      simp[cV,goPanic,Sem.run] at hx
      exact⟨_,hx.1.symm⟩
     obtain⟨u,rfl⟩:=hv
     refine⟨[{ v:=u,recovered:=aa }],w2,#[],?_⟩
     simp[communicate,hw,ho,G,choose,Sem.run,ie,ix,kF,hm]
     have e:Sem.run P (cV (RuntimeError.plain "send on closed channel"):Sem Unit) w=.halt (.panic u) w2:=hx
     simp[cV,goPanic,Sem.run] at e ⊢
     simp[e]
   ·rename_i hc
    have hc':closed=aa:=by simpa using hc
    subst hc'
    split at h
    ·cases h
    ·rename_i hb
     exact wait (by simp[ways,ho,hp,hb]) (λ r' e=>by cases e;simp[ho]) ⟨_,rfl⟩
  ·rename_i cap buf closed Pe Wd tm ho
   by_cases hb:buf.size > 0
   ·rw[if_pos hb] at h;cases h
   ·rw[if_neg hb] at h
    split at h
    ·cases h
    ·rename_i hc
     have hc':closed=aa:=by simpa using hc
     subst hc'
     exact wait (by simp[ways,ho,hp,hb]) (λ r' e=>by cases e;simp[ho]) ⟨_,rfl⟩
  ·rename_i sd2 _ _ n1 n2
   refine .inl ⟨.stuck "a communication at a channel whose block is no channel's" ((G fr cs).frame.pos P),w,#[],?_⟩
   cases ho:w.heap[r]? with
   |none=>simp[communicate,ho]
   |some o=>
    cases o
    case chan cap buf closed s rc tm=>
     cases sd2 with
     |none=>exact(n2 _ _ _ _ _ _ ho rfl).elim
     |some v=>exact(n1 _ _ _ _ _ _ _ ho rfl).elim
    all_goals simp[communicate,ho]
 ·rename_i n1
  cases ch with
  |chan r=>
   cases r with
   |none=>exact wait (by simp[ways]) (λ r' e=>by cases e) ⟨_,rfl⟩
   |some r=>exact absurd rfl (n1 r)
  |_=>exact .inl ⟨.stuck "a communication at a channel whose block is no channel's" ((G fr cs).frame.pos P),w,#[],by simp[communicate]⟩
end
def stub(P:aG):aB:={ fn:=P.funcs.size,tmps:=#[],todo:=[.call default aa "fmt's door zzz" #[]],defers:=[],mode:=.run,kind:=.normal }
theorem zrW:Extern.next "fmt's door zzz"=ak:=by kernel_rfl
theorem door : "fmt's door zzz".startsWith "fmt's door"=ae:=by kernel_rfl
section
variable{P P':aG}{R:BR}{main:Bool}
def zoE(fr:aB):Prop:=∀d∈fr.defers,∃ts t cs,d.target=.builtin .close ts t cs
theorem LD.ok:∀{l l':List eH},LD R l l'->∀d∈l,∃ts t cs,d.target=.builtin .close ts t cs
 |[],[],_,d,h=>by simp at h
 |x::l,x'::l',k,d,h=>by
  rcases bF.1 h with rfl|h
  ·exact k.1.close
  ·exact LD.ok k.2 d h
theorem Qd {ts : Array au} {t : au} {cs : Array Bool} {args : Array aj} {w : ai} {r : Result Next} (h : (invoke (.builtin .close ts t cs) args).run P w = r) :
    (∃ v w1, r = .ok (.value v) w1) ∨ (∃ v w1, r = .halt (.panic v) w1) ∨ (∃ s w1, r = .halt (.stuck s) w1) := by
  subst h
  have e0 : invoke (.builtin .close ts t cs) args = (do let x ← lC ts t args; pure (lZ x) : Sem Next) := rfl
  rw [e0]
  have rp : ∀ (m : String) (w : ai), ∃ v w1, Sem.run P (do let x ← (cV (.plain m) : Sem aj); pure (lZ x) : Sem Next) w = .halt (.panic v) w1 := by
    intro m w
    simp [cV, goPanic, Sem.run]
  have zrx : lC ts t args = cV (.plain "close of nil channel") ∨ (∃ r, args = #[.chan (ab r)]) ∨ lC ts t args = stuck "close: one channel expected" := by
    obtain ⟨l⟩ := args
    match l with
    | [] => exact .inr (.inr rfl)
    | [x] =>
      cases x
      case chan r => cases r with
        | none => exact .inl rfl
        | some r => exact .inr (.inl ⟨r, rfl⟩)
      all_goals exact .inr (.inr rfl)
    | x :: y :: l => exact .inr (.inr rfl)
  rcases zrx with h | ⟨r, rfl⟩ | h
  · rw [h]; exact .inr (.inl (rp _ _))
  · have e1 : lC ts t #[.chan (ab r)] = (do
        let .chan room buf closed Pe zjf timer ← getObj r | stuck "close: no channel in this block"
        if closed then cV (.plain "close of closed channel")
        setObj r (.chan room buf ae Pe zjf timer)
        pure (.tuple #[])) := rfl
    rw [e1]
    cases ho : w.heap[r]? with
    | none => exact .inr (.inr (by simp [getObj, Sem.run, ho, stuck]))
    | some o =>
      cases o
      case chan cap buf closed s rc tm =>
        cases closed with
        | true => exact .inr (.inl (by simp [getObj, Sem.run, ho, cV, goPanic]))
        | false => exact .inl (by simp [getObj, setObj, Sem.run, ho])
      all_goals exact .inr (.inr (by simp [getObj, Sem.run, ho, stuck]))
  · rw [h]; exact .inr (.inr (by simp [Sem.run, stuck]))
def zgZ(P:aG)(main:Bool)(a:aB)(cs:List aB)(L:List aB)(w:ai):Prop:=
 (∃o w1 es,bU P main (G a cs) w=.ended o w1 es)\/
 (∃ds chain w1 es,bU P main (G a cs) w=.go (G { a with defers:=ds,mode:=.panicking chain } cs) w1 es/\∀d∈ds,d∈a.defers)\/
 (∃c sh w1 es,a.mode=.run/\bU P main (G a cs) w=.comm (G a cs) #[c] ae sh w1 es/\mV a L c sh w1 es=.bad)
theorem ziq(g:PG P P'){a b:aB}{L:List aB}{w w':ai}(k:yC P R a b)(hr:HR R w w'){ops:Array di}{i:Nat}{rest:List Nat}{kk:List qD}{o:di}(hm:a.mode=.run)(ht:a.todo=.inRegion ops (i::rest)::kk)(ho:ops[i]?=ab o)
  (fc:Pb P o.op=ae) (hw:((ops[i]?).map (aR · (yielded ops a.tmps))).getD aa=ae) (h:LF P a L o w=.bad) (cs:List aB):zgZ P main a (L++cs) L w:=by
 have e:bU P main (G a (L++cs)) w=dR P ae a (L++cs) ak (bd a.eval o) w:=by
  have zhe:a.oper?=ab o:=by simp[Frame.oper?,ht,ho]
  simp only[bU,G,hm,eK,ht,hw,if_true,stepG.oper,zhe,k.round]
 have kd:(a.kind == CallKind.early)=aa:=by rw[k.norm];rfl
 have sr:=W9 (R:=R) g fc (λ x hx=>k.eval hx) (λ v=>⟨rfl,rfl⟩)
 unfold LF at h
 cases hx:(bd a.eval o).runT P w #[] with
 |mk r es=>
  have hp:=hx
  simp only[Sem.runT_eq,bz] at hp
  obtain⟨ku,qC⟩:=hp
  cases r with
  |halt x w1=>
   have zo0:=sr.V9 w w' #[] x w1 es hr hx
   unfold zgZ
   rw[e]
   cases x with
   |panic v=>
    refine .inr (.inl ⟨a.defers,[{ v,recovered:=aa }],w1,seen P a.fn es,?_,λ d hd=>hd⟩)
    simp[dR,ku,qC,kd,dE,G,kF,hm]
   |stuck s=>
    refine .inl ?_
    simp[dR,ku,qC,kd,dE]
   |unsupported u=>
    refine .inl ?_
    cases u<;>first
     |(cases zo0;done)
     |simp[dR,ku,qC,kd,dE]
   |_=>cases zo0
  |ok n w1=>
   have hT:TA (w1.drawn-w.drawn) w (World.on w' w.tape w.drawn):=λ j q _=>rfl
   obtain⟨_,n',wi,es',R1,h1,h2,h3,h4,h5⟩:=sr.run w (World.on w' w.tape w.drawn) #[] #[] n w1 es ⟨hr.inj,hr.obj,hr.kinds⟩ hx (w1.drawn-w.drawn) (by omega) hT
   cases h2 with
   |comm hc sh hs=>
    rename_i c c'
    simp only[hx] at h
    refine .inr (.inr ⟨c,sh,w1,seen P a.fn es,hm,?_,h⟩)
    rw[e]
    simp[dR,ku,qC,kd,dE,G]
   |_=>simp only[hx] at h;cases h
theorem YE(g:PG P P'){a b:aB}{L:List aB}{w w':ai}(k:yC P R a b)(hr:HR R w w')(h:eG P a L w=.bad)(cs:List aB):zgZ P main a (L++cs) L w:=by
 have fc:=k.ok
 unfold eG at h
 rcases k.live with hm|hm
 ·rw[hm] at h
  simp only at h
  unfold JB at h
  split at h
  ·cases h
  ·cases h
  ·cases h
  ·cases h
  ·cases h
  ·rename_i c x y kk e
   split at h
   ·cases h
   ·rename_i hb
    refine .inl ?_
    simp only[bU,G,hm,eK,e]
    exact⟨_,_,_,rfl⟩
  ·cases h
  ·cases h
  ·cases h
  ·rename_i id kk e
   split at h
   ·cases h
   ·rename_i hx
    exact .inl (by simp[bU,G,hm,eK,e,hx,k.round])
  ·rename_i id ops draw kk e
   split at h
   ·simp[choose,Sem.run,ix] at h
   ·cases h
  ·cases h
  ·rename_i ops i rest kk e
   rw[e] at fc
   split at h
   ·rename_i hw
    cases ho:ops[i]? with
    |none=>rw[ho] at hw;cases hw
    |some o=>
     simp only[ho] at h
     have h1:(ops.all λ o=>Pb P o.op)=ae:=fc (.inRegion ops (i::rest)) (by simp)
     rw[aT] at h1
     exact ziq g k hr hm e ho (h1 o (df ho)) hw h cs
   ·cases h
  ·rename_i n1 n2 n3 n4 n5 n6 n7 n8 n9 n10 n11 n12 n13
   exfalso
   cases ht:a.todo with
   |nil=>exact n1 ht
   |cons x kk=>
    have hx:=fc x (by rw[ht];simp)
    cases x with
    |code c=>
     cases c with
     |skip=>exact n3 _ ht
     |ret=>exact n2 _ ht
     |seq x y=>exact n5 _ _ _ ht
     |cond c x y=>exact n6 _ _ _ _ ht
     |block id c=>exact n7 _ _ _ ht
     |loop c=>exact n8 _ _ ht
     |exit id=>exact n10 _ _ ht
     |region id ops d=>exact n11 _ _ _ _ ht
     |_=>cases hx
    |inBlock id=>exact n4 _ _ ht
    |inLoop c=>exact n9 _ _ ht
    |inRegion ops l=>
     cases l with
     |nil=>exact n12 _ _ ht
     |cons i rest=>exact n13 _ _ _ _ ht
    |_=>cases hx
 ·rw[hm] at h
  simp only at h
  unfold tI at h
  cases hd:a.defers with
  |cons d ds=>
   obtain⟨ts,t,kT,Ss⟩:=LD.ok k.defers d (by rw[hd];simp)
   obtain⟨tg,args⟩:=d
   simp only at Ss
   subst Ss
   simp only[hd] at h
   cases hx:(invoke (.builtin .close ts t kT) args).runT P w #[] with
   |mk r es=>
    have hp:=hx
    simp only[Sem.runT_eq,bz] at hp
    obtain⟨ku,qC⟩:=hp
    simp only[hx] at h
    rcases Qd ku with⟨v,w1,rfl⟩|⟨v,w1,rfl⟩|⟨v,w1,rfl⟩
    ·cases h
    ·refine .inr (.inl ⟨ds,[{ v,recovered:=aa }],w1,seen P a.fn es,?_,λ d hd'=>by rw[hd];simp[hd']⟩)
     simp[bU,G,hm,unwind,hd,l6,ku,qC,dE,kF]
    ·refine .inl ?_
     simp[bU,G,hm,unwind,hd,l6,ku,qC,dE]
  |nil=>
   obtain⟨fn,hf,hb⟩:=k.has
   simp only[hd,hf] at h
   cases hx:(results fn a.tmps).runT P w #[] with
   |mk r es=>
    have hp:=hx
    simp only[Sem.runT_eq,bz] at hp
    obtain⟨ku,qC⟩:=hp
    simp only[hx] at h
    cases r with
    |ok v w1=>
     simp only at h
     cases L<;>cases h
    |halt x w1=>
     refine .inl ?_
     cases x<;>simp[bU,G,hm,unwind,hd,hf,ku,qC,dE]
end
section
variable{P P':aG}{R:BR}
variable{fr:aB}{cs:List aB}
theorem Hh{bx:aB}{kT:List aB}{w w':ai}(h:lone fr cs w=lone bx kT w'):fr=bx/\cs=kT/\w=w':=by
 simp only[lone,Machine.mk.injEq,and_true] at h
 obtain⟨h1,h2⟩:=h
 simp only[Array.mk.injEq,iw,Goroutine.mk.injEq,and_true] at h2
 exact⟨h2.1,h2.2,h1⟩
variable{n:Nat}
theorem runN_succ_next{m m1 m2:Machine}(h:step P m=.next m1)(k:runN P (n+1) m=.next m2):runN P n m1=.next m2:=by
 simp only[runN,h] at k
 exact k
theorem ky{m m2:Machine}{o:Outcome}{w:ai}(h:step P m=.ended o w)(k:runN P (n+1) m=.next m2):False:=by
 simp only[runN,h] at k
 cases k
structure Pan(P:aG)(fr:aB):Prop where
 mode:∃chain,fr.mode=.panicking chain
 defs:zoE fr
 has:∃fn,P.funcs[fr.fn]?=ab fn
structure Cal(P:aG)(fr:aB):Prop where
 mode:fr.mode=.run
 defs:zoE fr
 has:∃fn,P.funcs[fr.fn]?=ab fn
theorem xH:∀(n:Nat) (fr:aB) (L:List aB) (w:ai) (MR:aB) (csE:List aB) (wE:ai),csE≠[]->Pan P fr->(∀c∈L,Cal P c)->runN P n (lone fr (L++[stub P]) w)=.next (lone MR csE wE)->¬(MR.mode=.run\/MR.mode=.returning)
 |0,fr,L,w,MR,csE,wE,fh,hp,hl,h=>by
  simp only[runN,l9] at h
  obtain⟨h1,_,_⟩:=Hh h
  obtain⟨chain,hm⟩:=hp.mode
  rw[<-h1,hm]
  simp
 |n+1,fr,L,w,MR,csE,wE,fh,hp,hl,h=>by
  obtain⟨chain,hm⟩:=hp.mode
  cases hd:fr.defers with
  |cons d ds=>
   obtain⟨ts,t,cs,Ss⟩:=hp.defs d (by rw[hd];simp)
   obtain⟨tg,args⟩:=d
   simp only at Ss
   subst Ss
   have ku:=(rfl:(invoke (.builtin .close ts t cs) args).run P w=_)
   have sub:∀d∈ds,∃ts t cs,d.target=.builtin .close ts t cs:=λ d hd'=>hp.defs d (by rw[hd];simp[hd'])
   rcases Qd ku with⟨v,w1,e⟩|⟨v,w1,e⟩|⟨v,w1,e⟩
   ·have hs:step P (lone fr (L++[stub P]) w)=.next (lone { fr with defers:=ds } (L++[stub P]) w1):=fR (by simp[bU,hm,unwind,hd,l6,e])
    exact xH n { fr with defers:=ds } L w1 MR csE wE fh ⟨⟨chain,hm⟩,sub,hp.has⟩ hl (runN_succ_next hs h)
   ·have hs:step P (lone fr (L++[stub P]) w)=.next (lone ({ fr with defers:=ds }.raise [{ v,recovered:=aa }]) (L++[stub P]) w1):=fR (by simp[bU,hm,unwind,hd,l6,e])
    refine xH n _ L w1 MR csE wE fh ⟨⟨_,by simp only[kF,hm];rfl⟩,?_,?_⟩ hl (runN_succ_next hs h)
    ·simp only[kF,hm];exact sub
    ·simp only[kF,hm];exact hp.has
   ·have hs:∃o w2,step P (lone fr (L++[stub P]) w)=.ended o w2:=⟨_,_,sQ (by simp[bU,hm,unwind,hd,l6,e];exact⟨rfl,rfl⟩)⟩
    obtain⟨o,w2,hs⟩:=hs
    exact(ky hs h).elim
  |nil=>
   obtain⟨fn,hf⟩:=hp.has
   cases L with
   |nil=>
    have hs:step P (lone fr ([]++[stub P]) w)=.next (lone ((stub P).raise chain) [] w):=fR (by simp[bU,hm,unwind,hd,wK,hf])
    have h1:=runN_succ_next hs h
    cases n with
    |zero=>
     simp only[runN,l9] at h1
     exact absurd (Hh h1).2.1.symm fh
    |succ n=>
     have hs:∃o w2,(bU P ae { frame:=(stub P).raise chain,callers:=[],status:=.running,dying:=ak } w).bare=.ended o w2:=by simp[bU,stub,kF,unwind,wK,door]
     obtain⟨o,w2,hs⟩:=hs
     exact(ky (sQ hs) h1).elim
   |cons c L=>
    have hc:=hl c (by simp)
    have hs:step P (lone fr (c::L++[stub P]) w)=.next (lone (c.raise chain) (L++[stub P]) w):=fR (by simp[bU,hm,unwind,hd,wK,hf])
    refine xH n _ L w MR csE wE fh ⟨⟨chain,by simp only[kF,hc.mode]⟩,?_,?_⟩ (λ x hx=>hl x (by simp[hx])) (runN_succ_next hs h)
    ·simp only[kF,hc.mode];exact hc.defs
    ·simp only[kF,hc.mode];exact hc.has
theorem Xm{x:Option (Array oz×mq)}{w:ai}:∃o w2,step P { world:=w,gs:=#[{ frame:=fr,callers:=cs,status:=.blocked,dying:=ak,offers:=x }],rest:={ timers:=#[],alone:=ak,slice:=ak } }=.ended o w2:=by
 simp[step,stepT,move,ask,askOn,runnable_eq,due,ahead,Goroutine.canRun,List.range_succ,choose,pure,Sem.run,ix]
 generalize endWith w 2 _ _=s
 cases s<;>exact⟨_,_,rfl⟩
theorem XG{MR:aB}{x:Option (Array oz×mq)}{w wE:ai}{csE:List aB}
  (h:runN P n { world:=w,gs:=#[{ frame:=fr,callers:=cs,status:=.blocked,dying:=ak,offers:=x }],rest:={ timers:=#[],alone:=ak,slice:=ak } }=.next (lone MR csE wE)):False:=by
 cases n with
 |zero=>
  simp only[runN,l9,lone,Machine.mk.injEq] at h
  have:=h.2.1
  simp at this
 |succ n=>
  obtain⟨o,w2,e⟩:=Xm (P:=P) (fr:=fr) (cs:=cs) (x:=x) (w:=w)
  exact ky e h
theorem Er(r:Nat)(b:Bool):partners #[{ (default:aI) with status:=.finished }] r b=[]:=by
 simp[partners]
theorem B4{w w1:ai}{c:oz}{sh:mq}{es:Array bT}(h:bU P ae (G fr cs) w=.comm (G fr cs) #[c] ae sh w1 es):
  step P (lone fr cs w)=(communicate P { timers:=#[],alone:=ak,slice:=ak } #[{ (default:aI) with status:=.finished }] 0 (G fr cs) #[c] ae sh w1).1:=by
 rw[step,stepT,move_lone]
 simp only[G] at h
 simp[runT,lone,Array.swapAt!,h,G]
theorem wW{bx:aB}{kT:List aB}{w w':ai}{es:Array bT}(h:bU P ae (G fr cs) w=.go (G bx kT) w' es):step P (lone fr cs w)=.next (lone bx kT w'):=
 fR (by simp only[G] at h;rw[h];rfl)
theorem Lu{w w':ai}{o:Outcome}{es:Array bT}(h:bU P ae (G fr cs) w=.ended o w' es):step P (lone fr cs w)=.ended o w':=
 sQ (by simp only[G] at h;rw[h];rfl)
theorem LA.cal:∀{L L':List aB},LA P R L L'->∀c∈L,Cal P c
 |[],[],_,c,h=>by simp at h
 |x::l,x'::l',k,c,h=>by
  rcases bF.1 h with rfl|h
  ·obtain⟨fn,hf,_⟩:=k.1.base.has
   exact⟨k.1.run,LD.ok k.1.base.defers,fn,hf⟩
  ·exact LA.cal k.2 c h
variable{b:aB}{L:List aB}
theorem zeo(g:PG P P'){a:aB}{L':List aB}{w w':ai}(k:yC P R a b)(hl:LA P R L L')(hr:HR R w w')(h:eG P a L w=.bad){MR:aB}{csE:List aB}{wE:ai}(fh:csE≠[])
  (hn:runN P (n+1) (lone a (L++[stub P]) w)=.next (lone MR csE wE)):¬(MR.mode=.run\/MR.mode=.returning):=by
 obtain⟨fn,hf,_⟩:=k.has
 rcases YE (main:=ae) g k hr h [stub P] with⟨o,w1,es,e⟩|⟨ds,chain,w1,es,e,hds⟩|⟨c,sh,w1,es,hm,e,hb⟩
 ·exact(ky (Lu e) hn).elim
 ·exact xH n { a with defers:=ds,mode:=.panicking chain } L w1 MR csE wE fh ⟨⟨chain,rfl⟩,λ d hd=>LD.ok k.defers d (hds d hd),fn,hf⟩ hl.cal (runN_succ_next (wW e) hn)
 ·have hs:=B4 e
  rcases Nq (P:=P) (rest:={ timers:=#[],alone:=ak,slice:=ak }) (gs:=#[{ (default:aI) with status:=.finished }]) (i:=0) (cs:=L++[stub P]) hm (λ r b=>Er r b) hb with⟨o,w2,ops,e2⟩|⟨chain,w2,ops,e2⟩|⟨x,w2,ops,e2⟩
  ·rw[e2] at hs
   exact(ky hs hn).elim
  ·rw[e2] at hs
   have hs':step P (lone a (L++[stub P]) w)=.next (lone { a with mode:=.panicking chain } (L++[stub P]) w2):=hs
   exact xH n { a with mode:=.panicking chain } L w2 MR csE wE fh ⟨⟨chain,rfl⟩,λ d hd=>LD.ok k.defers d hd,fn,hf⟩ hl.cal (runN_succ_next hs' hn)
  ·rw[e2] at hs
   exact(XG (runN_succ_next hs hn)).elim
theorem Z4{w:ai}{v:aj}(h:fr.leaving P w (.returned v)):∃es,eG P fr [] w=.ret v w es:=by
 obtain⟨h1,h2,h3,fn,h4,h5⟩:=h
 unfold eG tI
 simp only[h1,h2,h4]
 rw[Sem.runT_eq,h5]
 exact⟨_,rfl⟩
def LR.on(T:Nat->dP->Nat)(d:Nat):LR->LR
 |.next fr L w es acts=>.next fr L (World.on w T d) es acts
 |.ret v w es=>.ret v (World.on w T d) es
 |.bad=>.bad
def LR.drawn:LR->Nat->Nat
 |.next _ _ w _ _,_=>w.drawn
 |.ret _ w _,_=>w.drawn
 |.bad,d=>d
def Yk(w:ai)(f:ai->LR)(r:LR):Prop:=w.drawn<=r.drawn w.drawn/\∀T d,TA (r.drawn w.drawn-w.drawn) w (World.on w T d)->f (World.on w T d)=r.on T (d+(r.drawn w.drawn-w.drawn))
theorem Yk.flat{w:ai}{f:ai->LR}{r:LR}(h:r.drawn w.drawn=w.drawn)(k:∀T d,f (World.on w T d)=r.on T d):Yk w f r:=by
 refine⟨by omega,λ T d _=>?_⟩
 rw[h,Nat.sub_self,Nat.add_zero]
 exact k T d
theorem ziR{c:oz}{sh:mq}{w:ai}{es:Array bT}:(mV fr L c sh w es).drawn w.drawn=w.drawn/\∀T d,mV fr L c sh (World.on w T d) es=(mV fr L c sh w es).on T d:=by
 unfold mV World.on
 simp only
 split
 ·split
  ·split
   ·exact⟨rfl,λ _ _=>rfl⟩
   ·split
    ·exact⟨rfl,λ _ _=>rfl⟩
    ·exact⟨rfl,λ _ _=>rfl⟩
  ·split
   ·exact⟨rfl,λ _ _=>rfl⟩
   ·split
    ·exact⟨rfl,λ _ _=>rfl⟩
    ·exact⟨rfl,λ _ _=>rfl⟩
  ·exact⟨rfl,λ _ _=>rfl⟩
 ·exact⟨rfl,λ _ _=>rfl⟩
theorem znK(g:PG P P'){a:aB}{w w':ai}(k:yC P R a b)(hr:HR R w w'){o:di}(ho:Pb P o.op=ae)(fh:LF P a L o w≠.bad):Yk w (LF P a L o) (LF P a L o w):=by
 have sr:=W9 (R:=R) g ho (λ x hx=>k.eval hx) (λ v=>⟨rfl,rfl⟩)
 cases hx:(bd a.eval o).runT P w #[] with
 |mk r es=>
  cases r with
  |halt x w1=>exact absurd (by unfold LF;rw[hx]) fh
  |ok n w1=>
   have hw:HR R w (World.on w' w.tape w.drawn):=⟨hr.inj,hr.obj,hr.kinds⟩
   have t:=λ T d (ht:TA (w1.drawn-w.drawn) w (World.on w T d)) (h:w1.drawn<=w.drawn+(w1.drawn-w.drawn))=>sr.Yx w w' #[] n w1 es hr hx (w1.drawn-w.drawn) T d h ht
   have le:w.drawn<=w1.drawn:=(sr.run w (World.on w' w.tape w.drawn) #[] #[] n w1 es hw hx (w1.drawn-w.drawn) (by omega) (λ j q _=>rfl)).1
   have t2:=λ T d (ht:TA (w1.drawn-w.drawn) w (World.on w T d))=>(t T d ht (by omega)).2
   have e:LF P a L o w=LF P a L o w:=rfl
   conv at e=>rhs;unfold LF
   rw[hx] at e
   rw[e]
   have dl:∀(r:LR),r.drawn w.drawn=w1.drawn->(∀T d,LF P a L o (World.on w T d)=r.on T (d+(w1.drawn-w.drawn))\/¬TA (w1.drawn-w.drawn) w (World.on w T d))->Yk w (LF P a L o) r:=by
    intro r h1 h2
    refine⟨by omega,λ T d ht=>?_⟩
    rw[h1] at ht ⊢
    exact(h2 T d).resolve_right (λ hn=>hn ht)
   have go:∀(r:LR),r.drawn w.drawn=w1.drawn->(∀T d,(bd a.eval o).runT P (World.on w T d) #[]=(.ok n (World.on w1 T (d+(w1.drawn-w.drawn))),es)->LF P a L o (World.on w T d)=r.on T (d+(w1.drawn-w.drawn)))->Yk w (LF P a L o) r:=by
    intro r h1 h2
    refine dl r h1 λ T d=>?_
    by_cases ht:TA (w1.drawn-w.drawn) w (World.on w T d)
    ·exact .inl (h2 T d (t2 T d ht))
    ·exact .inr ht
   cases n with
   |value v=>exact go _ rfl λ T d h=>by unfold LF;rw[h];rfl
   |skip=>exact go _ rfl λ T d h=>by unfold LF;rw[h];rfl
   |enter f args=>exact go _ rfl λ T d h=>by unfold LF;rw[h];rfl
   |defer dd=>exact go _ rfl λ T d h=>by unfold LF;rw[h];rfl
   |comm cs bl sh=>
    simp only at e
    have shape:∃c,cs.toList=[c]/\bl=ae:=by
     cases hl:cs.toList with
     |nil=>rw[hl] at e;exact absurd e fh
     |cons c l=>
      cases l with
      |cons c2 l=>rw[hl] at e;exact absurd e fh
      |nil=>
       cases bl with
       |true=>exact⟨c,rfl,rfl⟩
       |false=>rw[hl] at e;exact absurd e fh
    obtain⟨c,heq,rfl⟩:=shape
    simp only[heq] at e ⊢
    obtain⟨q1,q2⟩:=ziR (fr:=a) (L:=L) (c:=c) (sh:=sh) (w:=w1) (es:=seen P a.fn es)
    have hb:mV a L c sh w1 (seen P a.fn es)≠.bad:=e▸fh
    have q1':(mV a L c sh w1 (seen P a.fn es)).drawn w.drawn=w1.drawn:=by
     cases hq:mV a L c sh w1 (seen P a.fn es) with
     |bad=>exact absurd hq hb
     |ret v w2 es2=>rw[hq] at q1;exact q1
     |next f1 l1 w2 es2 ac=>rw[hq] at q1;exact q1
    refine go _ q1' λ T d h=>?_
    unfold LF
    rw[h]
    simp only[heq]
    exact q2 T _
   |_=>exact absurd e fh
theorem zfg(g:PG P P'){a:aB}{w w':ai}(k:yC P R a b)(hr:HR R w w')(fh:tI P a L w≠.bad):Yk w (tI P a L) (tI P a L w):=by
 have hw:HR R w (World.on w' w.tape w.drawn):=⟨hr.inj,hr.obj,hr.kinds⟩
 unfold tI at fh ⊢
 cases hd:a.defers with
 |cons d ds=>
  rw[hd] at fh
  have hD:=k.defers
  rw[hd] at hD
  cases hdb:b.defers with
  |nil=>rw[hdb] at hD;exact hD.elim
  |cons d' ds'=>
   rw[hdb] at hD
   obtain⟨⟨hd1,⟨ts,t,cs,Ss⟩,hd3⟩,_⟩:=hD
   simp only[Ss] at fh ⊢
   have sr:=ZG (P:=P) (P':=P') (R:=R) ts t cs hd3
   cases hx:(invoke (.builtin .close ts t cs) d.args).runT P w #[] with
   |mk r es=>
    rw[hx] at fh
    cases r with
    |halt x w1=>exact absurd rfl fh
    |ok n w1=>
     have le:w.drawn<=w1.drawn:=(sr.run w (World.on w' w.tape w.drawn) #[] #[] n w1 es hw hx (w1.drawn-w.drawn) (by omega) (λ j q _=>rfl)).1
     cases n with
     |value v=>
      refine⟨le,λ T dd ht=>?_⟩
      have:=(sr.Yx w w' #[] _ w1 es hr hx (w1.drawn-w.drawn) T dd (by omega) ht).2
      simp only[this]
      rfl
     |_=>exact absurd rfl fh
 |nil=>
  rw[hd] at fh
  obtain⟨fn,hf,hb⟩:=k.has
  simp only[hf] at fh ⊢
  have sr:=QF (R:=R) g.pe fn k.tmps
  cases hx:(results fn a.tmps).runT P w #[] with
  |mk r es=>
   rw[hx] at fh
   cases r with
   |halt x w1=>exact absurd rfl fh
   |ok v w1=>
    have le:w.drawn<=w1.drawn:=(sr.run w (World.on w' w.tape w.drawn) #[] #[] v w1 es hw hx (w1.drawn-w.drawn) (by omega) (λ j q _=>rfl)).1
    have:=λ T d ht=>(sr.Yx w w' #[] _ w1 es hr hx (w1.drawn-w.drawn) T d (by omega) ht).2
    cases L with
    |nil=>exact⟨le,λ T d ht=>by simp only[this T d ht];rfl⟩
    |cons c L=>exact⟨le,λ T d ht=>by simp only[this T d ht];rfl⟩
theorem zjG(g:PG P P'){a:aB}{w w':ai}(k:yC P R a b)(hr:HR R w w')(fh:JB P a L w≠.bad):Yk w (JB P a L) (JB P a L w):=by
 obtain⟨afn,atm,ato,ade,amo,aki,aro⟩:=a
 have fc:=k.ok
 simp only at fc
 unfold JB at fh ⊢
 cases ato with
 |nil=>exact .flat rfl λ _ _=>rfl
 |cons x kk=>
  have head:=fc x (by simp)
  cases x with
  |code c=>
   cases c with
   |skip=>exact .flat rfl λ _ _=>rfl
   |ret=>exact .flat rfl λ _ _=>rfl
   |seq x y=>exact .flat rfl λ _ _=>rfl
   |cond c x y=>
    simp only at fh ⊢
    generalize Frame.eval _ c=u at fh ⊢
    cases u<;>first
     |exact .flat rfl λ _ _=>rfl
     |exact absurd rfl fh
   |block id c=>exact .flat rfl λ _ _=>rfl
   |loop c=>exact .flat rfl λ _ _=>rfl
   |exit id=>
    simp only at fh ⊢
    cases hx:tN id kk with
    |none=>rw[hx] at fh;exact absurd rfl fh
    |some k'=>exact .flat rfl λ _ _=>rfl
   |region id ops draw=>
    cases draw with
    |false=>exact .flat rfl λ _ _=>rfl
    |true=>
     have e:∀w:ai,(choose (.order afn id)).run P w=.ok (Question.cut (.order afn id) (w.tape w.drawn (.order afn id))) { w with drawn:=w.drawn+1 }:=by
      intro w
      simp[choose,Sem.run,ix]
     simp only[if_true,e]
     refine⟨by simp[LR.drawn],λ T d ht=>?_⟩
     have e3:w.tape w.drawn (.order afn id)=T d (.order afn id):=ht 0 _ (by simp[LR.drawn])
     simp only[LR.drawn,LR.on,World.on,e3]
     simp
   |_=>exact absurd rfl fh
  |inBlock id=>exact .flat rfl λ _ _=>rfl
  |inLoop c=>exact .flat rfl λ _ _=>rfl
  |inRegion ops l=>
   cases l with
   |nil=>exact .flat rfl λ _ _=>rfl
   |cons i rest=>
    simp only at fh ⊢
    split
    ·rename_i hw
     rw[if_pos hw] at fh
     cases ho:ops[i]? with
     |none=>rw[ho] at fh;exact absurd rfl fh
     |some o=>
      rw[ho] at fh
      have h1:(ops.all λ o=>Pb P o.op)=ae:=head
      rw[aT] at h1
      exact znK g k hr (h1 o (df ho)) fh
    ·exact .flat rfl λ _ _=>rfl
  |_=>exact absurd rfl fh
theorem Yx(g:PG P P'){a:aB}{w w':ai}(k:yC P R a b)(hr:HR R w w')(fh:eG P a L w≠.bad):Yk w (eG P a L) (eG P a L w):=by
 unfold eG at fh ⊢
 rcases k.live with hm|hm
 ·rw[hm] at fh ⊢;exact zjG g k hr fh
 ·rw[hm] at fh ⊢;exact zfg g k hr fh
end
end Rn
end Go.Proofs.YtdpfknhenjngcaaGreatDoor
