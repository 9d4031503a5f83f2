/-
  The lone walks (part 8). No condition.
-/
import Derived.Test.YtelohkknmgaacaaGreatDoorRows
import Derived.Test.YtelohkknmgaacaaGreatDoorZ2
import Derived.WalkKit
import Derived.WalkSpells
import Derived.WalkLawsBesides
import Derived.OrdersHeld
import Derived.Maps.AppendAt
import Derived.Lib.AppendStr
import Derived.Laws.CopyRow
import Derived.Laws.Cells
import Derived.Laws.Rows
import Derived.IntWalk
import Derived.Laws.StructEq
import Derived.Laws.BytesArg
import Derived.Laws.IdiomStrings
import Derived.MapKept
import Derived.Lib.Strings
set_option linter.unusedSimpArgs false
set_option linter.unusedVariables false
set_option linter.unusedSectionVars false
set_option linter.defProp false
set_option maxRecDepth 100000
set_option maxHeartbeats 2000000
open Array renaming getD_eq_getD_getElem?→cE,replicate→aK,mapM_eq_foldlM→e9,foldlM_toList→fC,getElem?_eq_some_iff→ab,getElem?_setIfInBounds_ne→bZ,getElem?_modify→bh,getElem?_push→bx,foldl_toList→iJ,toList_zipIdx→ia,length_toList→cv,toList_inj→bj,toList_map→mD
open BitVec renaming ofInt→aS
open Bool renaming or_eq_true→dm,and_eq_true→aj,noConfusion→dO,false_eq_true→bt
open Function renaming comp_def→pk
open Go renaming World→V,Addr→bX,Value→Y,Program→al,Oper→bU,YieldsIf→qQ,Exit→mN,TypeId→ah,typeInfo→dq,sizeOf→ie,zeroValue→c9,isAgg→nR,asIntOf→je,runtimePanic→cJ,IntKind→cZ,BinOp→jN,TypeDesc→ej,TypeInfo→iC,loadVar→dx,Operand→aU,Next→s3,execOp→aG,eqGuard→iS,maxLen→tg,info_parts→EJ,heap_alloc_new→jZ,FuncId→bu,ResultVar→kP,run_underlying→aT,run_loadCells_list→nO,MapEntry→eB
open Go.Act renaming put→oL
open Go.Builtin renaming len_→ij,append_→gM
open Go.Instr renaming sureAddr→cC,indexAt→gm,index→kl,field→AP,extract→kW,sliceBound→e8,sliceBounds→cO,slice→l7,sliceAt→eN,makeInterface→jM,fieldAt→kX,build→jj,loadAt→dz,fill→ep,findNow→fg,sameNow→jF,checkKey→iH,findKey→jD,lookup→my,mapUpdate→fL
open Go.IntKind renaming i64→aD
open Go.MapKept renaming run_getObj_map→ik,run_setObj_map→yS
open Go.Next renaming value→dU
open Go.Op renaming intArith→nZ,intDiv→pQ,intBits→tD,intCmp→pP,shift→wZ,stringOp→rr,unary→Ax,equal→oO,equalIn→cY
open Go.Region renaming Mode→n7,ready→bE,binds→mC,noSelect→ny,wanted→ar
open Go.Result renaming andThen_ok→aL
open Go.Result.ok renaming injEq→eQ
open Go.RowKit renaming Below→cj
open Go.RowKit.Below renaming refl→fq
open Go.Value renaming int→cL,slice→dR
open Go.Value.slice renaming injEq→bN
open Int renaming tdiv_eq_ediv_of_nonneg→uL,eq_ofNat_of_zero_le→ee
open List renaming all_eq_true→dQ,mem_cons_self→kB,mem_singleton→dC,mem_cons→bq,foldlM_cons→fY,getD_eq_getElem?_getD→bA,getElem?_take→kA,getElem?_drop→iO,map_cons→cQ,map_nil→sH,length_drop→iy,drop_take→tN,drop_drop→jX,all_map→G5,mem_map→oV,getD→nT,getElem?_eq_getElem→aN,all_cons→fh,replicate→aP,getElem?_cons_zero→bz,getElem?_cons_succ→ef,zipIdx_cons→xA,length_take→da,take_succ_cons→ib,flatMap_cons→cP,drop_succ_cons→sj,getD_cons_succ→cU,length_cons→aW,length_nil→fN,getElem?_set_ne→bW,take_of_length_le→aM
open List.cons renaming injEq→kM,inj→vT
open Nat renaming le_refl→ao,le_trans→bw,lt_of_lt_of_le→aO,lt_or_ge→mz,mul_le_mul_right→bk,add_mul→fK,sub_mul→rj,add_comm→yl,add_zero→dA,beq→bD,ble→eI,eq_of_beq_eq_true→aE,add_assoc→gq,succ_mul→mB,min_eq_left→dn,zero_le→a7,zero_add→ew
open Option renaming map_some→cG,bind_some→fZ,map_eq_some_iff→ak,bind_eq_some_iff→bH
open Option.some renaming inj→fO,injEq→ay
open Prod.mk renaming injEq→aX
open Pure renaming pure→b8
open UInt8 renaming ofNat→gz
open Bool renaming true→E,false→H
open Option renaming some→C,none→U
namespace Go.Proofs.YtelohkknmgaacaaGreatDoor
section
open Go.RowKit
def Ex(p:Nat->Prop)(w a:V):Prop:=w.heap.size<=a.heap.size/\∀b,p b->b<w.heap.size->a.heap[b]?=w.heap[b]?
def Ex.refl(p:Nat->Prop)(w:V):Ex p w w:=⟨ao _,λ_ _ _=>rfl⟩
def Ex.trans{p:Nat->Prop}{a b c:V}(h:Ex p a b)(k:Ex p b c):Ex p a c:=⟨bw h.1 k.1,λi d e=>(k.2 i d (aO e h.1)).trans (h.2 i d e)⟩
variable{p:Nat->Prop}{w:V}
def Ex.below{w':V}(h:cj w.heap.size w w'):Ex p w w':=⟨h.size,λb _ a=>h.block b a⟩
def Ex.alloc(p:Nat->Prop)(w:V)(o:Obj):Ex p w (w.alloc o):=Ex.below ((fq _ _).alloc (ao _) o)
def Ex.grown{w':V}{r:Option Nat}(h:w.grownBy w' r)(c:∀k,r=C k->k<w.heap.size->¬p k):Ex p w w':=⟨h.size,λb d a=>h.block b a (λe=>c b e.symm a d)⟩
def Ex.set(w:V)(q:bX)(u:Y)(h:¬p q.block):Ex p w (w.setCell q u):=⟨Y7,λb a _=>Below.heap_setCell _ _ _ _ (λe=>h (e▸a))⟩
def Ex.zk4{b:V}(q:bX)(u:Y)(a:¬p q.block)(h:Ex p w b):Ex p w (b.setCell q u):=h.trans (Ex.set _ _ _ a)
def Ex.drew{p:Nat->Prop}{w w':V}(h:Ex p w w'):Ex p w w'.drew:=h.trans ⟨ao _,λ_ _ _=>rfl⟩
section
variable{P:al}{ops:Array bU}{Q:mN->Act->V->Prop}{md:n7}{p:Nat->Prop}{late:Nat->Bool}
structure Wop(P:al)(ops:Array bU)(nm:V->Prop)(W:Nat->(Act->V->Prop)->Act->V->Prop):Prop where
 mono:∀{i:Nat}{K K':Act->V->Prop}{a:Act}{w:V},nm w->(∀a w,nm w->K a w->K' a w)->W i K a w->W i K' a w
 yield:∀{i:Nat}{o:bU}{v:Y}{a:Act}{w:V}{p:Nat->Prop}{K:Act->V->Prop},ops[i]?=C o->qQ P ops (Ex p w) o v a->nm w->K (a.put o.dst v) w->W i K a w
 zu1:∀{j:Nat}{oi oj:bU}{v:Y}{a:Act}{w:V}{p:Nat->Prop}{K:Act->V->Prop},ops[j]?=C oj->oi.apart ops oj=E->(∀cs b,oi.op≠.select cs b)->(∀cs b,oj.op≠.select cs b)->qQ P ops (Ex p w) oi v a->W j K (a.put oi.dst v) w->W j (λa' w'=>qQ P ops (Ex p w) oi v a'/\K (a'.put oi.dst v) w') a w
def zly(b:∀c a d v w,Q (.panic c) (a.put d v) w->Q (.panic c) a w):Wop P ops (λ_=>True) (wpOp P ops Q):=⟨λ_ h k=>wpOp_mono (λa w=>h a w trivial) k,λi y _ h=>y.wpOp i (Ex.refl _ _) h,λj e f s y h=>wpOp_putIf j e f s (λc a w=>b c a _ _ w) y h⟩
variable{W:Nat->(Act->V->Prop)->Act->V->Prop}{nm:V->Prop}
def Jf(W:Nat->(Act->V->Prop)->Act->V->Prop)(md:n7)(ops:Array bU)(Q:mN->Act->V->Prop)(p:Nat->Prop)(late:Nat->Bool):Nat->Array Bool->Act->V->Prop|0,listed,a,w=>bE md ops listed=[]/\Q .normal a w|n+1,listed,a,w=>(bE md ops listed=[]->Q .normal a w)/\∀i∈bE md ops listed,W i (λc b=>(late i=H->Ex p w b)/\Jf W md ops Q p late n (listed.setIfInBounds i E) c b) a w
def V5:∀(fuel:Nat)(l:Array Bool)(a:Act)(w:V),Jf (wpOp P ops Q) md ops Q p late fuel l a w->wpAny P md ops Q fuel l a w|0,_,_,_,h=>h|fuel+1,_,_,_,h=>⟨h.1,λi b=>wpOp_mono (λc d e=>V5 fuel _ c d e.2) (h.2 i b)⟩
def Sz{o:bU}{v:Y}{a:Act}{w c:V}(h:qQ P ops (Ex p w) o v a)(x:Ex p w c):qQ P ops (Ex p c) o v a:=h.imp (λ⟨d,e⟩=>⟨d,λw2 b=>e w2 (x.trans b)⟩) id
def Et(md:n7)(ops:Array bU):Nat->Nat->Nat->Bool|0,_,_=>H|n+1,j,i=>match ops[j]? with|some o=>o.after.any (λe=>mC md e&&e.on==i)||o.after.any (λe=>mC md e&&Et md ops n e.on i)|none=>H
def El(md:n7)(ops:Array bU)(l:Array Bool):Prop:=∀k o,ops[k]?=C o->l.getD k H=E->∀e∈o.after,mC md e=E->l.getD e.on H=E
def Mb{l:Array Bool}(f:El md ops l){i:Nat}:∀(n j:Nat)(o:bU),ops[j]?=C o->(∀e∈o.after,mC md e=E->l.getD e.on H=E)->Et md ops n j i=E->l.getD i H=E
 |0,_,_,_,_,h=>by cases h|n+1,j,o,g,r,h=>by
  simp only[Et,g,dm]at h;rcases h with h|h;.grind
  .have⟨e,a,b⟩:=Array.any_eq_true'.1 h;simp[aj]at b
   cases d:ops[e.on]? with|none=>have c:=b.2;cases n<;>simp[Et,d]at c|some ok=>exact Mb f n e.on ok d (f e.on ok d (r e a b.1)) b.2
variable{i:Nat}
def El.set{g:Array Bool}(m:El md ops g)(n:i∈bE md ops g):El md ops (g.setIfInBounds i E):=by
 intro k p c l e d f;have u:∀x,g.getD x H=E->(g.setIfInBounds i E).getD x H=E:=by
  intro x q;by_cases h:i=x
  .subst h;simp[cE,Array.getElem?_setIfInBounds_self]at q⊢;split;.rfl
   .simp_all
  .simp_all
 by_cases a:i=k
 .subst a;have⟨_,o,j,b⟩:=mem_ready.1 n;rw[c]at j;obtain rfl:=fO j;simp_all
 .have:g.getD k H=E:=by simp_all
  exact u _ (m k p c this e d f)
def L6(n:Nat):El md ops (aK n H):=by intro k o _ l;by_cases h:k<n<;>simp[h]at l
def YD(hW:Wop P ops nm W){u:bU}{v:Y}(hi:ops[i]?=C u)(s:∀(j:Nat)(o:bU)Z b,ops[j]?=C o->o.op≠.select Z b)(n:Nat)(t:∀j,late j=E->Et md ops n j i=E):∀(T:Nat)(S:Array Bool)(a:Act)(w:V),nm w->El md ops S->(∀j X,ops[j]?=C X->j≠i->S.getD j E=H->(∀e∈X.after,mC md e=E->e.on≠i)->u.apart ops X=E)->i∈bE md ops S->qQ P ops (Ex p w) u v a->Jf W md ops Q p late T (S.setIfInBounds i E) (a.put u.dst v) w->Jf W md ops Q p late (T+1) S a w:=by intro T;induction T with
 |zero=>
  intro S a w g _ _ hr Q0 N;refine⟨λh=>Y7,λj hj=>?_⟩;by_cases c:j=i;.subst c;exact hW.yield hi Q0 g ⟨λ_=>Ex.refl p w,N⟩
  .have:=ready_mono hj c;rw[N.1]at this;cases this|succ T J=>
  intro S a w g x f hr Q0 N;refine⟨λh=>Y7,λj hj=>?_⟩;by_cases c:j=i;.subst c;exact hW.yield hi Q0 g ⟨λ_=>Ex.refl p w,N⟩
  .have d:=N.2 j (ready_mono hj c);have⟨q,X,l,r⟩:=mem_ready.1 hj;have y:∀e∈X.after,mC md e=E->e.on≠i:=λe K L heq=>by
    have d:=r e K L;have z:=(mem_ready.1 hr).1;rw[heq]at d;rcases mz i S.size with h'|h';.simp_all
    .simp_all
   have R:late j=H:=by cases M:late j with|false=>rfl|true=>
     have d:=Mb x n j X l r (t j M);have z:=(mem_ready.1 hr).1;rcases mz i S.size with h'|h';.simp_all
     .simp_all
   have m:∀k ok,ops[k]?=C ok->k≠i->(S.setIfInBounds j E).getD k E=H->(∀e∈ok.after,mC md e=E->e.on≠i)->u.apart ops ok=E:=λk ok O F A G=>by
    refine f k ok O F ?_ G;by_cases B:j=k;.simp_all
    .rw[getD_set_ne E B]at A;exact A
   refine hW.mono g (λa' w' I D=>⟨D.2.1,J (S.setIfInBounds j E) a' w' I (x.set hj) m (ready_mono hr (cA c)) (Sz D.1 (D.2.1 R)) ?_⟩) (hW.zu1 l (f j X l c q y) (λZ b=>s i u Z b hi) (λZ b=>s j X Z b l) Q0 d);rw[Array.setIfInBounds_comm _ _ c];exact D.2.2
inductive Tr where|nil|op(i k:Nat)(t:Tr)|iY(i k:Nat)(t:Tr)(j l:Nat)(u:Tr)
def iu:List Nat->Tr->Tr|i::k::l,t=>.op i k (iu l t)|_,t=>t
def Tr.len:Tr->Nat|.nil=>0|.op _ _ t=>t.len+1|.iY _ _ t _ _ _=>t.len+1
def Tr.pv:Tr->List (Nat×Nat)|.nil=>[]|.op i k t=>(i,k)::t.pv|.iY i k t j l u=>(i,k)::(j,l)::(t.pv++u.pv)
def MH(P:al)(W:Nat->(Act->V->Prop)->Act->V->Prop)(ops:Array bU)(p:Nat->Prop)(Q:mN->Act->V->Prop):Tr->Act->V->Prop|.nil,a,w=>Q .normal a w|.op i 0 t,a,w=>∃o v,ops[i]?=C o/\qQ P ops (Ex p w) o v a/\MH P W ops p Q t (a.put o.dst v) w|.op i 1 t,a,w=>W i (λc b=>Ex p w b/\MH P W ops p Q t c b) a w|.op i _ t,a,w=>W i (MH P W ops p Q t) a w|.iY i _ t j _ u,a,w=>W i (λc b=>Ex p w b/\MH P W ops p Q t c b) a w/\W j (λc b=>Ex p w b/\MH P W ops p Q u c b) a w
abbrev We(P:al)(ops:Array bU)(p:Nat->Prop)(Q:mN->Act->V->Prop):Tr->Act->V->Prop:=MH P (wpOp P ops Q) ops p Q
def ml(md:n7)(ops:Array bU):Array Bool->Tr->Bool|listed,.nil=>bE md ops listed==[]|listed,.op i 0 t=>(bE md ops listed).contains i&&Region.free md ops listed i&&ml md ops (listed.setIfInBounds i E) t|listed,.op i _ t=>bE md ops listed==[i]&&ml md ops (listed.setIfInBounds i E) t|listed,.iY i _ t j _ u=>bE md ops listed==[i,j]&&u.len==t.len&&ml md ops (listed.setIfInBounds i E) t&&ml md ops (listed.setIfInBounds j E) u
def I6(md:n7)(ops:Array bU)(Q0:List (Nat×Nat)):Bool:=Q0.all λ(j,k)=>k<=1||Q0.all λ(i,a)=>a !=0||Et md ops 3 j i
def I5(Q0:List (Nat×Nat))(j:Nat):Bool:=Q0.any λ(i,k)=>i==j&&2<=k
def zaS{Q0:List (Nat×Nat)}(h:I6 md ops Q0=E)(c:(i,0)∈Q0)(j:Nat)(l:I5 Q0 j=E):Et md ops 3 j i=E:=by
 simp only[I5,List.any_eq_true,aj,beq_iff_eq,decide_eq_true_eq]at l;obtain⟨⟨d,k⟩,m,rfl,b⟩:=l;simp only[I6,dQ,dm,decide_eq_true_eq]at h;have a:=h _ m;rcases a with a|a;.omega
 .grind
def D8(K:Wop P ops nm W)(C0:List (Nat×Nat))(T:ny ops=E)(z:I6 md ops C0=E):∀(t:Tr)(F:Array Bool)(a:Act)(w:V),nm w->El md ops F->(∀x∈t.pv,x∈C0)->ml md ops F t=E->MH P W ops p Q t a w->Jf W md ops Q p (I5 C0) t.len F a w:=by intro t;induction t with
 |nil=>intro F a w _ _ _ G h;exact⟨by simpa[ml]using G,h⟩|op i k t f=>intro F a w n c s G h;have b:=λx I=>s x (List.mem_cons_of_mem _ I);match k,s,G,h with
  |0,s,G,h=>simp[ml,aj]at G;have⟨⟨N,A⟩,G⟩:=G;have⟨o,v,S,B,h⟩:=h;exact YD K S (Region.noSelect_spec T) 3 (λj g=>zaS z (s _ (kB ..)) j g) t.len F a w n c (Region.free_spec S A) Y0 B (f _ _ _ n (c.set Y0) b G h)|1,s,G,h=>simp[ml,aj,beq_iff_eq]at G;refine⟨λe=>Y7,λj L=>?_⟩;rw[G.1]at L;obtain rfl:=dC.1 L;exact K.mono n (λO R d J=>⟨λ_=>J.1,f _ _ _ d (c.set (by simp[G.1])) b G.2 J.2⟩) h|k+2,s,G,h=>
   simp[ml,aj,beq_iff_eq]at G;refine⟨λe=>Y7,λj L=>?_⟩;rw[G.1]at L;obtain rfl:=dC.1 L;refine K.mono n (λO R d J=>⟨λX=>?_,f _ _ _ d (c.set (by simp[G.1])) b G.2 J⟩) h;exact absurd (show I5 C0 j=E by simp only[I5,List.any_eq_true,aj,beq_iff_eq,decide_eq_true_eq];exact⟨_,s _ (kB ..),rfl,Y1⟩) (by simp[X])
 |iY i k t j l u m q=>
  intro F a w n c s G h;simp[ml,aj,beq_iff_eq]at G;have⟨⟨⟨N,M⟩,Q0⟩,D⟩:=G;have r:∀x∈t.pv,x∈C0:=λx I=>s x (by simp[Tr.pv,I]);have y:∀x∈u.pv,x∈C0:=λx I=>s x (by simp[Tr.pv,I]);refine⟨λe=>Y7,λx I=>?_⟩;rw[N]at I;rcases bq.1 I with rfl|I;.exact K.mono n (λO R d J=>⟨λ_=>J.1,m _ _ _ d (c.set (by simp[N])) r Q0 J.2⟩) h.1
  .obtain rfl:=dC.1 I;refine K.mono n (λO R d J=>⟨λ_=>J.1,?_⟩) h.2;have:=q _ _ _ d (c.set (by simp[N])) y D J.2;rw[M]at this;exact this
def il{a:Act}{w:V}(p:Nat->Prop)(t:Tr)(m:P.follows .mixedOrders=E)(n:t.len=ops.size)(s:ny ops=E)(l:I6 .any ops t.pv=E)(b:ml .any ops (aK ops.size H) t=E)(e:∀c a d v w,Q (.panic c) (a.put d v) w->Q (.panic c) a w)(h:We P ops p Q t a w.drew):(Code.region i ops E).wp P Q a w:=by refine wp_region_any m (V5 (p:=p) (late:=I5 t.pv) _ _ _ _ ?_);have:=D8 (zly e) t.pv s l t (aK ops.size H) a w.drew trivial (L6 _) (λx f=>f) b h;rw[n]at this;exact this
end
def uP(P:al){α:Type}:Sem α->Prop|.halt _=>True|.program k=>uP P (k P)|.mark _ k=>uP P k|.choose _ k=>∀n,uP P (k n)|.new _ k=>∀n,uP P (k n)|_=>False
def WF(P:al){α:Type}:Sem α->Prop|.pure _=>True|.halt _=>True|.program k=>WF P (k P)|.mark _ k=>WF P k|.choose _ k=>∀n,uP P (k n)|.new _ k=>∀n,uP P (k n)|_=>False
section
variable{P:al}{α β:Type}
def uP.Eu:∀{s:Sem α},uP P s->∀{w w1:V}{x:α},s.run P w≠.ok x w1:=by
 intro s
 induction s with|halt h=>intro _ w w1 x e;cases e|program k i=>intro h w w1 x;exact i P h|mark m k i=>intro h w w1 x;exact i h|choose q k i=>
  intro h w w1 x;simp[Sem.run];split;.exact i _ (h _)
  .exact i _ (h _)|new o k i=>intro h w w1 x;exact i _ (h _)|_=>intro h;cases h
def uP.wf:∀{s:Sem α},uP P s->WF P s:=by intro s;induction s with|halt h=>intro _;trivial|program k i=>intro h;exact i P h|mark m k i=>intro h;exact i h|choose q k i=>intro h n;exact h n|new o k i=>intro h n;exact h n|_=>intro h;cases h
def uP.bind{f:α->Sem β}:∀{s:Sem α},uP P s->uP P (s.bind f):=by intro s;induction s with|halt h=>intro _;trivial|program k i=>intro h;exact i P h|mark m k i=>intro h;exact i h|choose q k i=>intro h n;exact i n (h n)|new o k i=>intro h n;exact i n (h n)|_=>intro h;cases h
def WF.bind{f:α->Sem β}:∀{s:Sem α},WF P s->(∀a,WF P (f a))->WF P (s>>=f):=by intro s;induction s with|pure a=>intro _ b;exact b a|halt h=>intro _ _;trivial|program k i=>intro h b;exact i P h b|mark m k i=>intro h b;exact i h b|choose q k i=>intro h b n;exact(h n).bind|new o k i=>intro h b n;exact(h n).bind|_=>intro h;cases h
def WF.run:∀{s:Sem α},WF P s->∀{w w1:V}{x:α},s.run P w=.ok x w1->w1=w/\∀w',s.run P w'=.ok x w':=by intro s;induction s with|pure a=>intro _ w w1 x e;simp[Sem.run,eQ]at e;obtain⟨rfl,rfl⟩:=e;simp_all|halt h=>intro _ w w1 x e;cases e|program k i=>intro h w w1 x e;exact i P h e|mark m k i=>intro h w w1 x e;exact i h e|choose q k i=>intro h w w1 x e;simp[Sem.run]at e;split at e<;>cases(h _).Eu e|new o k i=>intro h w w1 x e;cases(h _).Eu e|_=>intro h;cases h
def E4:WF P program:=trivial
def dN(t:ah):WF P (underlying t):=by refine E4.bind λp=>?_;cases p.underlying t<;>trivial
def Mw(t:ah):WF P (dq t):=by refine E4.bind λp=>?_;cases p.info? t<;>trivial
def pX(t:ah):WF P (ie t):=(Mw t).bind λ_=>trivial
def YB(t:ah):WF P (c9 t):=by refine(Mw t).bind λi=>?_;cases i.zero<;>trivial
def zlu(t:ah):WF P (nR t):=by refine(dN t).bind λd=>?_;cases d<;>trivial
def zfa(t:ah)(c:Array Y)(o:Nat):WF P (part t c o):=by
 refine(zlu t).bind λb=>?_;cases b;.cases c[o]?<;>trivial
 .exact(pX t).bind λ_=>trivial
def E3(v:Y):WF P (je v):=by cases v<;>first|trivial|(rename_i a;cases a<;>trivial)
def zgU(v:Y):WF P (asBool v):=by cases v<;>trivial
def zlq(v:Y):WF P (asAgg v):=by cases v<;>trivial
def WF.dies{f:α->Sem β}:∀{s:Sem α},WF P s->(∀a,uP P (f a))->uP P (s>>=f):=by intro s;induction s with|pure a=>intro _ b;exact b a|halt h=>intro _ _;trivial|program k i=>intro h b;exact i P h b|mark m k i=>intro h b;exact i h b|choose q k i=>intro h b n;exact(h n).bind|new o k i=>intro h b n;exact(h n).bind|_=>intro h;cases h
def V2(t:ah):WF P (elemOf t):=by refine(dN t).bind λd=>?_;cases d<;>trivial
def L8{f:bX->Sem β}(t:ah)(v:Y)(h:∀a,uP P (f a)):uP P (newVar t v>>=f):=λ_=>h _
def gH(e:RuntimeError):uP P (cJ e:Sem α):=by refine E4.dies λp=>?_;cases e with|typeAssertion i c a m=>exact(V2 _).dies λ_=>L8 _ _ λ_=>trivial|panicNil=>exact(V2 _).dies λ_=>L8 _ _ λ_=>trivial|_=>trivial
def qn(k:cZ)(x y:Int)(c:BoundsCode):uP P (boundsPanic k x y c:Sem α):=by
 unfold boundsPanic;split;.exactλn=>show uP P (cJ (.bounds (aD.wrap x) y (n==1) c):Sem α)from gH _
 .exact show uP P (cJ (.bounds (aD.wrap x) y (k !=IntKind.u64) c):Sem α)from gH _
def Bf(v:Y):WF P (cC v):=by cases v<;>first|trivial|(rename_i a;cases a<;>trivial)
def zsh{c:Prop}[Decidable c]{x y:Sem α}(a:WF P x)(h:WF P y):WF P (if c then x else y):=Y8
def zdo(t:ah)(x i:Y):WF P (gm t x i):=by
 unfold gm;try dsimp only
 repeat'(first|trivial|exact dN _|exact Bf _|exact pX _|exact E3 _|exact(qn ..).wf|(refine WF.bind ?_ λ_=>?_)|split)
def zlt(t:ah)(x i:Y):WF P (kl t x i):=by
 try dsimp only
 repeat'(first|trivial|exact dN _|exact pX _|exact E3 _|exact zfa _ _ _|exact(qn ..).wf|(refine WF.bind ?_ λ_=>?_)|split)
def zls(t:ah)(x:Y)(f:Nat):WF P (AP t x f):=by repeat'(first|trivial|exact dN _|exact zlq _|exact zfa _ _ _|(refine WF.bind ?_ λ_=>?_)|split)
def zdn(x:Y)(i:Nat):WF P (kW x i):=by unfold kW;repeat'(first|trivial|split)
def UI(x:Y)(y:Nat)(c:BoundsCode):WF P (e8 x y c):=by
 try dsimp only
 repeat'(first|trivial|exact E3 _|exact(qn ..).wf|(refine WF.bind ?_ λ_=>?_)|split)
def BU(b:Bool)(l c:Nat)(a i m:Option Y):WF P (cO b l c a i m):=by unfold cO;repeat'(first|trivial|exact UI _ _ _|(refine WF.bind ?_ λ_=>?_)|split)
def zgT(v:Y):WF P (asAddr v):=by cases v<;>first|trivial|(rename_i a;cases a<;>trivial)
def zlw(t:ah)(x:Y)(l i m:Option Y):WF P (l7 t x l i m):=by
 try dsimp only
 repeat'(first|trivial|exact dN _|exact pX _|exact BU _ _ _ _ _ _|exact zgT _|(refine WF.bind ?_ λ_=>?_)|split)
def zdq(t:ah)(x:Y)(l i m:Option Y):WF P (eN t x l i m):=by
 try dsimp only
 repeat'(first|trivial|exact dN _|exact Bf _|exact pX _|exact BU _ _ _ _ _ _|exact zlw _ _ _ _ _|(refine WF.bind ?_ λ_=>?_)|split)
def K5(t:ah)(x:Y):WF P (jM t x):=by repeat'(first|trivial|exact dN _|(refine WF.bind ?_ λ_=>?_)|split)
def zbb(o:jN)(k:cZ)(x y:Int):WF P (nZ o k x y):=by unfold nZ;repeat'(first|trivial|split)
def zgW(o:jN)(k:cZ)(x y:Int):WF P (pQ o k x y):=by unfold pQ;repeat'(first|trivial|split)
def zdp(o:jN)(k:cZ)(x y:Int):WF P (tD o k x y):=by unfold tD;repeat'(first|trivial|split)
def zgV(o:jN)(x y:Int):WF P (pP o x y):=by unfold pP;repeat'(first|trivial|split)
def zlv(o:jN)(k:cZ)(x:Int)(a:cZ)(y:Int):WF P (wZ o k x a y):=by unfold wZ;repeat'(first|trivial|split)
def zbc(o:jN)(x y:ByteArray):WF P (rr o x y):=by unfold rr;repeat'(first|trivial|split)
def zlx(o:UnOp)(x:Y):WF P (Ax o x):=by unfold Ax;repeat'(first|trivial|split)
end
def u9(P:al)(s:ah)(f:Nat):Bool:=match P.underlying s with|some (.struct a)=>(match a[f]? with|some fd=>(match P.info? fd.type with|some i=>i.size !=0|none=>H)|none=>H)|_=>H
def LS(P:al)(b:Nat){α:Type}:Sem α->Prop|.pure _=>True|.halt _=>True|.program k=>LS P b (k P)|.mark _ k=>LS P b k|.load _ a k=>a.block=b/\∀v,LS P b (k v)|_=>False
section
variable{P:al}{α β:Type}{b:Nat}
def LS.bind{f:α->Sem β}:∀{s:Sem α},LS P b s->(∀a,LS P b (f a))->LS P b (s>>=f):=by intro s;induction s with|pure a=>intro _ c;exact c a|halt h=>intro _ _;trivial|program k i=>intro h c;exact i P h c|mark m k i=>intro h c;exact i h c|load m a k i=>intro h c;exact⟨h.1,λv=>i v (h.2 v) c⟩|_=>intro h;cases h
def LS.run:∀{s:Sem α},LS P b s->∀{w w1:V}{x:α}{o:Array Y}{t:ah}{p:Nat×Nat},w.heap[b]?=C (.cells o t p)->s.run P w=.ok x w1->w1=w/\∀w',w'.heap[b]?=w.heap[b]?->s.run P w'=.ok x w':=by intro s;induction s with
 |pure a=>intro _ w w1 x _ _ _ _ e;simp[Sem.run,eQ]at e;obtain⟨rfl,rfl⟩:=e;simp_all|halt h=>intro _ w w1 x _ _ _ _ e;cases e|program k i=>intro h w w1 x _ _ _ c e;exact i P h c e|mark m k i=>intro h w w1 x _ _ _ c e;exact i h c e|load m a k i=>intro h w w1 x o t p c e;obtain⟨rfl,d⟩:=h;simp[Sem.run]at e;have j:∀w':V,w'.heap[a.block]?=w.heap[a.block]?->w'.cell? a=w.cell? a:=λw' l=>World.cell?_of_block l;cases n:w.cell? a with|some v=>simp[n]at e;have⟨f,g⟩:=i v (d v) c e;refine⟨f,λw' l=>?_⟩;simp[Sem.run,j w' l,n];simp_all|none=>simp only[n,World.farLoad,c]at e;cases e
 |_=>intro h;cases h
def Uo(t:ah):LS P b (underlying t):=by show LS P b (match P.underlying t with|some d=>(b8 d:Sem ej)|none=>stuck _);cases P.underlying t<;>trivial
def zgf(t:ah):LS P b (ie t):=by show LS P b ((match P.info? t with|some d=>(b8 d:Sem iC)|none=>stuck _)>>=λi=>b8 i.size);cases P.info? t<;>trivial
def zks(t:ah):LS P b (nR t):=by refine(Uo t).bind λd=>?_;cases d<;>trivial
def Addr.Va(a:bX)(n:Nat):(a.add n).block=a.block:=by unfold Addr.add;split<;>rfl
def xJ(a:bX)(h:a.block=b):∀(n i:Nat)(c:Array Y),LS P b (loadCellsFrom a i n c)|0,i,c=>trivial|n+1,i,c=>by exact⟨(Addr.Va a i).trans h,λv=>xJ a h n (i+1) _⟩
def zcK(t:ah)(a:bX)(h:a.block=b):LS P b (dx t a):=by
 refine(zks t).bind λc=>?_;cases c;.exact⟨h,λv=>trivial⟩
 .exact(zgf t).bind λn=>(xJ a h n 0 _).bind λ_=>trivial
def QS(s:ah)(x:Y)(f:Nat)(g:u9 P s f=E):WF P (kX s x f):=by change WF P (Sem.bind (match P.underlying s with|some d=>(b8 d:Sem ej)|none=>stuck "no such type") _);cases h:P.underlying s with|none=>trivial|some d=>
 cases d<;>try trivial
 rename_i c;change WF P (match c[f]? with|some f=>_|_=>_);cases b:c[f]? with|none=>trivial|some fd=>refine(Bf x).bind λa=>?_;refine WF.bind ?_ λ_=>trivial;change WF P (Sem.bind (Sem.bind (match P.info? fd.type with|some d=>(b8 d:Sem iC)|none=>stuck "no such type") _) _);cases j:P.info? fd.type with|none=>trivial|some i=>change WF P (if i.size=0 then _ else _);rw[if_neg (by intro e;simp[u9,h,b,j,e]at g)];trivial
def V3{f:β->α->Sem β}(h:∀b a,WF P (f b a)):∀(l:List α)(b:β),WF P (l.foldlM f b)|[],b=>trivial|a::l,b=>by rw[fY];exact(h b a).bind λc=>V3 h l c
def zob{f:α->Sem β}(h:∀a,WF P (f a))(x:Array α):WF P (x.mapM f):=by rw[e9,<-fC];exact V3 (λb a=>WF.bind (h a) λv=>show WF P (b8 (b.push v):Sem (Array β))from trivial) _ _
def zlr(t:ah)(parts:Array (Nat×Y)):WF P (jj t parts):=by
 refine(YB t).bind λz=>(dN t).bind λd=>?_;cases d<;>try trivial
 .refine(pX _).bind λn=>?_;split<;>trivial
 .refine(zob (λ(f:Field)=>WF.bind (pX f.type) λn=>show WF P (b8 (f.offset,n):Sem (Nat×Nat))from trivial) _).bind λn=>?_;split<;>trivial
def YA(op:jN)(t:ah)(k a:cZ)(x y:Int):WF P (binOp op t (.int k x) (.int a y)):=by cases op<;>simp only[binOp]<;>first|exact zlv _ _ _ _ _|(refine zsh trivial ?_;first|exact zbb _ _ _ _|exact zgW _ _ _ _|exact zdp _ _ _ _|exact zgV _ _ _)
def N9(op:jN)(t:ah)(x y:ByteArray):WF P (binOp op t (.string x) (.string y)):=by cases op<;>simp[binOp]<;>exact zbc _ _ _
def UH(t:ah)(x y:Bool):WF P (oO t (.bool x) (.bool y)):=by show WF P (cY (9999+1) t (.bool x) (.bool y));rw[cY];refine(dN t).bind λd=>?_;cases d<;>trivial
def UG(op:jN)(t:ah)(x y:Bool):WF P (binOp op t (.bool x) (.bool y)):=by cases op<;>simp[binOp]<;>first|trivial|exact(UH t x y).bind λ_=>trivial
def Pe(ρ:aU->Y):Op->Bool
 |.move _|.assign _|.fieldAddr ..|.field ..|.indexAddr ..|.index ..|.slice ..|.unOp ..|.extract ..|.makeInterface ..|.pick ..|.build ..=>E|.nilCheck x=>match ρ x with|.pointer (C _)=>E|_=>H
 |.binOp _ _ x y _=>match ρ x,ρ y with|.int ..,.int ..|.string _,.string _|.bool _,.bool _=>E|_,_=>H
 |.convert _ _ x=>match ρ x with|.int ..=>E|_=>H
 |.call c=>match c.callee with|.builtin .len=>(match c.args[0]? with|some x=>(match ρ x with|.slice ..|.string _=>E|_=>H)|none=>H)|_=>H
 |_=>H
def ji{s:Sem Y}(h:WF P s):WF P (do pure (dU (<-s)):Sem s3):=h.bind λ_=>trivial
def zsi(e:Array ah)(f:ah)(args:Array Y)(h:(match args[0]? with|some (.slice ..)|some (.string _)=>E|_=>H)=E):WF P (ij e f args):=by unfold ij;cases c:e[0]? with|none=>trivial|some t=>cases a:args[0]? with|none=>trivial|some x=>
 simp[a]at h;refine(dN t).bind λd=>?_;cases x<;>first|(simp at h;done)|skip
 all_goals cases d<;>first|trivial|exact(dN _).bind λb=>(by cases b<;>trivial)
def BT(s a:ah)(k:cZ)(n:Int)(h:∃b,P.underlying a=C (.int b)):WF P (convert s a (.int k n)):=by have⟨b,h⟩:=h;refine(dN s).bind λd=>?_;change WF P (Sem.bind (match P.underlying a with|some d=>(b8 d:Sem ej)|none=>stuck "no such type") _);rw[h];cases d<;>trivial
def znZ{ρ:aU->Y}{o:bU}(h:Pe ρ o.op=E)(w:∀s x f,o.op=.fieldAddr s x f->u9 P s f=E)(z:∀s d x,o.op=.convert s d x->∃A,P.underlying d=C (.int A)):WF P (aG ρ o):=by
 have⟨B,op,v,D,r,u⟩:=o;cases op<;>simp[Pe]at h<;>first|(cases h;done)|skip
 case move x=>trivial
 case assign x=>trivial
 case pick c a b=>exact(zgU _).bind λ_=>trivial
 case nilCheck x=>
  simp[aG];cases n:ρ x<;>simp[n]at h<;>first|(cases h;done)|skip
  rename_i a;cases a;.cases h
  .trivial
 case binOp op t x y k=>
  simp only[aG];apply ji;refine WF.bind ?_ λ_=>?_
  .unfold iS;cases n:ρ x<;>simp[n]at h<;>first|(cases h;done)|skip
   all_goals cases e:ρ y<;>simp[e]at h<;>first|(cases h;done)|skip
   all_goals(split<;>trivial)
  .cases n:ρ x<;>simp[n]at h<;>first|(cases h;done)|skip
   all_goals cases e:ρ y<;>simp[e]at h<;>first|(cases h;done)|skip
   .exact UG _ _ _ _
   .exact YA _ _ _ _ _ _
   .exact N9 _ _ _ _
 case unOp op t x=>exact ji (zlx _ _)
 case convert s d x=>
  simp[aG];apply ji;cases n:ρ x<;>simp[n]at h<;>first|(cases h;done)|skip
  exact BT _ _ _ _ (z s d x rfl)
 case makeInterface t x=>exact ji (K5 _ _)
 case build t p=>exact ji (zlr _ _)
 case slice t x l G m=>exact ji (zdq _ _ _ _ _)
 case fieldAddr s x f=>exact ji (QS _ _ _ (w s x f rfl))
 case field t x f=>exact ji (zls _ _ _)
 case indexAddr t x i=>exact ji (zdo _ _ _)
 case index t x i=>exact ji (zlt _ _ _)
 case extract t i=>exact ji (zdn _ _)
 case call c=>
  have⟨q,args,F⟩:=c;cases q<;>first|(simp at h;done)|skip
  rename_i j;cases j<;>first|(simp at h;done)|skip
  simp[aG,resolve];refine ji (zsi _ _ _ ?_);cases g:args[0]? with|none=>simp[g]at h|some x=>simp[Array.getElem?_map,g,cG];simp[g]at h;cases n:ρ x<;>simp[n]at h⊢
def Pf{s:Sem Y}{w w1:V}{n:s3}(h:(do pure (dU (←s)):Sem s3).run P w=.ok n w1):∃v,n=.value v:=by
 simp   at h;cases r:s.run P w<;>simp only[r,aL,Result.andThen_halt,eQ]at h;.grind
 .cases h
def zc1{ρ:aU->Y}{o:bU}(h:Pe ρ o.op=E){w w1:V}{n:s3}(r:(aG ρ o).run P w=.ok n w1):∃v,n=.value v:=by
 have⟨k,op,t,p,g,i⟩:=o;cases op<;>simp[Pe]at h<;>first|(cases h;done)|skip
 case move x=>simp[aG,Sem.run_pure,eQ]at r;grind
 case assign x=>simp[aG,Sem.run_pure,eQ]at r;grind
 case pick c a b=>
  simp[aG]at r;cases d:(asBool (ρ c)).run P w<;>simp only[d,aL,Result.andThen_halt,eQ]at r;.grind
  .cases r
 case nilCheck x=>
  simp[aG]at r;cases j:ρ x<;>simp[j]at h<;>first|(cases h;done)|skip
  rename_i a;cases a;.cases h
  .simp[j,Sem.run_pure,eQ]at r;grind
 case call c=>
  have⟨f,args,l⟩:=c;cases f<;>first|(simp at h;done)|skip
  rename_i e;cases e<;>first|(simp at h;done)|skip
  exact Pf r
 all_goals exact Pf r
def noQ:mN->Act->V->Prop:=λ_ _ _=>False
variable{ops:Array bU}{Q:mN->Act->V->Prop}{p:Nat->Prop}{Q0:Tr}{a:Act}{w:V}{o:bU}{i:Nat}
def yj(g:ops[i]?=C o)(j:ar o (yielded ops a.tmps)=E)(r:∀n w1,(aG a.eval o).run P w=.ok n w1->w1=w/\(∃v,n=.value v)/\∀d,Ex p w d->(aG a.eval o).run P d=.ok n d)(h:∀K:Act->V->Prop,(∀e,We P ops p Q Q0 e w->K e w)->o.wp P a w K noQ):We P ops p Q (.op i 0 Q0) a w:=by have b:=h (λe d=>d=w/\We P ops p Q Q0 e d) (λe h=>⟨rfl,h⟩);unfold Oper.wp at b;cases f:(aG a.eval o).run P w with|ok n w1=>obtain⟨rfl,⟨v,rfl⟩,c⟩:=r n w1 f;rw[f]at b;exact⟨o,v,g,.inl ⟨j,c⟩,b.2⟩|halt x w1=>rw[f]at b;cases x<;>cases b
def oU(j:ops[i]?=C o)(k:ar o (yielded ops a.tmps)=E)(c:Pe a.eval o.op=E)(m:(match o.op with|.convert ..=>H|.fieldAddr ..=>H|_=>E)=E)(h:∀K:Act->V->Prop,(∀g,We P ops p Q Q0 g w->K g w)->o.wp P a w K noQ):We P ops p Q (.op i 0 Q0) a w:=yj j k (λn w1 r=>have b:=znZ c (λs x f e=>Y7) (λs d x e=>Y7)
 ⟨(b.run r).1,zc1 c r,λl _=>(b.run r).2 l⟩) h
def mq{s:ah}{x:aU}{f:Nat}(g:ops[i]?=C o)(j:ar o (yielded ops a.tmps)=E)(c:o.op=.fieldAddr s x f)(k:u9 P s f=E)(h:∀K:Act→V→Prop,(∀d,We P ops p Q Q0 d w→K d w)→o.wp P a w K noQ):We P ops p Q (.op i 0 Q0) a w:=by
 have e:aG a.eval o=(do pure (dU (←kX s (a.eval x) f)):Sem s3):=by unfold aG;rw[c]
 have b:WF P (aG a.eval o):=by rw[e];exact ji (QS s _ f k)
 exact yj g j (fun n w1 r=>⟨(b.run r).1,by rw[e]at r;exact Pf r,fun l _=>(b.run r).2 l⟩) h
def ni{t:ah}{x:aU}{b j:Nat}(z:ops[i]?=C o)(A:ar o (yielded ops a.tmps)=E)(m:o.op=.load t x)(q:a.eval x=.pointer (C ⟨b,j,U⟩))(B:p b)(d:(w.cell? ⟨b,j,U⟩).isSome=E)(h:∀K:Act→V→Prop,(∀s,We P ops p Q Q0 s w→K s w)→o.wp P a w K noQ):We P ops p Q (.op i 0 Q0) a w:=by
 refine yj z A (fun n w1 r=>?_) h;have c:∃u t y,w.heap[b]?=C (.cells u t y):=by
  unfold World.cell? at d;split at d;.simp_all
  .cases d
 have⟨u,g,y,c⟩:=c;have k:aG a.eval o=(do pure (dU (←dx t ⟨b,j,U⟩)):Sem s3):=by unfold aG;rw[m];simp only[q,dz,cC];rfl
 have l:LS P b (aG a.eval o):=by rw[k];exact LS.bind (zcK t ⟨b,j,U⟩ rfl) (fun v=>show LS P b (b8 (dU v):Sem s3)from trivial)
 have⟨e,f⟩:=l.run c r;exact⟨e,by rw[k]at r;exact Pf r,fun D q=>f D (q.2 b B ((ab.1 c).1))⟩
def XE(d:ops[i]?=C o)(e:ar o (yielded ops a.tmps)=E)(h:∀K:Act->V->Prop,(∀c b,(Ex p w b/\We P ops p Q Q0 c b)->K c b)->o.wp P a w K Q):We P ops p Q (.op i 1 Q0) a w:=by show wpOp P ops Q i _ a w;unfold wpOp;simp[d,e];exact .inl (h _ λ_ _ h=>h)
def qZ(d:ops[i]?=C o)(e:ar o (yielded ops a.tmps)=E)(h:∀K:Act->V->Prop,(∀b c,We P ops p Q Q0 b c->K b c)->o.wp P a w K Q):We P ops p Q (.op i 2 Q0) a w:=by show wpOp P ops Q i _ a w;unfold wpOp;simp[d,e];exact .inl (h _ λ_ _ h=>h)
def qC(h:Q .normal a w):We P ops p Q .nil a w:=h
end
def hid{q:Prop}(h:q):Hid q:=h
def tc:Y->Bool|.bool _|.int _ _|.string _=>E|_=>H
def iA(w:V)(g:Nat):Prop:=∃c e f,w.heap[g]?=C (.cells c e f)
variable{a:V}{g:Nat}
def iA.same{w:V}(h:iA w g)(e:a.heap[g]?=w.heap[g]?):iA a g:=by have⟨c,t,f,h⟩:=h;exact⟨c,t,f,e.trans h⟩
def iA.lt{w:V}(h:iA w g):g<w.heap.size:=by have⟨c,t,f,h⟩:=h;grind
variable{P:al}{v:Y}
def zgS{w i:V}{ad k:bX}{u:ah}{b:Bool}{l:List bX}(h:w.viewStore P ad u k v b=.ok (i,l))(a:iA w g):iA i g:=by
 have j:∃c e f,i={w with heap:=w.heap.setIfInBounds ad.block (.cells c e f)}:=by
  unfold World.viewStore at h;simp[bind,Except.bind,pure,Except.pure]at h;repeat' split at h
  all_goals first|(cases h;done)|(simp[Except.ok.injEq,aX]at h;exact⟨_,_,_,h.1.symm⟩)
 obtain⟨c,e,f,rfl⟩:=j;by_cases d:ad.block=g
 .subst d;exact⟨c,e,f,by simp[a.lt]⟩
 .exact a.same (bZ d)
def zfM{w:V}{a:bX}(b:iA w g):iA (w.setCell a v) g:=by
 have⟨c,e,f,h⟩:=b;unfold World.setCell iA;simp only[bh];split;.simp_all
 .simp_all
variable{n:Nat}
def zaQ{w:V}{a:bX}(b:iA w g):iA (w.freeze a n) g:=by
 have⟨c,e,f,h⟩:=b;unfold World.freeze;split;.omega
 .unfold iA;simp only[bh];split;.simp_all
  .simp_all
def zjt{α:Type}(k:Ask α):∀w:V,(w.ask k).2.heap=w.heap:=by induction k with|done a=>intro w;rfl|ask b range k i=>
 intro w;unfold World.ask;simp only;split;.exact i _ _
 .rw[i]
def zlh{w:V}{c:Sys}(f:iA w g):iA (w.sys c).2 g:=by
 have:(w.sys c).2.heap=w.heap:=by
  have e:=zjt (Kernel.perform c w.os) w;unfold World.sys;split;.rfl
  .simp_all
 have⟨a,b,d,h⟩:=f;exact⟨a,b,d,Y7⟩
def zar{α:Type}(s:Sem α):∀{w u:V}{x:α}{g:Nat},s.run P w=.ok x u->iA w g->iA u g:=by induction s with
 |pure a=>intro w u x g h b;cases h;exact b|load m a k i=>
  intro w u x g h b;simp[Sem.run]at h;split at h;.grind
  .grind|store m a v k i=>intro w u x g h b;cases v<;>simp[Sem.run]at h;all_goals first |(cases h;done)|(
    split at h
    .split at h;.cases h
     .exact i h (zfM b)
    .split at h
     .rename_i w1 l j;apply i h;unfold World.farStore at j;split at j
      .split at j
       .rename_i r y;cases j;exact zgS y b
       .cases j
      .cases j
     .cases h) |new o k i=>intro w u x g h b;apply i _ h;have⟨c,e,f,d⟩:=b;refine⟨c,e,f,?_⟩;rw[bx,if_neg Y8];exact d|shape r k i=>intro w u x g h b;exact i _ h b|freeze a n k i=>intro w u x g h b;exact i h (zaQ b)|frozen a k i=>intro w u x g h b;exact i _ h b|getObj r k i=>
  intro w u x g h b;simp[Sem.run]at h;split at h;.cases h
  .grind
  .cases h|setObj r o k i=>
  intro w u x g h b;simp[Sem.run]at h;split at h;.cases h
  .rename_i t p z;apply i h;have⟨c,e,f,d⟩:=b;refine⟨c,e,f,?_⟩;rw[bZ];.exact d
   .grind
  .cases h|choose q k i=>
  intro w u x g h b;simp[Sem.run]at h;split at h;.grind
  .exact i _ h b|sys c k i=>intro w u x g h b;exact i _ h (zlh b)|program k i=>intro w u x g h b;exact i _ h b|mark m k i=>intro w u x g h b;exact i h b|halt d=>intro w u x g h b;cases h
def Sl(w:V)(s:Nat)(v:Y)(n:Nat)(x:List Y):Prop:=x.length=n*s/\((n=0/\∃a c,v=.slice a 0 c/\(a=U->c=0)/\∀ad,a=C ad->iA w ad.block)\/∃(g o c:Nat)(b:Array Y)(T:ah×(Nat×Nat)),v=.slice (C ⟨g,o,U⟩) n c/\n<=c/\w.heap[g]?=C (.cells b T.1 T.2)/\(o+n*s<=b.size/\(b.toList.take (o+n*s)).all tc=E)/\(b.toList.drop o).take (n*s)=x)
variable{s:Nat}{xs:List Y}
def Sl.below{w p:V}(h:Sl w s v n xs)(e:cj w.heap.size w p):Sl p s v n xs:=by refine⟨h.1,h.2.imp (λ⟨i,a,l,c,d,b⟩=>⟨i,a,l,c,d,λad f=>(b ad f).same (e.block _ (b ad f).lt)⟩) λ⟨g,o,l,m,T,c,d,b,j,k⟩=>⟨g,o,l,m,T,c,d,?_,j,k⟩⟩;rw[e.block g (ab.1 b).1];exact b
def Sl.form{w:V}{sz:Nat}{x:List Y}(h:Sl w sz v n x):∃a i,v=.slice a n i/\∀k,k<n->∃g o,a=C ⟨g,o,U⟩/\∀j,j<sz->w.cell? ⟨g,o+(k*sz+j),U⟩=C (x.getD (k*sz+j) undef):=by
 rcases h.2 with⟨rfl,a,i,rfl,_⟩|⟨g,o,i,m,T,rfl,f,d,b,e⟩;.simp_all
 .refine⟨_,i,rfl,λk c=>⟨g,o,rfl,λj q=>?_⟩⟩;have l:k*sz+j<n*sz:=by have:(k+1)*sz<=n*sz:=bk _ c;rw[fK]at this;omega
  have p:x[k*sz+j]?=m.toList[o+(k*sz+j)]?:=by grind
  unfold World.cell?;simp only[d];rw[bA,p];have:o+(k*sz+j)<m.size:=Y0;simp[this]
def Sl.cells{w:V}{l p:Nat}{x:List Y}(h:Sl w s (.slice (C ⟨g,l,U⟩) n p) n x)(f:0<n):∀j u,x[j]?=C u->w.cell? ((⟨g,l,U⟩:bX).add j)=C u:=by
 rcases h.2 with⟨rfl,_⟩|⟨r,o,c,q,T,e,i,b,k,d⟩;.omega
 .simp[bN,ay,Addr.mk.injEq,and_true,true_and]at e;obtain⟨⟨rfl,rfl⟩,rfl⟩:=e;intro j u m;rw[<-d,kA]at m;split at m
  .rw[iO]at m;have a:(⟨g,l,U⟩:bX).add j=⟨g,l+j,U⟩:=by unfold Addr.add;split<;>simp_all
   rw[a];unfold World.cell?;simp[b];simpa using m
  .cases m
variable{b:Nat}{e:ah}
def nI{w:V}(h:w.ownsRow b e s v n xs)(x:xs.all tc=E):Sl w s v n xs:=by
 refine⟨h.1,?_⟩;rcases h.2 with⟨rfl,rfl⟩|⟨g,d,f,rfl,c,a,i,m,j,t⟩;.grind
 .have:=bk s i;exact .inr ⟨g,0,d,f,(e,(0,0)),rfl,i,a,⟨Y0,Y7⟩,Y7⟩
def Qv{w d:V}{c:Nat}(h:w.ownsRow c e s v n xs)(b:cj w.heap.size w d):d.ownsRow c e s v n xs:=h.kept (row:=U) ⟨b.os,b.tape,b.output,b.size,λk a _=>b.block k a⟩ Y8
def CE{w:V}{i:Nat}(h:w.ownsRow i e s v n xs)(a:b<=i):w.ownsRow b e s v n xs:=⟨h.1,h.2.imp id λ⟨g,j,k,c,d,f⟩=>⟨g,j,k,c,bw a d,f⟩⟩
def zdI(P:al)(w:V)(s:Sem Y)(b:Nat)(e:ah)(a:Nat)(v:Y)(n:Nat)(x:List Y):Prop:=∃c d,s.run P w=.ok c d/\d.ownsRow b e a c n x/\w.grownBy d v.ownBlock/\(c.ownBlock=v.ownBlock\/c.ownBlock=C w.heap.size)/\∀g,iA w g->iA d g
def D4{w:V}(t O:ah)(L:Nat)(e:ah)(z:Y)(K bytes:Nat)(W:P.underlying t=C (.slice e))(Q:(P.info? e).map (λi=>(i.zero,i.size,i.bytes))=C (C z,K,bytes))(p:z.cells.size=K)(q:0<K)(v:Y)(n:Nat)(N:List Y)(o:w.ownsRow L e K v n N)(X:Y)(m:Nat)(M:List Y)(s:Sl w K X m M)(I:∀u∈M,u.oneCell'=E)(r:n+m<=tg)(b:(n+m)*bytes<=140737488355328)(d:L<=w.heap.size):zdI P w (gM #[t,t] O #[v,X]) L e K v (n+m) (N++M):=by
 have⟨i,Q,F,x,y⟩:=EJ Q;have a:∀(ad:bX)(c:Nat)(h:∀j u,M[j]?=C u->w.cell? (ad.add j)=C u),zdI P w (gM #[t,t] O #[v,.slice (C ad) m c]) L e K v (n+m) (N++M):=by intro ad c h;have⟨v',w',Z,B,Q0,_,D⟩:=run_append_own_at w L t O e i z K bytes W Q F x y p q v n N o ad m c M s.1 h I r b d;exact⟨v',w',Z,B,Q0,D,λg A=>zar _ Z A⟩
 have k:=s;rcases s.2 with⟨rfl,a0,l,rfl,f,_⟩|⟨g,R,S,cur,T,rfl,B,Q0,J,D⟩
 .have h:=List.eq_nil_of_length_eq_zero (by simpa using s.1);subst h;cases a0 with|none=>rw[f rfl];exact⟨v,w,run_append_owned_none (w:=w) L t O e i K W Q v n N o,Y7,⟨rfl,rfl,rfl,ao _,λ_ _ _=>rfl⟩,.inl rfl,λg A=>A⟩|some ad=>simp_all
 .by_cases G:0<m;.exact a ⟨g,R,U⟩ S (k.cells G)
  .simp_all
def Ss{w:V}(t u I:ah)(s:Nat)(e:ah)(J:P.underlying t=C (.slice e))(K:P.underlying u=C .string)(G:(P.info? e).map (λi=>(i.zero,i.size,i.bytes))=C (C (.int .u8 0),1,1))(v:Y)(n:Nat)(L:List Y)(o:w.ownsRow s e 1 v n L)(l:List UInt8)(d:n+l.length<=tg)(h:n+l.length<=140737488355328)(a:s<=w.heap.size):zdI P w (gM #[t,u] I #[v,.string ⟨l.toArray⟩]) s e 1 v (n+l.length) (L++l.map λb=>cL .u8 b.toNat):=by
 have⟨i,G,f,z,c⟩:=EJ G;have⟨N,O,D,m,p,q⟩:=Lib.run_append_own_string w s t u I e i J K G f z c v n L o ⟨l.toArray⟩ d h a;refine⟨N,O,D,m,p,?_,λg j=>zar _ D j⟩;have r:(⟨l.toArray⟩:ByteArray).size=l.length:=rfl;rcases o.2 with⟨rfl,rfl⟩|⟨g,F,M,rfl,x,j,y,A,B,k⟩
 .by_cases Q0:l.length=0;.simp_all
  .rw[run_append_nil_string w t u I e i (.int .u8 0) J K G f ⟨l.toArray⟩ Y0 Y0 Y8]at D;cases D;exact .inr rfl
 .by_cases Zk:n+l.length<=F
  .rw[Lib.run_append_room_string w t u I e i J K G z g n F M j ⟨l.toArray⟩ Zk Y0]at D;cases D;exact .inl rfl
  .rw[Lib.run_append_grow_string w t u I e i (.int .u8 0) J K G f ⟨g,0,U⟩ n F L Y8 (o.cells rfl) ⟨l.toArray⟩ Y0 Y0 (by rw[c];exact growslice_fits Y0 Y0)]at D;cases D;exact .inr rfl
variable{o:bU}{Q:mN->Act->V->Prop}
def HE{w:V}{a:Act}{K:Act->V->Prop}(s x:aU)(t:ah)(M:o.op=.call {callee:=.builtin .append,args:=#[s,x],argTypes:=#[t,t]})(D:Nat)(e:ah)(z:Y)(B bytes:Nat)(N:P.underlying t=C (.slice e))(O:(P.info? e).map (λi=>(i.zero,i.size,i.bytes))=C (C z,B,bytes))(f:z.cells.size=B)(j:0<B)(v:Y)(n:Nat)(J:List Y)(R:a.eval s=v)(d:w.ownsRow D e B v n J)(L:Y)(m:Nat)(F:List Y)(S:a.eval x=L)(k:Sl w B L m F)(p:∀u∈F,u.oneCell'=E)(l:n+m<=tg)(b:(n+m)*bytes<=140737488355328)(c:D<=w.heap.size)(h:∀G I,I.ownsRow D e B G (n+m) (J++F)->w.grownBy I v.ownBlock->(G.ownBlock=v.ownBlock\/G.ownBlock=C w.heap.size)->(∀g,iA w g->iA I g)->K (a.put o.dst G) I):o.wp P a w K Q:=by have⟨G,I,T,q,r,y,A⟩:=D4 t o.type D e z B bytes N O f j v n J d L m F k p l b c;unfold Oper.wp aG;simp[M,resolve,invoke,builtin,aL,List.map_toArray,cQ,sH,R,S,T];exact h G I q r y A
def Sl.drop{w:V}{sz g q r n k:Nat}{x:List Y}(h:Sl w sz (.slice (C ⟨g,q,U⟩) n r) n x)(m:k<=n)(u:0<n)(s:Option bX)(v:k<r->s=C ⟨g,q+k*sz,U⟩)(b:s≠U)(f:∀ad,s=C ad->ad.block=g):Sl w sz (.slice s (n-k) (r-k)) (n-k) (x.drop (k*sz)):=by
 refine⟨by rw[iy,h.1,rj],?_⟩;rcases h.2 with⟨rfl,_⟩|⟨y,o,c,t,T,a,p,d,i,j⟩;.omega
 .simp[bN,ay,Addr.mk.injEq,and_true,true_and]at a;obtain⟨⟨rfl,rfl⟩,rfl⟩:=a;by_cases l:k<n
  .refine .inr ⟨g,q+k*sz,r-k,t,T,Y8,Y0,d,?_,?_⟩
   .have:(n-k)*sz+k*sz=n*sz:=by rw[<-fK];congr 1;omega
    rw[show q+k*sz+(n-k)*sz=q+n*sz by omega];exact i
   .rw[<-j,tN,jX,<-rj,yl]
  .refine .inl ⟨Y0,s,r-k,Y7,λe=>absurd e b,λad a=>?_⟩;rw[f ad a];exact⟨t,T.1,T.2,d⟩
def ov(w:V)(v:Y)(l:List Int):Prop:=Sl w 1 v l.length (l.map (cL .i64))
def ov.below{w a:V}{v:Y}{l:List Int}(h:ov w v l)(b:cj w.heap.size w a):ov a v l:=Sl.below h b
def iv(w:V)(b:Nat)(v:Y)(l:List Int):Prop:=w.ownsRow b 3 1 v l.length (l.map (cL .i64))
def zga(l:List Int):(l.map (cL .i64)).all tc=E:=by simp[G5,pk,tc]
variable{l:List Int}
def iv.bn{w:V}(h:iv w b v l):ov w v l:=nI h (zga l)
def iv.below{w c:V}{a:Nat}(h:iv w a v l)(b:cj w.heap.size w c):iv c a v l:=Qv h b
def iv.base{w:V}{base b:Nat}{v:Y}{l:List Int}(h:iv w base v l)(a:b<=base):iv w b v l:=CE h a
def iv.grown{w:V}{r:Option Nat}(h:iv w b v l)(g:w.grownBy a r)(n:v.ownBlock=U\/v.ownBlock≠r):iv a b v l:=h.kept g n
def ov.zyJ(w:V)(x:Int):ov (w.alloc (.cells #[.int .i64 x] 3)) (.slice (C ⟨w.heap.size,0,U⟩) 1 1) [x]:=⟨rfl,.inr ⟨w.heap.size,0,1,#[.int .i64 x],(3,(0,0)),rfl,ao _,jZ w _,⟨Y1,by simp[tc]⟩,rfl⟩⟩
def iv.nil(w:V)(b:Nat):iv w b (.slice U 0 0) []:=World.ownsRow_nil _ _ _ _
def ov.drew{w:V}{v:Y}{l:List Int}(h:ov w v l):ov w.drew v l:=h
def iv.drew{w:V}{base:Nat}{v:Y}{l:List Int}(h:iv w base v l):iv w.drew base v l:=h
def iv.alloc{w:V}{b:Nat}{v:Y}{l:List Int}(h:iv w b v l)(o:Obj):iv (w.alloc o) b v l:=World.ownsRow.alloc h o
def iv.lt{w:V}{b:Nat}{v:Y}{l:List Int}(h:iv w b v l):∀k,v.ownBlock=C k->b<=k/\k<w.heap.size:=World.ownsRow.lt h
def iv.set{w:V}{base:Nat}(h:iv w base v l){p:bX}(a:p.block<base)(u:Y):iv (w.setCell p u) base v l:=ownsRow_setCell_below h a u
def iv.form{w:V}{b:Nat}{v:Y}{l:List Int}(h:iv w b v l):∃a c,v=.slice a l.length c:=by obtain⟨a,c,rfl,_⟩:=Sl.form h.bn;simp_all
def zkc(l:List Int):∀u∈l.map (cL .i64),u.oneCell'=E:=by intro u h;obtain⟨x,_,rfl⟩:=oV.1 h;rfl
def zeA:(aa.prog.info? 3).map (λi=>(i.zero,i.size,i.bytes))=C (C (.int .i64 0),1,8):=gK
def Sy{w:V}{a:Act}{K:Act->V->Prop}(s x:aU)(t:o.op=.call {callee:=.builtin .append,args:=#[s,x],argTypes:=#[37,37]})(n:Nat)(v:Y)(l:List Int)(u:a.eval s=v)(d:iv w n v l)(r:Y)(m:List Int)(y:a.eval x=r)(e:ov w r m)(k:l.length+m.length<=1099511627776)(b:n<=w.heap.size)(h:∀p c q,iv q n (.slice p (l++m).length c) (l++m)->w.grownBy q v.ownBlock->((dR p (l++m).length c).ownBlock=v.ownBlock\/(dR p (l++m).length c).ownBlock=C w.heap.size)->K (a.put o.dst (.slice p (l++m).length c)) q):o.wp aa.prog a w K Q:=HE s x _ t n 3 (.int .i64 0) 1 8 aa.underlying37 zeA rfl Y0 v _ _ u d r _ _ y e (zkc m) (by simp[tg];omega) Y0 b λz q g i j=>have f:iv q n z (l++m):=by unfold iv;rw[List.length_append,List.map_append];exact g
 by obtain⟨p,c,rfl⟩:=f.form;simp_all
def K7{w:V}{ops:Array bU}{r:List bU}{a:Act}(g:o.guard=U)(c:aU)(p:o.op=Op.makeSlice 37 (.const (.int .i64 0)) c)(n:Nat)(q:a.eval c=.int .i64 n)(t:n<=1099511627776)(l:Nat)(e:l<=w.heap.size)(hK:∀m,iv m l (.slice (C ⟨w.heap.size,0,U⟩) 0 n) []->cj w.heap.size w m->wpList aa.prog ops Q r (a.put o.dst (.slice (C ⟨w.heap.size,0,U⟩) 0 n)) m):wpList aa.prog ops Q (o::r) a w:=by have⟨s,i,z,b,d⟩:=EJ zeA;exact wpList_make_own w g (.const (.int .i64 0)) c 37 p l 3 s (.int .i64 0) 1 aa.underlying37 i z b .i64 .i64 n n rfl q rfl Y8 (by unfold tg;omega) e λm f h=>hK m f ⟨h.os,h.tape,h.output,h.size,λk j=>h.block k j Y1⟩
def ov.form{w:V}{v:Y}{l:List Int}(h:ov w v l):∃a d,v=.slice a l.length d/\∀k,k<l.length->∃g o,a=C ⟨g,o,U⟩/\w.cell? ⟨g,o+k,U⟩=C (.int .i64 (l.getD k 0)):=by obtain⟨a,d,rfl,e⟩:=Sl.form h;refine⟨a,d,rfl,λk b=>?_⟩;obtain⟨g,o,rfl,c⟩:=e k b;refine⟨g,o,rfl,?_⟩;have:=c 0 Y0;simp[Nat.mul_one,dA]at this;rw[this];simp[nT,b]
def n9(w:V)(o:Obj):cj w.heap.size w (w.alloc o):=(fq _ _).alloc (ao _) o
def jl(w:V)(o a:Obj):cj w.heap.size w ((w.alloc o).alloc a):=((fq _ _).alloc (ao _) o).alloc Y1 a
def blk{w:V}{cs:Array Y}{T:ah}(h:w.heap[b]?=C (.cells cs T (0,0))):(∀o,w.cell? ⟨b,o,U⟩=cs[o]?)/\(∀o,w.frozen? ⟨b,o,U⟩=H):=⟨λo=>by unfold World.cell?;simp[h],λo=>by unfold World.frozen?;simp[h]⟩
def size_alloc(w:V)(o:Obj):(w.alloc o).heap.size=w.heap.size+1:=Y1
def size_set(w:V)(p:bX)(v:Y):(w.setCell p v).heap.size=w.heap.size:=Y7
variable{k:Nat}
def ng{w:V}{o:Obj}(h:k=w.heap.size):(w.alloc o).heap[k]?=C o:=by subst h;exact jZ w o
variable{x:Obj}
def jh{w:V}{o:Obj}(h:w.heap[k]?=C x):(w.alloc o).heap[k]?=C x:=by rw[show(w.alloc o).heap=w.heap.push o from rfl,bx,if_neg Y8];exact h
def Cv{w:V}(h:w.heap[k]?=C x):w.drew.heap[k]?=C x:=h
def nt{w:V}{p:bX}(n:p.block≠k)(h:w.heap[k]?=C x):(w.setCell p v).heap[k]?=C x:=by simp[World.setCell,bh];rw[if_neg n];exact h
def kK{w:V}{o:Nat}{c:Array Y}{T:ah}{f:Nat×Nat}(h:w.heap[b]?=C (.cells c T f)):(w.setCell ⟨b,o,U⟩ v).heap[b]?=C (.cells (c.setIfInBounds o v) T f):=by simp only[World.setCell,bh,if_true,h,cG];rfl
def yf{w:V}{r:Option Nat}(g:w.grownBy a r)(n:C k≠r)(h:w.heap[k]?=C x):a.heap[k]?=C x:=(g.block k (ab.1 h).1 n).trans h
def Qm(w:V)(row:Option Nat):w.grownBy w row:=⟨rfl,rfl,rfl,ao _,λ_ _ _=>rfl⟩
variable{w1:V}
def Vw{w:V}{r o:Nat}(h:w.grownBy w1 (C r))(v:Y):w.grownBy (w1.setCell ⟨r,o,U⟩ v) (C r):=⟨h.os,h.tape,h.output,by rw[size_set];exact h.size,λk a n=>(Below.heap_setCell _ _ _ _ Y7).trans (h.block k a n)⟩
def Ql{w:V}{row:Option Nat}(h:w.grownBy w1 row):w.grownBy w1.drew row:=⟨h.os,h.tape,h.output,h.size,h.block⟩
def ry{B:Nat}{w:V}(h:cj B w w1)(n:Nat):cj B w (w1.drewN n):=⟨h.os,h.tape,h.output,h.size,h.block⟩
def tP{w w2:V}{B r:Nat}(h:cj B w w1)(g:w1.grownBy w2 (C r))(a:B<=w1.heap.size)(b:B<=r):cj B w w2:=h.grown g a (by simp;omega)
def aY{w c:V}{B:Nat}(b:cj B w c)(a:k<B)(h:w.heap[k]?=C x):c.heap[k]?=C x:=(b.block k a).trans h
def fp{w w2:V}(h:cj w.heap.size w w1)(a:cj w1.heap.size w1 w2):cj w.heap.size w w2:=h.trans (a.mono h.size)
def Pa{w:V}{A B:Obj}(h:cj ((w.alloc A).alloc B).heap.size ((w.alloc A).alloc B) w1):w1.heap[w.heap.size]?=C A/\w1.heap[w.heap.size+1]?=C B/\w.heap.size+2<=w1.heap.size/\cj w.heap.size w w1:=⟨aY h (by simp;omega) (jh (ng rfl)),aY h Y1 (ng Y1),by have:=h.size;simpa using this,fp (jl w A B) h⟩
def Eo{w:V}{A B Q0:Obj}(h:cj (((w.alloc A).alloc B).alloc Q0).heap.size (((w.alloc A).alloc B).alloc Q0) w1):w1.heap[w.heap.size]?=C A/\w1.heap[w.heap.size+1]?=C B/\w1.heap[w.heap.size+2]?=C Q0/\w.heap.size+3<=w1.heap.size/\cj w.heap.size w w1:=⟨aY h (by simp;omega) (jh (jh (ng rfl))),aY h Y1 (jh (ng Y1)),aY h Y1 (ng Y1),by have:=h.size;simpa using this,fp ((jl w A B).alloc (by simp;omega) Q0) h⟩
def zd5{x y:Bool}(h:x=y):Ending.returned (.bool x)=.returned (.bool y):=by rw[h]
def ed(x:Int):Bool:=decide (0<=x)&&decide (x<=255)
def iw(l:List Int):Bool:=l.all ed
def tO(l:List Int)(k:Nat)(h:k<l.length):iw (l.take (k+1))=(iw (l.take k)&&ed (l.getD k 0)):=by unfold iw;rw[List.take_add_one,bA];rw[aN h];simp only[Option.toList_some,List.all_append,fh,List.all_nil,Option.getD_some,Bool.and_true]
def tE(l:List Int)(k:Nat)(a:k<l.length)(h:ed (l.getD k 0)=H):iw l=H:=by simp[iw,List.all_eq_false];grind
def ov.cons{w:V}{x:Int}(h:ov w v (x::l)):∃g o f,v=.slice (C ⟨g,o,U⟩) (l.length+1) f/\g<w.heap.size/\l.length+1<=f/\w.cell? ⟨g,o,U⟩=C (.int .i64 x):=by
 rcases h.2 with⟨a,_⟩|⟨g,o,f,i,T,rfl,b,c,d,e⟩;.simp at a
 .refine⟨g,o,f,rfl,(ab.1 c).1,Y0,?_⟩;have:=Sl.cells h Y1 0 _ (by simp;rfl);simpa[Addr.add]using this
def ov.nil{w:V}(h:ov w v []):∃a cap,v=.slice a 0 cap:=by obtain⟨a,cap,rfl,_⟩:=Sl.form h;simp_all
def ov.tail{w:V}{x:Int}{o c:Nat}(h:ov w (.slice (C ⟨g,o,U⟩) (l.length+1) c) (x::l))(d:Option bX)(e:1<c->d=C ⟨g,o+1,U⟩)(a:d≠U)(b:∀ad,d=C ad->ad.block=g):ov w (.slice d l.length (c-1)) l:=by have:=Sl.drop h (k:=1) Y1 Y1 d Y0 a b;simpa[ov]using this
def jJ(r:Int)(l:List Int):Bool:=decide (1<=r)&&decide (r<=16)&&decide ((l.length:Int)<=r)&&iw l
namespace Ab
def fR(l:List UInt8):Y:=.string ⟨l.toArray⟩
inductive EL where|bn(l:List Int)|bC(l:List (Int×Int))|bytes(l:List UInt8)|k3(l:List (Int×Int×Int))|strs(l:List (List UInt8))
def EL.len:EL->Nat|.bn l=>l.length|.bC l=>l.length|.bytes l=>l.length|.k3 l=>l.length|.strs l=>l.length
def EL.sz:EL->Nat|.bn _=>1|.bC _=>2|.bytes _=>1|.k3 _=>3|.strs _=>1
def EL.di:EL->List Y|.bn l=>l.map (cL .i64)|.bC l=>l.flatMap λg=>[.int .i64 g.1,.int .i64 g.2]|.bytes l=>l.map λb=>cL .u8 b.toNat|.k3 l=>l.flatMap λg=>[.int .i64 g.1,.int .i64 g.2.1,.int .i64 g.2.2]|.strs l=>l.map fR
def EL.take:EL->Nat->EL|.bn l,n=>.bn (l.take n)|.bC l,n=>.bC (l.take n)|.bytes l,n=>.bytes (l.take n)|.k3 l,n=>.k3 (l.take n)|.strs l,n=>.strs (l.take n)
def EL.drop:EL->Nat->EL|.bn l,n=>.bn (l.drop n)|.bC l,n=>.bC (l.drop n)|.bytes l,n=>.bytes (l.drop n)|.k3 l,n=>.k3 (l.drop n)|.strs l,n=>.strs (l.drop n)
inductive EK where|bn|bC|bytes|k3|strs
def EK.nil:EK->EL|.bn=>.bn []|.bC=>.bC []|.bytes=>.bytes []|.k3=>.k3 []|.strs=>.strs []
def EK.S6:EK->Nat->EL|.bn,n=>.bn (aP n 0)|.bC,n=>.bC (aP n (0,0))|.bytes,n=>.bytes (aP n 0)|.k3,n=>.k3 (aP n (0,0,0))|.strs,n=>.strs (aP n [])
inductive LV where|v(x:Y)|str(l:List UInt8)|p(k off:Nat)|s(k ver:Nat)|w(k ver sz i n:Nat)|f(l:EL)|fx(v:Y)(l:EL)|e(k ver sz i off:Nat)|g(l:EL)(i off:Nat)|o(T:Option ah)(k:Nat)|m(k:Nat)|j
inductive AV where|l(x:LV)|a(cs:List LV)|t(xs:List (LV⊕List LV))|j
inductive HB where|b(cs:List LV)(T:ah)|r(ver:Nat)(Q0:ah)(l:EL)|d|x(Φ:Obj->Prop)
abbrev Fr:=List AV
abbrev Hp:=List HB
inductive TK where|leaf|bool|int(k:cZ)|struct(fs:List (Nat×Nat×Bool))|arr(n:Nat)(e:ah)(Ce:Nat)(zt3:Bool)|slice(e:ah)(Ce:Nat)(ek:EK)|osl(e:ah)|str|ptr(e:ah)|chan|map(s:Bool)
structure TI where
 sz:Nat
 agg:Bool
 zl:List LV
 bytes:Nat
 kind:TK
 eqs:Option (List (Option cZ))ms:List (String×bu×Bool)
abbrev lJ:=List (ah×TI)
def LV.val:LV->Y|.v x=>x|.str l=>fR l|_=>undef
def TI.zero(i:TI):List Y:=i.zl.map LV.val
def Aa:lJ->ah->(TI->Prop)->Prop|[],_,_=>False|(a,i)::r,t,K=>match bD a t with|true=>K i|false=>Aa r t K
def IU:Fr->Nat->(AV->Prop)->Prop|[],_,_=>False|a::_,0,K=>K a|_::r,n+1,K=>IU r n K
def IX:Fr->Nat->AV->(Fr->Prop)->Prop|[],_,_,_=>False|_::r,0,x,K=>K (x::r)|a::r,n+1,x,K=>IX r n x λb=>K (a::b)
def mj(fr:Fr)(d:Option Tmp)(x:AV)(K:Fr->Prop):Prop:=match d with|none=>K fr|some d=>IX fr d x K
def py:Hp->Nat->(HB->Prop)->Prop|[],_,_=>False|a::_,0,K=>K a|_::r,n+1,K=>py r n K
def uV:Hp->Nat->HB->(Hp->Prop)->Prop|[],_,_,_=>False|_::r,0,x,K=>K (x::r)|a::r,n+1,x,K=>uV r n x λb=>K (a::b)
def YP:Hp->Nat->HB->(Nat->Hp->Prop)->Prop|[],k,x,K=>K k [x]|a::r,k,x,K=>YP r (k+1) x λn b=>K n (a::b)
def FY:List LV->Nat->(List LV->Prop)->Prop|cs,0,K=>K cs|[],_+1,_=>False|_::cs,n+1,K=>FY cs n K
def F4:List LV->Nat->(List LV->Prop)->Prop|_,0,K=>K []|[],_+1,_=>False|c::cs,n+1,K=>F4 cs n λr=>K (c::r)
def Zr:List LV->List LV->(List LV->Prop)->Prop|cs,[],K=>K cs|[],_::_,_=>False|_::cs,v::a,K=>Zr cs a λr=>K (v::r)
def Ai:List LV->Nat->List LV->(List LV->Prop)->Prop|cs,0,v,K=>Zr cs v K|[],_+1,_,_=>False|c::cs,n+1,v,K=>Ai cs n v λr=>K (c::r)
def zbA(c:List LV)(o s:Nat)(agg:Bool)(K:AV->Prop):Prop:=FY c o λr=>F4 r s λq=>match agg with|true=>K (.a q)|false=>match q with|[x]=>K (.l x)|_=>False
inductive af(p q:Prop):Prop where|mk(hp:p)(hq:q)
def OJ:List LV->Nat->Prop->Prop|[],0,p=>p|_::r,n+1,p=>OJ r n p|_,_,_=>False
inductive Br(t:Bool)(p q:Prop):Prop where|mk(ht:t=E->p)(hf:t=H->q)
inductive cy(p:Prop):Prop where|mk(h:p)
inductive dS(p q:Prop):Prop where|mk(hp:p)(hq:q)
def U0{p q:Prop}(a:p)(b:q):af p q:=.mk a b
def U1{p:Prop}(a:p):cy p:=.mk a
def brT{p q:Prop}(h:p):Br E p q:=.mk (λ_=>h) (λe=>dO e)
def qM{t:Bool}{p q:Prop}(e:t=E)(h:p):Br t p q:=e▸brT h
def brF{p q:Prop}(h:q):Br H p q:=.mk (λe=>dO e) (λ_=>h)
def na{t:Bool}{p q:Prop}(e:t=H)(h:q):Br t p q:=e▸brF h
def zbU(v:Y)(K:AV->Prop):Prop:=match v with|.bool b=>K (.l (.v (.bool b)))|.int k n=>K (.l (.v (.int k n)))|.string s=>K (.l (.str s.data.toList))|.slice U 0 0=>K (.l (.v (.slice U 0 0)))|.pointer U=>K (.l (.v (.pointer U)))|.nilIface=>K (.l (.v .nilIface))|.nilFunc=>K (.l (.v .nilFunc))|_=>False
def vG(fr:Fr)(x:aU)(K:AV->Prop):Prop:=match x with|.tmp t=>IU fr t K|.const v=>zbU v K|.func f=>K (.l (.v (.func (.func f) #[] #[])))|.global g=>K (.l (.v (.pointer (C ⟨g,0,U⟩))))
def SP(fr:Fr):List aU->(List AV->Prop)->Prop|[],K=>K []|x::r,K=>vG fr x λa=>SP fr r λv=>K (a::v)
def rng:cZ->Int->Prop|.i64,n=>-9223372036854775808<=n/\n<=9223372036854775807|.u8,n=>0<=n/\n<=255|_,_=>False
def WB{n:Int}(h:-9223372036854775808<=n/\n<=9223372036854775807):rng .i64 n:=h
def zyV{n:Int}(h:0<=n/\n<=255):rng .u8 n:=h
abbrev I(k:cZ)(n:Int):AV:=.l (.v (.int k n))
abbrev B(b:Bool):AV:=.l (.v (.bool b))
def zqM(op:jN)(k:cZ)(x y:Int)(K:AV->Prop):Prop:=match op with|.add=>af (rng k (x+y))<|K (I k (x+y))|.sub=>af (rng k (x-y))<|K (I k (x-y))|.mul=>af (rng k (x*y))<|K (I k (x*y))|.quo=>Br (decide (x<0)) (af (0<y/\rng k (0-(0-x)/y))<|K (I k (0-(0-x)/y))) (af (0<=x/\0<y/\rng k (x/y))<|K (I k (x/y)))|.rem=>af (0<=x/\0<y)<|K (I k (x%y))|.and=>K (I k (k.wrap (aS k.bits x&&&aS k.bits y).toNat))|.or=>K (I k (k.wrap (aS k.bits x|||aS k.bits y).toNat))|.xor=>K (I k (k.wrap (aS k.bits x^^^aS k.bits y).toNat))|.andNot=>K (I k (k.wrap (aS k.bits x&&&~~~(aS k.bits y)).toNat))|.eql=>K (B (decide (x=y)))|.neq=>K (B (!decide (x=y)))|.lss=>K (B (decide (x<y)))|.leq=>K (B (decide (x<=y)))|.gtr=>K (B (decide (y<x)))|.geq=>K (B (decide (y<=x)))|_=>False
def shK(op:jN)(k:cZ)(x y:Int)(K:AV->Prop):Prop:=match op with|.shl=>af (0<=y)<|K (I k (k.wrap (x*2^(min y.toNat k.bits))))|.shr=>af (0<=y)<|K (I k (x.fdiv (2^(min y.toNat k.bits))))|_=>False
def zmw:jN->Bool|.shl|.shr=>E|_=>H
def eq1(k:Option cZ)(x y:LV)(K:Bool->Prop):Prop:=match k with|some _=>(match x with|.v (.int k1 a)=>(match y with|.v (.int c b)=>af (k1=c)<|K (decide (a=b))|_=>False)|_=>False)|none=>(match x with|.v (.bool a)=>(match y with|.v (.bool b)=>K (a==b)|_=>False)|_=>False)
def YQ:List (Option cZ)->List LV->List LV->(Bool->Prop)->Prop|[],[],[],K=>K E|k::a,x::xs,y::d,K=>eq1 k x y λb=>YQ a xs d λc=>K (b&&c)|_,_,_,_=>False
def lH:Nat:=1099511627776
def zqu(T:lJ)(op:jN)(t:ah)(a b:AV)(K:AV->Prop):Prop:=match a with|.l (.v (.int k x))=>(match b with|.l (.v (.int g y))=>(match zmw op with|true=>shK op k x y K|false=>af (k=g)<|zqM op k x y K)|_=>False)|.l (.v (.bool x))=>(match b with|.l (.v (.bool y))=>Aa T t λd=>(match d.kind with|.bool=>(match op with|.eql=>K (B (x==y))|.neq=>K (B (!(x==y)))|_=>False)|_=>False)|_=>False)|.a xs=>(match b with|.a f=>Aa T t λd=>(match d.eqs with|some e=>(match op with|.eql=>YQ e xs f λc=>K (B c)|.neq=>YQ e xs f λc=>K (B (!c))|_=>False)|none=>False)|_=>False)|.l (.str x)=>(match b with|.l (.str y)=>(match op with|.add=>af (x.length+y.length<=lH)<|K (.l (.str (x++y)))|.eql=>K (B (decide (x=y)))|.neq=>K (B (!decide (x=y)))|_=>False)|_=>False)|.l (.v (.pointer p))=>(match b with|.l (.v (.pointer U))=>Aa T t λd=>(match d.kind with|.ptr _=>(match op with|.eql=>K (B p.isNone)|.neq=>K (B (!p.isNone))|_=>False)|_=>False)|_=>False)|.l (.p _ _)=>(match b with|.l (.v (.pointer U))=>Aa T t λd=>(match d.kind with|.ptr _=>(match op with|.eql=>K (B H)|.neq=>K (B E)|_=>False)|_=>False)|_=>False)|_=>False
def elK(l:EL)(i o:Nat)(agg:Bool)(s:Nat)(K:AV->Prop):Prop:=match l with|.bn l=>(match agg with|true=>False|false=>(match o with|0=>K (I .i64 (l.getD i 0))|_=>False))|.bytes l=>(match agg with|true=>False|false=>(match o with|0=>K (I .u8 ((l.getD i 0).toNat:Int))|_=>False))|.bC l=>(match agg with|true=>(match o with|0=>(match s with|2=>K (.a [.v (.int .i64 (l.getD i (0,0)).1),.v (.int .i64 (l.getD i (0,0)).2)])|_=>False)|_=>False)|false=>(match o with|0=>K (I .i64 (l.getD i (0,0)).1)|1=>K (I .i64 (l.getD i (0,0)).2)|_=>False))|.k3 l=>(match agg with|true=>(match o with|0=>(match s with|3=>K (.a [.v (.int .i64 (l.getD i (0,0,0)).1),.v (.int .i64 (l.getD i (0,0,0)).2.1),.v (.int .i64 (l.getD i (0,0,0)).2.2)])|_=>False)|_=>False)|false=>(match o with|0=>K (I .i64 (l.getD i (0,0,0)).1)|1=>K (I .i64 (l.getD i (0,0,0)).2.1)|2=>K (I .i64 (l.getD i (0,0,0)).2.2)|_=>False))|.strs l=>(match agg with|true=>False|false=>(match o with|0=>K (.l (.str (l.getD i [])))|_=>False))
def vJ(hp:Hp)(k a:Nat)(K:ah->EL->Prop):Prop:=py hp k λh=>match h with|.r v Q0 l=>(match bD a v with|true=>K Q0 l|false=>False)|_=>False
def SZ:List Nat->Nat->Bool|[],_=>H|a::r,k=>match bD a k with|true=>E|false=>SZ r k
def Er:Option (Nat×List Nat)->Nat->Bool|none,_=>E|some (n,W),k=>Nat.blt k n&&!SZ W k
def Aq:Option (Nat×List Nat)->Nat->Bool|none,_=>E|some (n,W),k=>SZ W k||eI n k
def YR:List (Nat×Nat×Bool)->Nat->(Nat->Nat->Bool->Prop)->Prop|[],_,_=>False|(o,s,g)::_,0,K=>K o s g|_::r,n+1,K=>YR r n K
def zq3:List (LV⊕List LV)->Nat->(AV->Prop)->Prop|[],_,_=>False|.inl x::_,0,K=>K (.l x)|.inr cs::_,0,K=>K (.a cs)|_::r,n+1,K=>zq3 r n K
def xU(a:AV)(K:List LV->Prop):Prop:=match a with|.l x=>K [x]|.a cs=>K cs|_=>False
def zdO(fr:Fr)(f:List (Nat×Nat×Bool)):List (Nat×aU)->List LV->(List LV->Prop)->Prop|[],cs,K=>K cs|(i,x)::r,cs,K=>YR f i λo s _=>vG fr x λa=>xU a λv=>OJ v s (Ai cs o v λc=>zdO fr f r c K)
def WQ(fr:Fr)(e:Nat):List (Nat×aU)->List LV->(List LV->Prop)->Prop|[],cs,K=>K cs|(i,x)::r,cs,K=>vG fr x λa=>xU a λv=>OJ v e (Ai cs (i*e) v λc=>WQ fr e r c K)
def U4(hp:Hp)(e:EK)(a:AV)(K:EL->Prop):Prop:=match a with|.l (.f l)=>K l|.l (.fx _ l)=>K l|.l (.s k b)=>vJ hp k b λ_ l=>K l|.l (.w k b c i n)=>vJ hp k b λ_ l=>af (bD c l.sz=E)<|af (i+n<=l.len)<|K ((l.drop i).take n)|.l (.v (.slice U 0 0))=>K e.nil|_=>False
def I8(hp:Hp)(a:AV)(K:Nat->Prop):Prop:=match a with|.l (.f l)=>K l.len|.l (.fx _ l)=>K l.len|.l (.s k b)=>vJ hp k b λ_ l=>K l.len|.l (.w k b _ _ n)=>vJ hp k b λ_ _=>K n|.l (.v (.slice _ n _))=>K n|_=>False
def zhN(fr:Fr)(x:Option aU)(d:Int)(K:Int->Prop):Prop:=match x with|none=>K d|some x=>vG fr x λa=>match a with|.l (.v (.int _ n))=>K n|_=>False
def zt2(e:Nat)(a:AV)(hp:Hp)(fr:Fr)(c d:Option aU)(K:AV->Prop):Prop:=I8 hp a λn=>zhN fr c 0 λi=>zhN fr d n λh=>af (0<=i/\i<=h/\h<=n)<|match a with|.l (.f l)=>af (bD e l.sz=E)<|K (.l (.f ((l.drop i.toNat).take (h.toNat-i.toNat))))|.l (.s k v)=>vJ hp k v λ_ l=>af (bD e l.sz=E)<|K (.l (.w k v e i.toNat (h.toNat-i.toNat)))|.l (.w k v b i0 _)=>vJ hp k v λ_ _=>af (bD e b=E)<|K (.l (.w k v b (i0+i.toNat) (h.toNat-i.toNat)))|_=>False
def kG(x y:Int):Int:=if y<x then y else x
def zuf(x y:Int):Int:=if x<y then y else x
def zd7:List LV->(List Y->Prop)->Prop|[],K=>K []|.v x::r,K=>zd7 r λu=>K (x::u)|.str l::r,K=>zd7 r λu=>K (fR l::u)|_,_=>False
def zd1:List (String×bu×Bool)->String->(bu->Bool->Prop)->Prop|[],_,_=>False|(n,f,p)::r,m,K=>match n==m with|true=>K f p|false=>zd1 r m K
def zbG(b:List (Int×Y))(o:Obj):Prop:=∃a c,o=.map a c/\a.toList.map (λe=>(e.key,e.val))=b.map λx=>(cL .i64 x.1,x.2)
def Ws:List (Int×Y)->Int->Option Y|[],_=>U|(k,v)::r,n=>match decide (k=n)with|true=>C v|false=>Ws r n
def zbH(b:List (List UInt8×Int))(o:Obj):Prop:=∃a c,o=.map a c/\a.toList.map (λe=>(e.key,e.val))=b.map λx=>(fR x.1,cL .i64 x.2)
def MB:List (List UInt8×Int)->List UInt8->Option Int|[],_=>U|(k,v)::r,n=>match decide (k=n)with|true=>C v|false=>MB r n
def zio:List (List UInt8×Int)->List UInt8->(AV->Prop)->Prop|[],_,K=>K (I .i64 0)|(k,v)::r,n,K=>Br (decide (k=n)) (K (I .i64 v)) (zio r n K)
def O2(T:lJ)(W:Option (Nat×List Nat))(fr:Fr)(hp:Hp)(op:Op)(K:AV->Prop):Prop:=match op with
 |.move x=>vG fr x K|.assign x=>vG fr x K|.pick c a b=>vG fr c λQ0=>match Q0 with |.l (.v (.bool t))=>Br t (vG fr a K) (vG fr b K)|_=>False
 |.binOp op t x y _=>vG fr x λa=>vG fr y λb=>zqu T op t a b K|.unOp op _ x=>vG fr x λa=>(match op with|.not=>(match a with|.l (.v (.bool b))=>K (B (!b))|_=>False)|.neg=>(match a with |.l (.v (.int k n))=>af (rng k (0-n))<|K (I k (0-n))|_=>False)|_=>False)|.extract x i=>vG fr x λa=>(match a with |.t xs=>zq3 xs i K|_=>False)|.build t parts=>Aa T t λj=>(match j.kind with |.struct N=>zdO fr N parts.toList j.zl λM=>K (.a M)|.arr _ _ q _=>WQ fr q parts.toList j.zl λM=>K (.a M)|_=>False)|.field t x f=>vG fr x λa=>(match a with|.a M=>Aa T t λj=>(match j.kind with |.struct N=>YR N f λL z agg=>zbA M L z agg K|_=>False)|_=>False)|.fieldAddr t x f=>vG fr x λa=>Aa T t λj=>(match j.kind with |.struct N=>YR N f λJ _ _=>(match a with|.l (.p k L)=>K (.l (.p k (L+J)))|.l (.e k r z i L)=>vJ hp k r λ_ _=>K (.l (.e k r z i (L+J)))|.l (.g l i L)=>K (.l (.g l i (L+J)))|_=>False)|_=>False)|.indexAddr t x i=>vG fr x λa=>vG fr i λb=>(match b with |.l (.v (.int _ n))=>Aa T t λj=>(match j.kind with |.slice _ q _=>I8 hp a λm=>af (0<=n/\n<m)<|(match a with |.l (.f l)=>af (bD q l.sz=E)<|K (.l (.g l n.toNat 0))|.l (.fx _ l)=>af (bD q l.sz=E)<|K (.l (.g l n.toNat 0))|.l (.s k r)=>vJ hp k r λ_ l=>af (bD q l.sz=E)<|K (.l (.e k r q n.toNat 0))|.l (.w k r z i0 _)=>vJ hp k r λ_ _=>af (bD q z=E)<|K (.l (.e k r z (i0+n.toNat) 0))|_=>False)|.arr m _ q _=>af (0<=n/\n<m)<|(match a with|.l (.p k L)=>K (.l (.p k (L+n.toNat*q)))|_=>False)|_=>False)|_=>False)|.index t x i=>vG fr x λa=>vG fr i λb=>(match b with |.l (.v (.int _ n))=>Aa T t λj=>(match j.kind with|.arr m _ q A=>af (0<=n/\n<m)<|(match a with|.a M=>zbA M (n.toNat*q) q A K|_=>False)|.str=>(match a with|.l (.str s)=>af (0<=n/\n<s.length)<|K (I .u8 ((s.getD n.toNat 0).toNat:Int))|_=>False)|_=>False)|_=>False)|.load t x=>vG fr x λa=>Aa T t λj=>(match a with |.l (.p k L)=>af (Er W k=E)<|py hp k λh=>(match h with|.b M _=>zbA M L j.sz j.agg K|_=>False)|.l (.e k r z i L)=>af (Er W k=E)<|vJ hp k r λ_ l=>af (bD z l.sz=E)<|af (i<l.len)<|elK l i L j.agg j.sz K|.l (.g l i L)=>af (i<l.len)<|elK l i L j.agg j.sz K|_=>False)|.slice t x D Q F=>(match F with |none=>vG fr x λa=>Aa T t λj=>(match j.kind with|.slice _ q _=>zt2 q a hp fr D Q K|.str=>(match a with|.l (.str s)=>zhN fr D 0 λi=>zhN fr Q s.length λh=>af (0<=i/\i<=h/\h<=s.length)<|K (.l (.str ((s.drop i.toNat).take (h.toNat-i.toNat))))|_=>False)|_=>False)|some _=>False)|.nilCheck x=>vG fr x λa=>(match a with|.l (.p k L)=>K (.l (.p k L))|_=>False)|.makeInterface t x=>vG fr x λa=>Aa T t λj=>(match a with|.l (.p k 0)=>(match j.kind with|.ptr _=>K (.l (.o (C t) k))|_=>False)|.a M=>(match j.kind with|.struct _=>zd7 M λP=>K (.l (.v (.iface t (.agg P.toArray))))|_=>False)|_=>False)|.typeAssert x _ t ok=>(match ok with|true=>False|false=>vG fr x λa=>Aa T t λj=>(match a with|.l (.v (.iface G (.agg P)))=>(match j.kind with|.struct _=>af (bD G t=E)<|af (P.toList.all (·.oneCell')=E)<|K (.a (P.toList.map .v))|_=>False)|_=>False))|.lookup t x i ok=>(match ok with|true=>False|false=>vG fr x λa=>vG fr i λb=>(match a with|.l (.m k)=>(match b with|.l (.v (.int .i64 n))=>Aa T t λj=>(match j.kind with|.map H=>af (Er W k=E)<|py hp k λh=>(match h with|.x Φ=>∃O v,(∀o,Φ o->zbG O o)/\Ws O n=C v/\v.oneCell'=E/\K (.l (.v v))|_=>False)|_=>False)|.l (.str n)=>Aa T t λj=>(match j.kind with|.map E=>af (Er W k=E)<|py hp k λh=>(match h with|.x Φ=>∃O,(∀o,Φ o->zbH O o)/\zio O n K|_=>False)|_=>False)|_=>False)|_=>False))|.convert s d x=>vG fr x λa=>Aa T s λ_=>(match a with|.l (.v (.int _ n))=>Aa T d λj=>(match j.kind with|.int k=>af (rng k n)<|K (I k n)|_=>False)|_=>False)|.call c=>(match c.callee with|.builtin .len=>SP fr c.args.toList λu=>(match u with|[a]=>(match c.argTypes.toList with|[t]=>Aa T t λj=>(match j.kind with|.slice _ _ _=>I8 hp a λn=>K (I .i64 n)|.osl _=>I8 hp a λn=>K (I .i64 n)|.str=>(match a with|.l (.str s)=>K (I .i64 s.length)|_=>False)|_=>False)|_=>False)|_=>False)|.builtin .min=>SP fr c.args.toList λu=>(match u with|[.l (.v (.int k x)),.l (.v (.int _ y))]=>K (I k (kG x y))|_=>False)|.builtin .max=>SP fr c.args.toList λu=>(match u with|[.l (.v (.int k x)),.l (.v (.int _ y))]=>K (I k (zuf x y))|_=>False)|_=>False)|_=>False
structure CS where
 S:List AV->Hp->(AV->Hp->Prop)->Prop
 sb:List AV->Option (List Nat)
abbrev bK:=List (Nat×CS)
def csK:bK->Nat->(CS->Prop)->Prop|[],_,_=>False|(a,c)::r,f,K=>match bD a f with|true=>K c|false=>csK r f K
def OL(r:Option Nat)(hp:Hp)(x:HB)(K:Nat->Hp->Prop):Prop:=match r with|none=>YP hp 0 x K|some k=>py hp k λh=>match h with|.d=>uV hp k x λp=>K k p|_=>False
def Am(a:EK)(c:List LV)(K:EL->Prop):Prop:=match a with |.bn=>go c K|.bC=>go2 c K|.bytes=>(match c with|[]=>K (.bytes [])|[.v (.int .u8 n)]=>af (rng .u8 n)<|K (.bytes [gz n.toNat])|_=>False)|.k3=>go3 c K|.strs=>go4 c λl=>K (.strs l)where
 go4:List LV->(List (List UInt8)->Prop)->Prop |[],K=>K []|.str s::r,K=>go4 r λl=>K (s::l)|_,_=>False
 go:List LV->(EL->Prop)->Prop
  |[],K=>K (.bn [])|.v (.int .i64 n)::r,K=>go r λe=>match e with|.bn l=>K (.bn (n::l))|_=>False
  |_,_=>False
 go2:List LV->(EL->Prop)->Prop
  |[],K=>K (.bC [])|.v (.int .i64 n)::.v (.int .i64 m)::r,K=>go2 r λe=>match e with |.bC l=>K (.bC ((n,m)::l))|_=>False
  |_,_=>False
 go3:List LV->(EL->Prop)->Prop
  |[],K=>K (.k3 [])|.v (.int .i64 n)::.v (.int .i64 m)::.v (.int .i64 o)::r,K=>go3 r λe=>match e with |.k3 l=>K (.k3 ((n,m,o)::l))|_=>False
  |_,_=>False
def Jb(fr:Fr)(s:Nat):Nat->Nat->List (Nat×aU)->(List LV->Prop)->Prop|_,0,[],K=>K []|i,n+1,(b,x)::r,K=>af (bD i b=E)<|vG fr x λa=>xU a λd=>OJ d s (Jb fr s (i+1) n r λc=>zir d c K)|_,_,_,_=>False where zir:List LV->List LV->(List LV->Prop)->Prop|[],c,K=>K c|v::d,c,K=>zir d c λr=>K (v::r)
def zow(l m:EL)(K:EL->Prop):Prop:=match l with|.bn x=>(match m with|.bn y=>K (.bn (x++y))|_=>False)|.bC x=>(match m with|.bC y=>K (.bC (x++y))|_=>False)|.bytes x=>(match m with|.bytes y=>K (.bytes (x++y))|_=>False)|.k3 x=>(match m with|.k3 y=>K (.k3 (x++y))|_=>False)|.strs x=>(match m with|.strs y=>K (.strs (x++y))|_=>False)
def ziv(l:EL)(i o:Nat)(a:List LV)(K:EL->Prop):Prop:=match l with|.bn l=>(match o with|0=>(match a with|[.v (.int .i64 x)]=>K (.bn (l.set i x))|_=>False)|_=>False)|.bC l=>(match o with|0=>(match a with|[.v (.int .i64 x)]=>K (.bC (l.set i (x,(l.getD i (0,0)).2)))|[.v (.int .i64 x),.v (.int .i64 y)]=>K (.bC (l.set i (x,y)))|_=>False)|1=>(match a with|[.v (.int .i64 y)]=>K (.bC (l.set i ((l.getD i (0,0)).1,y)))|_=>False)|_=>False)|.bytes _=>False|.k3 l=>(match o with|0=>(match a with|[.v (.int .i64 x),.v (.int .i64 y),.v (.int .i64 z)]=>K (.k3 (l.set i (x,y,z)))|_=>False)|_=>False)|.strs l=>(match o with|0=>(match a with|[.str x]=>K (.strs (l.set i x))|_=>False)|_=>False)
def zdL:Option (Nat×List Nat)->List Nat->Bool|_,[]=>E|W,k::r=>Aq W k&&zdL W r
def Es:Option (Nat×List Nat)->Option (List Nat)->Bool|W,C l=>zdL W l|none,U=>E|some _,U=>H
def yX(l:List Int)(c:Bool)(o:Obj):Prop:=∃s r,o=.chan 1 (l.map (cL .i64)).toArray c s r H
def zqL(T:lJ)(W:Option (Nat×List Nat))(fr:Fr)(hp:Hp)(t:ah)(x y z:aU)(K:Hp->Prop):Prop:=vG fr x λa=>vG fr y λb=>vG fr z λc=>Aa T t λd=>(match d.kind with|.map s=>(match a with|.l (.m k)=>af (Aq W k=E)<|py hp k λh=>(match h with|.x Φ=>(match s with|false=>(match b with|.l (.v (.int .i64 n))=>(match c with|.l (.v v)=>∃e,(∀o,Φ o->zbG e o)/\Ws e n=U/\uV hp k (.x (zbG (e++[(n,v)]))) K|_=>False)|_=>False)|true=>(match b with|.l (.str n)=>(match c with|.l (.v (.int .i64 v))=>∃e,(∀o,Φ o->zbH e o)/\MB e n=U/\uV hp k (.x (zbH (e++[(n,v)]))) K|_=>False)|_=>False))|_=>False)|_=>False)|_=>False)
def zqq(T:lJ)(hp:Hp)(t c:ah)(e:EK)(b:AV)(K:EL->Prop):Prop:=match b with|.l (.str s)=>(match e with|.bytes=>Aa T c λa=>(match a.kind with|.str=>af (s.length<=lH)<|K (.bytes s)|_=>False)|_=>False)|b=>af (bD t c=E)<|U4 hp e b K
def zbC(T:lJ)(G:bK)(W:Option (Nat×List Nat))(P:Option Nat)(fr:Fr)(hp:Hp)(o:bU)(K:Fr->Hp->Prop):Prop:=match o.op with|.alloc t=>Aa T t λq=>OL P hp (.b q.zl t) λk O=>mj fr o.dst (.l (.p k 0)) λN=>K N O|.box t x=>vG fr x λa=>xU a λQ=>OL P hp (.b Q t) λk O=>mj fr o.dst (.l (.p k 0)) λN=>K N O|.store t x y=>vG fr x λa=>vG fr y λb=>xU b λR=>Aa T t λq=>OJ R q.sz (match a with|.l (.p k off)=>af (Aq W k=E)<|py hp k λh=>(match h with|.b Q F=>Ai Q off R λX=>uV hp k (.b X F) λO=>mj fr o.dst .j λN=>K N O|_=>False)|.l (.e k u L i off)=>af (Aq W k=E)<|vJ hp k u λQ0 l=>af (bD L l.sz=E)<|af (i<l.len)<|ziv l i off R λM=>uV hp k (.r u Q0 M) λO=>mj fr o.dst .j λN=>K N O|_=>False)|.buildSlice t n parts=>Aa T t λq=>(match q.kind with|.slice e A B=>af (eI (n*A) 16777216=E)<|Jb fr A 0 n parts.toList λQ=>Am B Q λl=>OL P hp (.r 0 e l) λk O=>mj fr o.dst (.l (.s k 0)) λN=>K N O|_=>False)|.makeSlice t n c=>Aa T t λq=>(match q.kind with|.slice e _ B=>(match n with|.const (.int .i64 0)=>vG fr c λa=>(match a with|.l (.v (.int .i64 m))=>af (0<=m/\m<=1099511627776)<|OL P hp (.r 0 e B.nil) λk O=>mj fr o.dst (.l (.s k 0)) λN=>K N O|_=>False)|.tmp y=>vG fr (.tmp y) λa=>(match a with|.l (.v (.int .i64 m))=>vG fr c λZ=>(match Z with|.l (.v (.int .i64 m2))=>af (0<=m/\m<=1099511627776)<|af (m=m2)<|OL P hp (.r 0 e (B.S6 m.toNat)) λk O=>mj fr o.dst (.l (.s k 0)) λN=>K N O|_=>False)|_=>False)|_=>False)|_=>False)|.makeChan t n=>Aa T t λq=>(match q.kind with|.chan=>(match n with|.const (.int .i64 1)=>OL P hp (.x (yX [] H)) λk O=>mj fr o.dst (.l (.o U k)) λN=>K N O|_=>False)|_=>False)|.makeMap t r=>Aa T t λq=>(match q.kind with|.map s=>(match r with|some _=>False|none=>OL P hp (.x (match s with|false=>zbG []|true=>zbH [])) λk O=>mj fr o.dst (.l (.m k)) λN=>K N O)|_=>False)|.convert s d x=>vG fr x λa=>(match a with|.l (.v (.int _ _))=>O2 T U fr hp o.op λr=>mj fr o.dst r λN=>K N hp|_=>Aa T s λI=>Aa T d λq=>(match I.kind with|.slice _ _ .bytes=>(match q.kind with|.str=>U4 hp .bytes a λl=>(match l with|.bytes l=>mj fr o.dst (.l (.str l)) λN=>K N hp|_=>False)|_=>False)|_=>False))|.insert t x y z=>zqL T W fr hp t x y z λO=>mj fr o.dst .j λN=>K N O|.mapUpdate t x y z=>zqL T W fr hp t x y z λO=>mj fr o.dst .j λN=>K N O|.call c=>(match c.callee with|.builtin .append=>(match c.args.toList with|[x,y]=>(match c.argTypes.toList with|[t,t2]=>Aa T t λq=>(match q.kind with|.slice e A B=>vG fr x λa=>vG fr y λb=>zqq T hp t t2 B b λm=>af (bD A m.sz=E)<|(match a with|.l (.s k u)=>af (Aq W k=E)<|vJ hp k u λQ0 l=>af (bD Q0 e=E)<|af (l.len+m.len<=lH)<|zow l m λM=>uV hp k (.r (u+1) e M) λO=>mj fr o.dst (.l (.s k (u+1))) λN=>K N O|.l (.v (.slice U 0 0))=>YP hp 0 (.r 0 e m) λk O=>mj fr o.dst (.l (.s k 0)) λN=>K N O|_=>False)|_=>False)|_=>False)|_=>False)|.invoke r name=>vG fr r λa=>(match a with|.l (.o (C t) k)=>Aa T t λq=>zd1 q.ms name λf p=>csK G f λw=>SP fr c.args.toList λg=>(match p with|true=>af (Es W (w.sb (.l (.p k 0)::g))=E)<|w.S (.l (.p k 0)::g) hp λr O=>mj fr o.dst r λN=>K N O|false=>(match q.kind with|.ptr e=>Aa T e λD=>af (Er W k=E)<|py hp k λh=>(match h with|.b Q _=>zbA Q 0 D.sz D.agg λx=>af (Es W (w.sb (x::g))=E)<|w.S (x::g) hp λr O=>mj fr o.dst r λN=>K N O|_=>False)|_=>False))|_=>False)|.value (.func f)=>csK G f λw=>SP fr c.args.toList λg=>af (Es W (w.sb g)=E)<|w.S g hp λr O=>mj fr o.dst r λN=>K N O|.value (.tmp d)=>IU fr d λJ=>(match J with|.l (.v (.func (.func f) us R))=>af (us=#[])<|af (R=#[])<|csK G f λw=>SP fr c.args.toList λg=>af (Es W (w.sb g)=E)<|w.S g hp λr O=>mj fr o.dst r λN=>K N O|_=>False)|_=>O2 T U fr hp o.op λr=>mj fr o.dst r λN=>K N hp)|_=>O2 T U fr hp o.op λr=>mj fr o.dst r λN=>K N hp
def zfv:List bU->Nat->(bU->Prop)->Prop|[],_,_=>False|a::_,0,K=>K a|_::r,n+1,K=>zfv r n K
def U9(e:List bU)(fr:Fr)(o:bU)(p q:Prop):Prop:=match o.guard with|none=>p|some (i,b)=>zfv e i λc=>(match c.dst with|some d=>IU fr d λa=>(match a with|.l (.v (.bool t))=>(match b with|true=>Br t p q|false=>Br t q p)|.t xs=>(match xs with|[]=>q|_=>False)|_=>False)|none=>False)
def Wu(T:lJ)(G:bK)(a:List bU):List bU->Fr->Hp->(Fr->Hp->Prop)->Prop|[],fr,hp,K=>K fr hp|o::r,fr,hp,K=>U9 a fr o (zbC T G U U fr hp o λf p=>Wu T G a r f p K) (mj fr o.dst (.t []) λf=>Wu T G a r f hp K)
def zuN:Op->Bool|.alloc _|.box _ _|.buildSlice ..|.makeSlice ..|.makeChan ..|.makeMap ..=>E|_=>H
def UY:List bU->Nat->Nat|_,0=>0|[],_+1=>0|o::r,n+1=>match zuN o.op with|true=>UY r n+1|false=>UY r n
def CY:Nat->(Nat->Prop)->Prop|0,K=>K 0|n+1,K=>CY n λm=>K (m+1)
def Zq:List Nat->(List Nat->Prop)->Prop|[],K=>K []|a::r,K=>CY a λc=>Zq r λb=>K (c::b)
def stepT(T:lJ)(G:bK)(a:List bU)(W:Nat×List Nat)(b:Nat)(i k:Nat)(fr:Fr)(hp:Hp)(K:Fr->Hp->Prop):Prop:=zfv a i λo=>(match k with|0=>U9 a fr o (O2 T (C W) fr hp o.op λr=>mj fr o.dst r λf=>K f hp) (mj fr o.dst (.t []) λf=>K f hp)|1=>U9 a fr o (CY (b+UY a i) λk=>zbC T G (C W) (C k) fr hp o K) (mj fr o.dst (.t []) λf=>K f hp)|_=>U9 a fr o (CY (b+UY a i) λk=>zbC T G U (C k) fr hp o K) (mj fr o.dst (.t []) λf=>K f hp))
def OW(T:lJ)(G:bK)(a:List bU)(W:Nat×List Nat)(b:Nat):Tr->Fr->Hp->(Fr->Hp->Prop)->Prop|.nil,fr,hp,K=>cy (K fr hp)|.op i k t,fr,hp,K=>(match k with|0=>False|1=>False|_=>stepT T G a W b i 2 fr hp λf p=>OW T G a W b t f p K)|.iY ..,_,_,_=>False
def wY(T:lJ)(G:bK)(c:List bU)(W:Nat×List Nat)(b:Nat):Tr->Fr->Hp->(Fr->Hp->Prop)->Prop |.nil,fr,hp,K=>cy (K fr hp)|.op i k t,fr,hp,K=>(match k with |0=>stepT T G c W b i 0 fr hp λf p=>wY T G c W b t f p K|1=>stepT T G c W b i 1 fr hp λf p=>wY T G c W b t f p K|_=>stepT T G c W b i 2 fr hp λf p=>OW T G c W b t f p K)|.iY i _ t j _ u,fr,hp,K=>dS (∀a,(stepT T G c W b i 1 fr hp λf p=>wY T G c W b t f p a)->stepT T G c W b j 1 fr hp λf p=>wY T G c W b u f p a) (stepT T G c W b i 1 fr hp λf p=>wY T G c W b t f p K)
def zuM(o:bU):Bool:=match o.op with|.call c=>(match c.callee with|.builtin .append=>E|_=>H)|_=>H
def ziF:List bU->Bool|[]=>H|o::r=>match zuM o with|true=>E|false=>ziF r
def zyI(o:bU):Bool:=match o.op with|.call c=>(match c.callee with|.builtin .append=>E|.builtin .copy=>E|.builtin _=>H|_=>E)|.store ..=>E|_=>H
def zov:List bU->Bool|[]=>H|o::r=>match zyI o with|true=>E|false=>zov r
def zy5(o:List bU)(W:List Nat)(r:List Nat):List Nat:=match zov o with|false=>[]|true=>(match ziF o with|true=>W++r|false=>W)
def zvw(fr:Fr)(o:bU):List Nat:=match o.op with|.store _ x _=>(match x with|.tmp d=>(match fr[d]? with|some (.l (.p k _))=>[k]|_=>[])|_=>[])|_=>[]
def ziy(fr:Fr)(a:List bU)(i k:Nat):List Nat:=match k with|1=>(match a[i]? with|some o=>zvw fr o|none=>[])|_=>[]
def stW(fr:Fr)(o:List bU):Tr->List Nat|.nil=>[]|.op i k t=>ziy fr o i k++stW fr o t|.iY i k t j l u=>ziy fr o i k++(stW fr o t++(ziy fr o j l++stW fr o u))
def zb8:Nat->Hp->List Nat|_,[]=>[]|k,.r ..::r=>k::zb8 (k+1) r|k,_::r=>zb8 (k+1) r
def OM:Nat->Hp->(Hp->Prop)->Prop|0,hp,K=>K hp|n+1,hp,K=>YP hp 0 .d λ_ p=>OM n p K
inductive Xt where|n|x(id:Nat)|r
abbrev Go1:=Fr->Hp->(Xt->Fr->Hp->Prop)->Prop
def Zn(X:Go1):Nat->Go1|0,_,_,_=>False|n+1,fr,hp,K=>X fr hp λe f p=>match e with|.n=>Zn X n f p K|.x id=>K (.x id) f p|.r=>K .r f p
def zfs(ρ:List Nat)(B D:Hp)(t s:LV):Prop:=match t with|.j=>True|.p k off=>(match s with|.p A d=>ρ[k]?=C A/\off=d/\py B k λh=>(match h with|.b _ _=>True|_=>False)|_=>False)|.s k c=>(match s with|.s A a=>ρ[k]?=C A/\vJ B k c (λ_ _=>vJ D A a λ_ _=>True)|_=>False)|.w k c r i n=>(match s with|.w A a q u y=>(ρ[k]?=C A/\r=q/\i=u/\n=y)/\vJ B k c (λ_ _=>vJ D A a λ_ _=>True)|.s A a=>(ρ[k]?=C A/\i=0)/\vJ B k c (λ_ _=>vJ D A a λ_ l=>n=l.len/\r=l.sz)|_=>False)|.e ..=>False|.g ..=>False|.o T k=>(match s with|.o z A=>T=z/\ρ[k]?=C A/\py B k λh=>(match h with|.b _ _=>True|_=>False)|_=>False)|.m k=>(match s with|.m A=>ρ[k]?=C A/\py B k λh=>(match h with|.x _=>True|_=>False)|_=>False)|.v x=>.v x=s|.str l=>.str l=s|.f l=>.f l=s|.fx v l=>.fx v l=s
def OS(ρ:List Nat)(h b:Hp):List LV->List LV->Prop->Prop|[],[],p=>p|t::a,s::c,p=>(match t with|.j=>OS ρ h b a c p|t=>af (zfs ρ h b t s)<|OS ρ h b a c p)|_,_,_=>False
def zbz(ρ:List Nat)(h c:Hp):Fr->Fr->Prop->Prop|[],[],p=>p|t::b,s::d,p=>(match t with|.j=>zbz ρ h c b d p|.l x=>(match s with|.l y=>OS ρ h c [x] [y] (zbz ρ h c b d p)|_=>False)|.a xs=>(match s with|.a e=>OS ρ h c xs e (zbz ρ h c b d p)|_=>False)|.t _=>False)|_,_,_=>False
def OQ(N:Nat)(ρ:List Nat)(m j:Hp):Nat->List HB->List Nat->Prop->Prop|_,[],[],p=>p|i,t::a,k::c,p=>py j k λs=>(match t with|.d=>af (eI N i=E)<|OQ N ρ m j (i+1) a c p|.b cs T=>(match s with|.b n f=>af ((eI N i||bD i k)=E)<|af (bD T f=E)<|OS ρ m j cs n (OQ N ρ m j (i+1) a c p)|_=>False)|.r e Q0 l=>(match s with|.r v g h=>af ((eI N i||(bD i k&&bD e v))=E)<|af (bD Q0 g=E)<|af (l=h)<|OQ N ρ m j (i+1) a c p|_=>False)|.x Φ=>(match s with|.x Φ'=>af ((eI N i||bD i k)=E)<|af (∀o,Φ' o->Φ o)<|OQ N ρ m j (i+1) a c p|_=>False))|_,_,_,_=>False
def IV:Hp->Nat|[]=>0|_::r=>IV r+1
def W2:List Nat->Bool|[]=>E|a::r=>!SZ r a&&W2 r
def cov(N:Nat)(ρ:List Nat)(f:Fr)(t:Hp)(a:Fr)(s:Hp):Prop:=af ((W2 ρ&&eI N ρ.length&&bD (IV t) ρ.length)=E)<|OQ N ρ t s 0 t ρ (zbz ρ t s f a True)
def zhT:List (Nat×AV)->Fr->(Fr->Prop)->Prop|[],fr,K=>K fr|(k,x)::r,fr,K=>IX fr k x λf=>zhT r f K
def zhU:List (Nat×HB)->Hp->(Hp->Prop)->Prop|[],hp,K=>K hp|(k,x)::r,hp,K=>uV hp k x λp=>zhU r p K
def Zo:List Nat->Fr->(Fr->Prop)->Prop|[],fr,K=>K fr|k::r,fr,K=>IX fr k .j λf=>Zo r f K
def Zf:Fr->(Fr->Prop)->Prop|[],K=>K []|a::r,K=>Zf r λb=>(match a with|.l x=>K (.l x::b)|.a cs=>K (.a cs::b)|.t _=>K (.j::b)|.j=>K (.j::b))
def u4(ws:List Nat)(fr:Fr)(hp:Hp)(u:List (Nat×AV))(v:List (Nat×HB))(K:Fr->Hp->Prop):Prop:=Zf fr λf=>Zo ws f λb=>zhT u b λa=>zhU v hp λp=>K a p
inductive Lc(N:Nat)(X:Go1)(ws:List Nat)(fr:Fr)(hp:Hp)(K:Xt->Fr->Hp->Prop):Prop where|it(n:Nat)(h:Zn X n fr hp K)|mI(σ:Type)(u:σ->List (Nat×AV))(v:σ->List (Nat×HB))(μ:σ->Nat)(x0:σ)(ρ:List Nat)(h0:u4 ws fr hp (u x0) (v x0) λft ht=>cov N ρ ft ht fr hp)(h:∀x,u4 ws fr hp (u x) (v x) λft ht=>X ft ht λe cm dF=>match e with|.n=>∃x' ρ,μ x'<μ x/\u4 ws fr hp (u x') (v x') λft' ht'=>cov N ρ ft' ht' cm dF|.x id=>K (.x id) cm dF|.r=>K .r cm dF)|zhK(m:Nat)(σ:Type)(u:σ->List (Nat×AV))(v:σ->List (Nat×HB))(μ:σ->Nat)(x0:σ)(ρ:List Nat)(h0:OM m hp λhp1=>u4 ws fr hp1 (u x0) (v x0) λft ht=>cov N ρ ft ht fr hp1)(h:∀x,OM m hp λhp1=>u4 ws fr hp1 (u x) (v x) λft ht=>X ft ht λe cm dF=>match e with|.n=>∃x' ρ,μ x'<μ x/\OM m hp λhp1=>u4 ws fr hp1 (u x') (v x') λft' ht'=>cov N ρ ft' ht' cm dF|.x id=>K (.x id) cm dF|.r=>K .r cm dF)
def zoP(N:Nat)(X:Go1)(ws:List Nat):Nat->Go1|0,fr,hp,K=>Lc N X ws fr hp K|n+1,fr,hp,K=>X fr hp λe f p=>match e with|.n=>zoP N X ws n f p K|.x id=>K (.x id) f p|.r=>K .r f p
inductive dt(N:Nat)(X:Go1)(ws:List Nat)(fr:Fr)(hp:Hp)(K:Xt->Fr->Hp->Prop):Prop where|g(h:Lc N X ws fr hp K)|un(n:Nat)(h:zoP N X ws n fr hp K)
section
variable{N:Nat}{X:Go1}{ws:List Nat}{fr:Fr}{hp:Hp}{K:Xt->Fr->Hp->Prop}
def dt.it(n:Nat)(h:Zn X n fr hp K):dt N X ws fr hp K:=.g (.it n h)
def dt.mI(σ:Type)(u:σ->List (Nat×AV))(v:σ->List (Nat×HB))(μ:σ->Nat)(d:σ)(ρ:List Nat)(b:u4 ws fr hp (u d) (v d) λf i=>cov N ρ f i fr hp)(h:∀x,u4 ws fr hp (u x) (v x) λf i=>X f i λe c p=>match e with|.n=>∃j ρ,μ j<μ x/\u4 ws fr hp (u j) (v j) λa t=>cov N ρ a t c p|.x id=>K (.x id) c p|.r=>K .r c p):dt N X ws fr hp K:=.g (.mI σ u v μ d ρ b h)
def dt.zhK(m:Nat)(σ:Type)(u:σ->List (Nat×AV))(v:σ->List (Nat×HB))(μ:σ->Nat)(i:σ)(ρ:List Nat)(b:OM m hp λp=>u4 ws fr p (u i) (v i) λf j=>cov N ρ f j fr p)(h:∀x,OM m hp λp=>u4 ws fr p (u x) (v x) λf j=>X f j λe c d=>match e with|.n=>∃k ρ,μ k<μ x/\OM m hp λp=>u4 ws fr p (u k) (v k) λa t=>cov N ρ a t c d|.x id=>K (.x id) c d|.r=>K .r c d):dt N X ws fr hp K:=.g (.zhK m σ u v μ i ρ b h)
end
def zoZ(t:Tr)(o:Array bU):Bool:=bD t.len o.size&&ny o&&I6 .any o t.pv&&ml .any o (aK o.size H) t
def zqy:List bU->List Nat|[]=>[]|o::r=>match o.dst with|some d=>d::zqy r|none=>zqy r
def wrs:Code->List Nat|.region _ ops _=>zqy ops.toList|.seq a b=>wrs a++wrs b|.cond _ a b=>wrs a++wrs b|.block _ c=>wrs c|.loop c=>wrs c|_=>[]
def exec(T:lJ)(G:bK)(N:Nat)(h:List Nat)(d:Nat->Tr):Code->Go1|.skip=>λfr hp K=>K .n fr hp|.region id ops draw=>λfr hp K=>(match draw with|false=>Wu T G ops.toList ops.toList fr hp λf p=>K .n f p|true=>af (zoZ (d id) ops=E)<|OM (UY ops.toList ops.size) hp λp=>CY (IV hp) λg=>Zq (zy5 ops.toList h (zb8 0 hp)++stW fr ops.toList (d id)) λW=>wY T G ops.toList (g,W) g (d id) fr p λf p=>K .n f p)|.seq a b=>λfr hp K=>exec T G N h d a fr hp λe f p=>(match e with|.n=>exec T G N h d b f p K|.x id=>K (.x id) f p|.r=>K .r f p)|.cond c a b=>λfr hp K=>vG fr c λv=>(match v with|.l (.v (.bool t))=>Br t (exec T G N h d a fr hp K) (exec T G N h d b fr hp K)|_=>False)|.block id c=>λfr hp K=>exec T G N h d c fr hp λe f p=>(match e with|.n=>K .n f p|.x i=>(match bD i id with|true=>K .n f p|false=>K (.x i) f p)|.r=>K .r f p)|.loop c=>λfr hp K=>dt N (exec T G N h d c) (wrs c) fr hp K|.exit id=>λfr hp K=>K (.x id) fr hp|.ret=>λfr hp K=>K .r fr hp|_=>λ_ _ _=>False
def zqX(T:lJ)(fr:Fr)(hp:Hp):kP->(AV->Prop)->Prop|.tmp t,K=>IU fr t K|.cell t ty,K=>O2 T U fr hp (.load ty (.tmp t)) K
def zit(a:AV)(K:(LV⊕List LV)->Prop):Prop:=match a with|.l x=>K (.inl x)|.a cs=>K (.inr cs)|_=>False
def ziu(T:lJ)(fr:Fr)(hp:Hp):List kP->(List (LV⊕List LV)->Prop)->Prop|[],K=>K []|r::rs,K=>zqX T fr hp r λa=>zit a λx=>ziu T fr hp rs λb=>K (x::b)
def Ww(T:lJ)(fr:Fr)(hp:Hp)(rs:List kP)(K:AV->Prop):Prop:=match rs with|[r]=>zqX T fr hp r K|rs=>ziu T fr hp rs λx=>K (.t x)
def CZ:Nat->Fr->Fr|0,v=>v|n+1,[]=>.j::CZ n []|n+1,a::v=>a::CZ n v
def FX(T:lJ)(G:bK)(N:Nat)(W:List Nat)(b:Nat->Tr)(a:Func)(v:List AV)(hp:Hp)(K:AV->Hp->Prop):Prop:=match a.body with|none=>False|some c=>exec T G N W b c (CZ a.ntmps v) hp λe f p=>(match e with|.n=>Ww T f p a.results.toList λr=>K r p|.r=>Ww T f p a.results.toList λr=>K r p|.x _=>False)
end Ab
open Go.RowKit
namespace Ab
def aH{p q:Prop}:af p q↔p/\q:=⟨λ⟨a,b⟩=>⟨a,b⟩,λ⟨a,b⟩=>⟨a,b⟩⟩
def zeq{p:Prop}:cy p↔p:=⟨λ⟨a⟩=>a,λa=>⟨a⟩⟩
def I0{t:Bool}{p q:Prop}:Br t p q↔(t=E->p)/\(t=H->q):=⟨λ⟨a,b⟩=>⟨a,b⟩,λ⟨a,b⟩=>⟨a,b⟩⟩
def zbR{t:Bool}{p q:Prop}:Br t p q↔if t then p else q:=by rw[I0];cases t<;>simp
def zxT{a b:Nat}(h:¬a=b):bD a b=H:=by cases c:bD a b with|false=>rfl|true=>cases h (aE c)
def tyL:lJ->ah->Option TI|[],_=>U|(a,i)::r,t=>if a=t then C i else tyL r t
def dy{T:lJ}{t:ah}{K:TI->Prop}:Aa T t K↔∃i,tyL T t=C i/\K i:=by induction T with|nil=>simp[Aa,tyL]|cons x r b=>
 have⟨a,i⟩:=x;by_cases h:a=t;.subst h;simp[Aa,tyL]
 .have :=zxT h;simp[Aa,tyL,this,if_neg h,b]
def oS{fr:Fr}{n:Nat}{K:AV->Prop}:IU fr n K↔∃x,fr[n]?=C x/\K x:=by induction fr generalizing n with|nil=>simp[IU]|cons a r i=>cases n<;>simp[IU,i]
def iE{fr:Fr}{n:Nat}{x:AV}{K:Fr->Prop}:IX fr n x K↔n<fr.length/\K (fr.set n x):=by induction fr generalizing n K with|nil=>simp[IX]|cons a r i=>cases n<;>simp[IX,i]
variable{hp:Hp}
def dX{n:Nat}{K:HB->Prop}:py hp n K↔∃x,hp[n]?=C x/\K x:=by induction hp generalizing n with|nil=>simp[py]|cons a r i=>cases n<;>simp[py,i]
def hX{n:Nat}{x:HB}{K:Hp->Prop}:uV hp n x K↔n<hp.length/\K (hp.set n x):=by induction hp generalizing n K with|nil=>simp[uV]|cons a r i=>cases n<;>simp[uV,i]
def Pm{k:Nat}{x:HB}{K:Nat->Hp->Prop}:YP hp k x K↔K (k+hp.length) (hp++[x]):=by induction hp generalizing k K with|nil=>simp[YP]|cons a r i=>simp[YP,i,gq,yl 1]
variable{c:List LV}{K:List LV->Prop}
def sR{n:Nat}:FY c n K↔n<=c.length/\K (c.drop n):=by induction c generalizing n with|nil=>cases n<;>simp[FY]|cons a r i=>cases n<;>simp[FY,i]
def sW{n:Nat}:F4 c n K↔n<=c.length/\K (c.take n):=by induction c generalizing n K with|nil=>cases n<;>simp[F4]|cons a r i=>cases n<;>simp[F4,i]
def VH{a:List LV}:Zr c a K↔a.length<=c.length/\K (a++c.drop a.length):=by induction a generalizing c K with|nil=>cases c<;>simp[Zr]|cons v a i=>cases c<;>simp[Zr,i]
def Jv{v:List LV}{n:Nat}:Ai c n v K↔n+v.length<=c.length/\K (c.take n++v++c.drop (n+v.length)):=by induction c generalizing n K with
 |nil=>
  cases n;.simp[Ai,VH]
  .simp[Ai]|cons a r i=>
  cases n;.simp[Ai,VH]
  .simp[Ai,i,Nat.add_right_comm]
def AH{n:Nat}{p:Prop}:OJ c n p↔c.length=n/\p:=by induction c generalizing n with|nil=>cases n<;>simp[OJ]|cons a r i=>cases n<;>simp[OJ,i]
def Pp{f:List (Nat×Nat×Bool)}{n:Nat}{K:Nat->Nat->Bool->Prop}:YR f n K↔∃o s g,f[n]?=C (o,s,g)/\K o s g:=by induction f generalizing n with|nil=>simp[YR]|cons a r i=>have⟨o,s,g⟩:=a;cases n with|zero=>simp only[YR,bz,ay,aX];grind|succ n=>simp[YR,ef,i]
def lY{n:Nat}{K:Nat->Prop}:CY n K↔K n:=by induction n generalizing K with|zero=>simp[CY]|succ n i=>simp[CY,i]
def zgk{l:List Nat}{K:List Nat->Prop}:Zq l K↔K l:=by induction l generalizing K with|nil=>simp[Zq]|cons a r i=>simp[Zq,lY,i]
def AF{l:List bU}{n:Nat}{K:bU->Prop}:zfv l n K↔∃x,l[n]?=C x/\K x:=by induction l generalizing n with|nil=>simp[zfv]|cons a r i=>cases n<;>simp[zfv,i]
def vd(hp:Hp):IV hp=hp.length:=by induction hp with|nil=>rfl|cons a r i=>simp[IV,i]
def PK{n:Nat}{K:Hp->Prop}:OM n hp K↔K (hp++aP n .d):=by induction n generalizing hp with|zero=>simp[OM]|succ n i=>simp[OM,Pm,i,List.replicate_succ]
def GF{G:bK}{f:Nat}{K:CS->Prop}(h:csK G f K):∃c,(f,c)∈G/\K c:=by induction G with|nil=>simp[csK]at h|cons a r i=>have⟨j,c⟩:=a;cases b:bD j f with|true=>have:j=f:=Y7;subst this;simp[csK,b]at h;simp_all|false=>simp[csK,b]at h;have⟨d,e,g⟩:=i h;grind
def AI{l:List Nat}{k:Nat}:SZ l k=E↔k∈l:=by induction l with|nil=>simp[SZ]|cons a r i=>
 cases b:bD a k with|true=>have:a=k:=Y7;subst this;simp[SZ]|false=>
  have:¬a=k:=by intro e;subst e;simp at b
  simp[SZ,b,i,cA this]
structure Cx where
 w0:V
 M:List Nat
structure uO(S:Nat->Prop)(w w':V):Prop where
 os:w'.os=w.os
 tape:w'.tape=w.tape
 output:w'.output=w.output
 size:w.heap.size<=w'.heap.size
 block:∀b,b<w.heap.size->¬S b->w'.heap[b]?=w.heap[b]?
 rows:∀b,iA w b->iA w' b
def uO.refl(S:Nat->Prop)(w:V):uO S w w:=⟨rfl,rfl,rfl,ao _,λ_ _ _=>rfl,λ_ h=>h⟩
def uO.trans{S:Nat->Prop}{a b c:V}(h:uO S a b)(k:uO S b c):uO S a c:=⟨k.os.trans h.os,k.tape.trans h.tape,k.output.trans h.output,bw h.size k.size,λi e s=>(k.block i (aO e h.size) s).trans (h.block i e s),λb d=>k.rows b (h.rows b d)⟩
variable{w':V}
def uO.mono{S a:Nat->Prop}{w:V}(h:uO S w w')(s:∀b,b<w.heap.size->S b->a b):uO a w w':=⟨h.os,h.tape,h.output,h.size,λb c n=>h.block b c λe=>n (s b c e),h.rows⟩
def uO.PC{S:Nat->Prop}{w:V}(h:cj w.heap.size w w'):uO S w w':=⟨h.os,h.tape,h.output,h.size,λb a _=>h.block b a,λb a=>a.same (h.block b a.lt)⟩
def uO.zkz{w:V}{r:Option Nat}(h:w.grownBy w' r)(c:∀g,iA w g->iA w' g):uO (λb=>r=C b) w w':=⟨h.os,h.tape,h.output,h.size,λb a n=>h.block b a λe=>n e.symm,c⟩
def uO.drew{S:Nat->Prop}{w w':V}(h:uO S w w'):uO S w w'.drew:=⟨h.os,h.tape,h.output,h.size,h.block,h.rows⟩
def uO.below{w:V}(h:uO (λ_=>False) w w'):cj w.heap.size w w':=⟨h.os,h.tape,h.output,h.size,λb a=>h.block b a id⟩
def FZ(cx:Cx)(v:Y)(l:EL):Prop:=Sl cx.w0 l.sz v l.len l.di/\l.len<=lH/\(l.len≠0->∀b,v.ownBlock=C b->b∉cx.M)
inductive En where|b(n:Nat)|r(v:Y)(ver:Nat)|x
def tf(b:Y)(s i n:Nat)(v:Y):Prop:=∃a c,v=.slice a n c/\((a=U->c=0)/\∀ad,a=C ad->b.ownBlock=C ad.block)/\(0<n->∃g e d,b=.slice (C ⟨g,0,U⟩) e d/\a=C ⟨g,i*s,U⟩/\n<=c/\c+i=d)
def LC(cx:Cx)(β:List En)(x:LV)(v:Y):Prop:=v.oneCell'=E/\match x with|.v y=>v=y|.str l=>v=fR l|.p k off=>∃n,β[k]?=C (.b n)/\v=.pointer (C ⟨n,off,U⟩)|.s k d=>∃q a,β[k]?=C (.r q a)/\d<=a/\(d=a->v=q)|.w k d h i n=>∃q a,β[k]?=C (.r q a)/\d<=a/\(d=a->tf q h i n v)|.f l=>FZ cx v l|.fx u l=>v=u/\FZ cx v l|.e k d h i off=>∃q a,β[k]?=C (.r q a)/\d<=a/\(d=a->∃g z A,q=.slice (C ⟨g,0,U⟩) z A/\v=.pointer (C ⟨g,i*h+off,U⟩))|.o T k=>∃n,β[k]?=C (.b n)/\v=(match T with|none=>.chan (C n)|some t=>.iface t (.pointer (C ⟨n,0,U⟩)))|.m k=>∃n,β[k]?=C (.b n)/\v=.map (C n)|.g l i off=>∃q g o n c,FZ cx q l/\q=.slice (C ⟨g,o,U⟩) n c/\v=.pointer (C ⟨g,o+(i*l.sz+off),U⟩)|.j=>True
def gi(cx:Cx)(β:List En):List LV->List Y->Prop|[],[]=>True|x::xs,v::a=>LC cx β x v/\gi cx β xs a|_,_=>False
def Wd(cx:Cx)(β:List En):List (LV⊕List LV)->List Y->Prop|[],[]=>True|.inl x::xs,v::a=>LC cx β x v/\Wd cx β xs a|.inr cs::xs,v::a=>(∃u,v=.agg u/\gi cx β cs u.toList)/\Wd cx β xs a|_,_=>False
def AC(cx:Cx)(β:List En)(x:AV)(v:Y):Prop:=match x with|.l y=>LC cx β y v|.a cs=>∃u,v=.agg u/\gi cx β cs u.toList|.t xs=>∃b,v=.tuple b/\Wd cx β xs b.toList|.j=>True
def IL(cx:Cx)(β:List En):List AV->List Y->Prop|[],[]=>True|x::xs,v::a=>AC cx β x v/\IL cx β xs a|_,_=>False
def FR(cx:Cx)(β:List En)(fr:Fr)(t:Array Y):Prop:=fr.length=t.size/\∀i x,fr[i]?=C x->AC cx β x (t.getD i undef)
def HOk(cx:Cx)(β:List En)(w:V):HB->En->Prop|.b cs T,.b n=>(cx.w0.heap.size<=n\/n∈cx.M)/\∃u,w.heap[n]?=C (.cells u T (0,0))/\gi cx β cs u.toList|.r c Q0 l,.r v a=>a=c/\w.ownsRow cx.w0.heap.size Q0 l.sz v l.len l.di/\l.len<=lH|.d,.x=>True|.x Φ,.b n=>(cx.w0.heap.size<=n\/n∈cx.M)/\∃o,w.heap[n]?=C o/\Φ o|.x _,.r _ _=>True|_,_=>False
def nG:HB->En->Option Nat|.b _ _,.b n=>C n|.x _,.b n=>C n|.r _ _ _,.r v _=>v.ownBlock|_,_=>U
def cN(hp:Hp)(β:List En)(k:Nat):Option Nat:=match hp[k]?,β[k]? with|some h,C e=>nG h e|_,_=>U
def Wz:Array Y:=((List.range 20).map λk=>cL .u64 (10^k)).toArray
def Gw(w:V):Prop:=∃(T:ah)(fr:Nat×Nat),w.heap[1]?=C (.cells Wz T fr)
def Gm(M:List Nat):Prop:=1∉M
def Gw.s4{M:List Nat}{w:V}(h:Gw w)(a:Gm M)(k:uO (.∈M) w w'):Gw w':=by have⟨T,fr,e⟩:=h;exact⟨T,fr,(k.block 1 (ab.1 e).1 a).trans e⟩
def Gm.nil:Gm []:=by simp[Gm]
def Gw.below{w:V}(h:Gw w)(b:cj w.heap.size w w'):Gw w':=by have⟨T,fr,e⟩:=h;exact⟨T,fr,(b.block 1 (ab.1 e).1).trans e⟩
def Gm.rd{w:V}(h:Gw w){r:Nat}{u:Array Y}{T:ah}{fr:Nat×Nat}(b:w.heap[r]?=C (.cells u T fr))(n:u.size=2):Gm [r]:=by
 have⟨a,f,e⟩:=h;have:r≠1:=by rintro rfl;rw[e]at b;cases b;cases n
 simp[Gm];omega
structure ki(cx:Cx)(β:List En)(hp:Hp)(w:V):Prop where
 kp:uO (.∈cx.M) cx.w0 w
 len:β.length=hp.length
 Ds:∀(k:Nat)h e,hp[k]?=C h->β[k]?=C e->HOk cx β w h e
 dis:∀(i k b:Nat),cN hp β i=C b->cN hp β k=C b->i=k
def uZ(β bR:List En):Prop:=∀(k:Nat)e,β[k]?=C e->match e with|.b n=>bR[k]?=C (.b n)|.r v c=>∃d a,bR[k]?=C (.r d a)/\c<=a/\(c=a->d=v)|.x=>True
def uZ.refl(β:List En):uZ β β:=by intro k e h;cases e with|b n=>exact h|r v a=>grind|x=>trivial
def uZ.trans{a b c:List En}(h:uZ a b)(k:uZ b c):uZ a c:=by intro i e j;have f:=h i e j;cases e with|b n=>exact k i _ f|r v l=>have⟨u,g,m,o,p⟩:=f;have⟨w,d,q,s,t⟩:=k i _ m;grind|x=>trivial
variable{cx:Cx}{β bR:List En}
def LC.ext(u:uZ β bR){x:LV}{v:Y}(h:LC cx β x v):LC cx bR x v:=by refine⟨h.1,?_⟩;have f:=h.2;cases x with|p k off=>have⟨n,b,c⟩:=f;exact⟨n,u k _ b,c⟩|o T k=>have⟨n,b,c⟩:=f;exact⟨n,u k _ b,c⟩|m k=>have⟨n,b,c⟩:=f;exact⟨n,u k _ b,c⟩|s k g=>have⟨y,d,b,c,j⟩:=f;have⟨z,a,l,r,q⟩:=u k _ b;grind|w k g t i n=>have⟨y,d,b,c,j⟩:=f;have⟨z,a,l,r,q⟩:=u k _ b;grind|e k g t i off=>have⟨y,d,b,c,j⟩:=f;have⟨z,a,l,r,q⟩:=u k _ b;grind|_=>exact f
def gi.ext{cx:Cx}{β bR:List En}(x:uZ β bR):∀{a:List LV}{v:List Y},gi cx β a v->gi cx bR a v|[],[],_=>trivial|_::_,_::_,h=>⟨h.1.ext x,gi.ext x h.2⟩|[],_::_,h=>h|_::_,[],h=>h
def Wd.ext{cx:Cx}{β bR:List En}(x:uZ β bR):∀{b:List (LV⊕List LV)}{v:List Y},Wd cx β b v->Wd cx bR b v|[],[],_=>trivial|.inl _::_,_::_,h=>⟨h.1.ext x,Wd.ext x h.2⟩|.inr _::_,_::_,h=>⟨h.1.imp λ_⟨e,a⟩=>⟨e,a.ext x⟩,Wd.ext x h.2⟩|[],_::_,h=>h|.inl _::_,[],h=>h|.inr _::_,[],h=>h
def AC.ext{cx:Cx}{β bR:List En}(d:uZ β bR){x:AV}{v:Y}(h:AC cx β x v):AC cx bR x v:=by cases x with|l y=>exact LC.ext d h|a cs=>have⟨u,b,c⟩:=h;exact⟨u,b,c.ext d⟩|t xs=>have⟨u,b,c⟩:=h;exact⟨u,b,c.ext d⟩|j=>trivial
def FR.ext{cx:Cx}{β bR:List En}(a:uZ β bR){fr:Fr}{t:Array Y}(h:FR cx β fr t):FR cx bR fr t:=⟨h.1,λi x b=>(h.2 i x b).ext a⟩
def gi.length{cx:Cx}{β:List En}:∀{x:List LV}{v:List Y},gi cx β x v->x.length=v.length|[],[],_=>rfl|_::_,_::_,h=>by simp[gi.length h.2]|[],_::_,h=>h.elim|_::_,[],h=>h.elim
def gi.drop{cx:Cx}{β:List En}:∀{x:List LV}{v:List Y}(n:Nat),gi cx β x v->gi cx β (x.drop n) (v.drop n)|_,_,0,h=>h|[],[],_+1,_=>trivial|_::_,_::_,n+1,h=>gi.drop n h.2|[],_::_,_+1,h=>h.elim|_::_,[],_+1,h=>h.elim
def gi.take{cx:Cx}{β:List En}:∀{x:List LV}{v:List Y}(n:Nat),gi cx β x v->gi cx β (x.take n) (v.take n)|_,_,0,_=>by simp[gi]|[],[],_+1,_=>trivial|_::_,_::_,n+1,h=>⟨h.1,gi.take n h.2⟩|[],_::_,_+1,h=>h.elim|_::_,[],_+1,h=>h.elim
def gi.append{cx:Cx}{β:List En}:∀{x:List LV}{v:List Y}{y:List LV}{u:List Y},gi cx β x v->gi cx β y u->gi cx β (x++y) (v++u)|[],[],_,_,_,k=>k|_::_,_::_,_,_,h,k=>⟨h.1,gi.append h.2 k⟩|[],_::_,_,_,h,_=>h.elim|_::_,[],_,_,h,_=>h.elim
def gi.one{cx:Cx}{β:List En}:∀{x:List LV}{a:List Y},gi cx β x a->∀v∈a,v.oneCell'=E
 |[],[],_,_,m=>by cases m|_::_,_::_,h,v,m=>by
  rcases bq.1 m with rfl|m;.exact h.1.1
  .exact gi.one h.2 v m|[],_::_,h,_,_=>h.elim|_::_,[],h,_,_=>h.elim
def gi.WJ{cx:Cx}{β:List En}:∀{a:List Y},(∀v∈a,v.oneCell'=E)->gi cx β (a.map LV.v) a|[],_=>trivial|v::a,h=>⟨⟨h v Y1,rfl⟩,gi.WJ λu b=>h u (by simp[b])⟩
def HOk.s4{w:V}{h:HB}{e:En}(t:HOk cx β w h e)(z:uZ β bR)(i:∀b,nG h e=C b->w'.heap[b]?=w.heap[b]?):HOk cx bR w' h e:=by cases h with
 |b cs T=>cases e with |b n=>have⟨c,A,a,f⟩:=t;exact⟨c,A,(i n rfl).trans a,f.ext z⟩|_=>exact t
 |r m Q0 l=>cases e with |r v j=>have⟨c,a,f⟩:=t;refine⟨c,⟨a.1,a.2.imp id λ⟨g,u,y,k,o,p,q⟩=>⟨g,u,y,k,o,?_,q⟩⟩,f⟩;exact(i g (by rw[k];rfl)).trans p|_=>exact t
 |d=>cases e<;>exact t|x Φ=>cases e with|b n=>have⟨c,s,a,f⟩:=t;exact⟨c,s,(i n rfl).trans a,f⟩|_=>exact t
def HOk.lt{cx:Cx}{β:List En}{w:V}{h:HB}{e:En}(k:HOk cx β w h e){b:Nat}(a:nG h e=C b):b<w.heap.size/\(cx.w0.heap.size<=b\/b∈cx.M):=by cases h with
 |b cs T=>cases e with|b n=>have⟨c,u,f,i⟩:=k;simp[nG,ay]at a;subst a;grind|_=>simp[nG]at a
 |r j Q0 l=>cases e with|r v g=>have:=k.2.1.lt b a;omega|_=>simp[nG]at a
 |d=>simp[nG]at a|x Φ=>cases e with|b n=>have⟨c,o,f,i⟩:=k;simp[nG,ay]at a;subst a;grind|_=>simp[nG]at a
def ix{k b:Nat}(h:cN hp β k=C b):∃x e,hp[k]?=C x/\β[k]?=C e/\nG x e=C b:=by
 unfold cN at h;split at h;.simp_all
 .cases h
def dK{k:Nat}{x:HB}{e:En}(h:hp[k]?=C x)(a:β[k]?=C e):cN hp β k=nG x e:=by unfold cN;rw[h,a]
def ki.lt{cx:Cx}{β:List En}{hp:Hp}{w:V}(h:ki cx β hp w){k b:Nat}(a:cN hp β k=C b):b<w.heap.size/\(cx.w0.heap.size<=b\/b∈cx.M):=by have⟨x,e,c,d,f⟩:=ix a;exact(h.Ds k x e c d).lt f
def ki.upd{q:Hp}{w:V}{k0:Nat}{h':HB}{e':En}(I:ki cx β hp w)(t:uO (λb=>cN hp β k0=C b) w w')(g:∀k,k≠k0->q[k]?=hp[k]?/\bR[k]?=β[k]?)(n:q[k0]?=C h')(p:bR[k0]?=C e')(r:bR.length=q.length)(x:uZ β bR)(l:HOk cx bR w' h' e')(f:∀b,nG h' e'=C b->cN hp β k0=C b\/w.heap.size<=b):ki cx bR q w':=by
 have o:∀k b,cN q bR k=C b->cN hp β k=C b\/(k=k0/\w.heap.size<=b):=by
  intro k b a;by_cases h:k=k0
  .subst h;rw[dK n p]at a;simp_all
  .left;unfold cN at a⊢;rw[(g k h).1,(g k h).2]at a;exact a
 refine⟨⟨t.os.trans I.kp.os,t.tape.trans I.kp.tape,t.output.trans I.kp.output,bw I.kp.size t.size,λb a s=>?_,λb a=>t.rows b (I.kp.rows b a)⟩,r,λk h e c d=>?_,λi k b v m=>?_⟩
 .refine(t.block b (aO a I.kp.size) λe=>?_).trans (I.kp.block b a s);rcases(I.lt e).2 with h|h;.omega
  .exact s h
 .by_cases j:k=k0;.simp_all
  .rw[(g k j).1]at c;rw[(g k j).2]at d;have u:=I.Ds k h e c d;refine u.s4 x λb a=>t.block b (u.lt a).1 λe'=>?_;exact j (I.dis k k0 b (by rw[dK c d];exact a) e')
 .rcases o i b v with c|⟨rfl,c⟩<;>rcases o k b m with d|⟨rfl,d⟩;.exact I.dis i k b c d
  .have:=(I.lt c).1;omega
  .have:=(I.lt d).1;omega
  .rfl
def ki.zfB{w:V}(I:ki cx β hp w)(t:cj w.heap.size w w'):ki cx β hp w':=by
 refine⟨⟨t.os.trans I.kp.os,t.tape.trans I.kp.tape,t.output.trans I.kp.output,bw I.kp.size t.size,λb a n=>?_,λb a=>(uO.PC (S:=λ_=>False) t).rows b (I.kp.rows b a)⟩,I.len,λk h e c d=>?_,I.dis⟩;.exact(t.block b (aO a I.kp.size)).trans (I.kp.block b a n)
 .have o:=I.Ds k h e c d;exact o.s4 (uZ.refl _) λb a=>t.block b (o.lt a).1
def EL.Gd(l:EL):l.di.length=l.len*l.sz:=by cases l with
 |bn l=>simp[EL.di,EL.len,EL.sz]|bytes l=>simp[EL.di,EL.len,EL.sz]|bC l=>simp[EL.di,EL.len,EL.sz];induction l with |nil=>rfl|cons a r i=>simp[i];omega
 |k3 l=>simp[EL.di,EL.len,EL.sz];induction l with |nil=>rfl|cons a r i=>simp[i];omega
 |strs l=>simp[EL.di,EL.len,EL.sz]
def EL.one(l:EL):∀u∈l.di,u.oneCell'=E:=by intro u a;cases l with|bn l=>obtain⟨x,_,rfl⟩:=oV.1 a;rfl|bytes l=>obtain⟨x,_,rfl⟩:=oV.1 a;rfl|bC l=>have⟨x,_,h⟩:=List.mem_flatMap.1 a;simp at h;rcases h with rfl|rfl<;>rfl|k3 l=>have⟨x,_,h⟩:=List.mem_flatMap.1 a;simp at h;rcases h with rfl|rfl|rfl<;>rfl|strs l=>obtain⟨x,_,rfl⟩:=oV.1 a;rfl
def FZ.sl{w:V}{v:Y}{l:EL}(h:FZ cx v l)(I:ki cx β hp w):Sl w l.sz v l.len l.di:=by
 refine⟨h.1.1,?_⟩;rcases h.1.2 with⟨b,c⟩|⟨g,o,j,k,T,c,f,d,i⟩
 .have⟨a,j,f,d,i⟩:=c;exact .inl ⟨b,a,j,f,d,λad e=>I.kp.rows _ (i ad e)⟩
 .by_cases b:l.len=0;.exact .inl ⟨b,_,j,by rw[c,b],λe=>(by cases e),λad e=>(by cases e;exact I.kp.rows _ ⟨k,T.1,T.2,d⟩)⟩
  .refine .inr ⟨g,o,j,k,T,c,f,?_,i⟩;rw[I.kp.block g (ab.1 d).1 (h.2.2 b g (by rw[c];rfl))];exact d
end Ab
open Go.RowKit
namespace Ab
def YO:ej->Bool|.struct _|.array _ _=>E|_=>H
def EK.zero:EK->Y|.bn=>.int .i64 0|.bC=>.agg #[.int .i64 0,.int .i64 0]|.bytes=>.int .u8 0|.k3=>.agg #[.int .i64 0,.int .i64 0,.int .i64 0]|.strs=>.string ⟨#[]⟩
def EK.sz:EK->Nat|.bn=>1|.bC=>2|.bytes=>1|.k3=>3|.strs=>1
def EK.b1:EK->Nat->ej->Bool|.bytes,n,d=>n==1&&(match d with|.int .u8=>E|_=>H)|_,n,_=>decide (n<=32)
def EK.zdM{P:al}{k:EK}{e:ah}{i:iC}(h:((P.info? e).bind λf=>(P.underlying e).map λd=>k.b1 f.bytes d)=C E)(c:P.info? e=C i):i.bytes<=32/\(k=.bytes->i.bytes=1/\P.underlying e=C (.int .u8)):=by rw[c,fZ]at h;have⟨d,g,h⟩:=ak.1 h;cases k with
 |bytes=>
  simp[EK.b1,aj,beq_iff_eq]at h;have⟨b,a⟩:=h;split at a;.simp_all
  .cases a|_=>exact⟨by simpa[EK.b1]using h,Y9⟩
def Ef:List (Option cZ)->List Y->List Y->Option Bool|[],[],[]=>C E|some _::a,.int k x::xs,.int d y::c=>if k=d then(Ef a xs c).map λb=>decide (x=y)&&b else U|none::a,.bool x::xs,.bool y::c=>(Ef a xs c).map λb=>(x==y)&&b|_,_,_=>U
def zuq:Option cZ->ej|some k=>.int k|none=>.bool
structure zql(P:al)(t:ah)(ks:List (Option cZ)):Prop where
 under:P.underlying t=C (.struct (P.fieldsOf t))held:P.stoodInHeld t=H
 guard:P.eqGuardType P.depth t=H
 fields:(P.fieldsOf t).toList.map (λf=>(f.name != "_",f.offset,P.underlying f.type))=ks.zipIdx.map λx=>(E,x.2,C (zuq x.1))
def zoN:ej->Bool|.int .i64=>E|_=>H
def zoO:ej->Bool|.string=>E|_=>H
def lvB:LV->Bool|.v x=>x.oneCell'|.str _=>E|_=>H
def KOk(P:al)(t:ah):TK->Prop|.leaf=>True|.bool=>P.underlying t=C .bool|.int k=>P.underlying t=C (.int k)|.struct h=>(P.underlying t).bind (λd=>match d with|.struct g=>C (g.toList.map λf=>(f.offset,(P.info? f.type).map (·.size),(P.underlying f.type).map YO))|_=>U)=C (h.map λx=>(x.1,C x.2.1,C x.2.2))/\h.all (λx=>x.2.1 !=0)=E|.arr n e a b=>P.underlying t=C (.array n e)/\(P.info? e).map (·.size)=C a/\(P.underlying e).map YO=C b|.osl e=>P.underlying t=C (.slice e)|.str=>P.underlying t=C .string|.ptr e=>P.underlying t=C (.pointer e)|.chan=>(P.underlying t).bind (λd=>match d with|.chan _ e=>(P.info? e).map λf=>decide (f.bytes<=16)|_=>U)=C E|.map H=>(P.underlying t).bind (λd=>match d with|.map k _=>(P.underlying k).map zoN|_=>U)=C E|.map E=>(P.underlying t).bind (λd=>match d with|.map k e=>(P.underlying k).bind λk=>(P.info? e).map λi=>(zoO k,i.zero)|_=>U)=C (E,C (.int .i64 0))|.slice e a c=>P.underlying t=C (.slice e)/\(P.info? e).map (λf=>(f.zero,f.size))=C (C c.zero,a)/\((P.info? e).bind λf=>(P.underlying e).map λd=>c.b1 f.bytes d)=C E/\a=c.sz
def zq4(P:al)(t:ah)(k:TK)(a:List (String×bu×Bool)):Prop:=∀m∈a,∀(n:Nat)(w:V),(m.2.2=E->(method (P.types.size+Made.depth) t (.pointer (C ⟨n,0,U⟩)) m.1).run P w=.ok (m.2.1,.pointer (C ⟨n,0,U⟩)) w)/\(m.2.2=H->∀e,k=.ptr e->(method (P.types.size+Made.depth) t (.pointer (C ⟨n,0,U⟩)) m.1).run P w=(do let r<-dx e ⟨n,0,U⟩;pure (m.2.1,r):Sem (bu×Y)).run P w)
structure IQ(P:al)(t:ah)(i:TI):Prop where
 inf:(P.info? t).map (λf=>(f.zero.map (λz=>z.cells.toList),f.size,f.bytes))=C (C i.zero,i.sz,i.bytes)agg:(P.underlying t).map YO=C i.agg
 zDm:i.zl.length=i.sz
 one:i.zl.all lvB=E
 kind:KOk P t i.kind
 eqs:∀ks,i.eqs=C ks->zql P t ks
 zyK:zq4 P t i.kind i.ms
def eV(P:al)(T:lJ):Prop:=∀t i,tyL T t=C i->IQ P t i
section
variable{P:al}{cx:Cx}{β:List En}{w:V}
variable{t:ah}
def lp{n:Nat}(h:(P.info? t).map (·.size)=C n)(w:V):(ie t).run P w=.ok n w:=by obtain⟨f,a,rfl⟩:=ak.1 h;simp[ie,dq,a]
def Ey{g:Bool}(h:(P.underlying t).map YO=C g)(w:V):(nR t).run P w=.ok g w:=by obtain⟨d,a,rfl⟩:=ak.1 h;unfold nR;rw[Sem.run_bind,aT a];cases d<;>rfl
def IQ.size{t:ah}{i:TI}(h:IQ P t i):(P.info? t).map (·.size)=C i.sz:=by have⟨f,a,e⟩:=ak.1 h.inf;simp[aX]at e;rw[a,cG,e.2.1]
variable{i:TI}
def IQ.PM(h:IQ P t i):∃z,z.cells.toList=i.zero/\∀w,(c9 t).run P w=.ok z w:=by have⟨f,a,e⟩:=ak.1 h.inf;simp only[aX]at e;have⟨z,b,c⟩:=ak.1 e.1;exact⟨z,c,λw=>by simp[c9,dq,a,b]⟩
def zi4:∀{l:List LV},l.all lvB=E->gi cx β l (l.map LV.val)|[],_=>trivial|x::l,h=>by rw[fh,aj]at h;refine⟨?_,zi4 h.2⟩;cases x with|v x=>exact⟨h.1,rfl⟩|str l=>exact⟨rfl,rfl⟩|_=>exact absurd h.1 (by simp[lvB])
def IQ.ziC(h:IQ P t i):gi cx β i.zl i.zero:=zi4 h.one
variable{K:AV->Prop}
def zct{v:Y}(h:zbU v K):∃r,K r/\AC cx β r v:=by unfold zbU at h;split at h<;>first|cases h|exact⟨_,h,rfl,rfl⟩
def cH{fr:Fr}{a:Act}{x:aU}(b:FR cx β fr a.tmps)(h:vG fr x K):∃r,K r/\AC cx β r (a.eval x):=by cases x with|tmp t=>have⟨r,c,d⟩:=oS.1 h;exact⟨r,d,b.2 t r c⟩|const v=>exact zct h|func f=>exact⟨_,h,rfl,rfl⟩|global g=>exact⟨_,h,rfl,rfl⟩
def oQ{fr:Fr}{a:Act}(f:FR cx β fr a.tmps):∀{g:List aU}{K:List AV->Prop},SP fr g K->∃rs,K rs/\IL cx β rs (g.map a.eval)|[],K,h=>⟨[],h,aA⟩|x::g,K,h=>by have⟨r,b,c⟩:=cH f h;have⟨rs,d,e⟩:=oQ f b;exact⟨r::rs,d,c,e⟩
def tt{k:cZ}{n:Int}(h:rng k n):k.wrap n=n:=by cases k<;>first|exact IntWalk.i64_in n h|exact IntWalk.u8_in n h|cases h
def K8(k:cZ)(n:Int):AC cx β (I k n) (.int k n):=⟨rfl,rfl⟩
def acB(b:Bool):AC cx β (B b) (.bool b):=⟨rfl,rfl⟩
variable{op:jN}
def zkb{k:cZ}{x y:Int}(s:zmw op=H)(h:zqM op k x y K)(t:ah):∃r,K r/\∃v,AC cx β r v/\∀w,(binOp op t (.int k x) (.int k y)).run P w=.ok v w:=by
 cases op<;>simp[zmw,Bool.true_eq_false]at s<;>simp only[zqM,aH]at h;case add=>exact⟨_,h.2,_,K8 _ _,λw=>by simp[binOp,nZ,tt h.1]⟩
 case sub=>exact⟨_,h.2,_,K8 _ _,λw=>by simp[binOp,nZ,tt h.1]⟩
 case mul=>exact⟨_,h.2,_,K8 _ _,λw=>by simp[binOp,nZ,tt h.1]⟩
 case quo=>
  rw[I0]at h;by_cases b:x<0
  .have⟨⟨g,d⟩,f⟩:=h.1 Y7;have c:¬y=0:=Y0;have e:x.tdiv y=0-(0-x)/y:=by have:=Int.neg_tdiv (a:=-x);rw[Int.neg_neg]at this;rw[this,uL Y0];simp
   exact⟨_,f,_,K8 _ _,λw=>by simp only[binOp,pQ,c,if_false,e,tt d,ne_eq,not_true_eq_false];rfl⟩
  .have h:=h.2 Y7;have c:¬y=0:=Y0;exact⟨_,h.2,_,K8 _ _,λw=>by simp[binOp,pQ,c,uL h.1.1,tt h.1.2.2]⟩
 case rem=>have c:¬y=0:=Y0;exact⟨_,h.2,_,K8 _ _,λw=>by simp[binOp,pQ,c,Int.tmod_eq_emod_of_nonneg h.1.1]⟩
 case and=>exact⟨_,h,_,K8 _ _,λw=>by simp[binOp,tD]⟩
 case or=>exact⟨_,h,_,K8 _ _,λw=>by simp[binOp,tD]⟩
 case xor=>exact⟨_,h,_,K8 _ _,λw=>by simp[binOp,tD]⟩
 case andNot=>exact⟨_,h,_,K8 _ _,λw=>by simp[binOp,tD]⟩
 case eql=>exact⟨_,h,_,acB _,λw=>by simp[binOp,pP];rfl⟩
 case neq=>exact⟨_,h,_,acB _,λw=>by simp[binOp,pP];rfl⟩
 case lss=>exact⟨_,h,_,acB _,λw=>by simp[binOp,pP]⟩
 case leq=>exact⟨_,h,_,acB _,λw=>by simp[binOp,pP]⟩
 case gtr=>exact⟨_,h,_,acB _,λw=>by simp[binOp,pP]⟩
 case geq=>exact⟨_,h,_,acB _,λw=>by simp[binOp,pP]⟩
 all_goals cases h
def znX{k k':cZ}{x y:Int}(h:shK op k x y K)(t:ah):∃r,K r/\∃v,AC cx β r v/\∀w,(binOp op t (.int k x) (.int k' y)).run P w=.ok v w:=by
 cases op<;>simp[shK,aH]at h;case shl=>have a:¬y<0:=Y0;exact⟨_,h.2,_,K8 _ _,λw=>by simp[binOp,wZ,a]⟩
 case shr=>have a:¬y<0:=Y0;exact⟨_,h.2,_,K8 _ _,λw=>by simp[binOp,wZ,a]⟩
 all_goals cases h
def zjU{k:Option cZ}{x y:LV}{u v:Y}{K:Bool->Prop}(h:eq1 k x y K)(l:LC cx β x u)(d:LC cx β y v):∃b,K b/\∀a g i c,Ef a g i=C c->Ef (k::a) (u::g) (v::i)=C (b&&c):=by
 unfold eq1 at h;split at h
 .split at h
  .obtain⟨_,rfl⟩:=l;split at h;.obtain⟨_,rfl⟩:=d;have⟨e,f⟩:=aH.1 h;subst e;exact⟨_,f,λa g i c j=>by simp[Ef,j]⟩
   .cases h
  .cases h
 .split at h
  .obtain⟨_,rfl⟩:=l;split at h
   .obtain⟨_,rfl⟩:=d;exact⟨_,h,λa g i c j=>by simp[Ef,j]⟩
   .cases h
  .cases h
def Ji:∀{k:List (Option cZ)}{g i:List LV}{u v:List Y}{K:Bool->Prop},YQ k g i K->gi cx β g u->gi cx β i v->∃b,K b/\Ef k u v=C b|[],[],[],[],[],_,h,_,_=>⟨E,h,rfl⟩|_::_,_::_,_::_,_::_,_::_,_,h,x,y=>by have⟨b,a,d⟩:=zjU h x.1 y.1;have⟨c,e,f⟩:=Ji a x.2 y.2;grind|[],[],[],_::_,_,_,_,x,_=>x.elim|[],[],[],[],_::_,_,_,_,y=>y.elim|_::_,_::_,_::_,[],_,_,_,x,_=>x.elim|_::_,_::_,_::_,_::_,[],_,_,_,y=>y.elim|[],[],_::_,_,_,_,h,_,_=>by simp[YQ]at h|[],_::_,_,_,_,_,h,_,_=>by simp[YQ]at h|_::_,[],_,_,_,_,h,_,_=>by simp[YQ]at h|_::_,_::_,[],_,_,_,h,_,_=>by simp[YQ]at h
def D2(d:Nat)(F G:Array Y):∀(e:List (Option cZ))(I:List Field)(i:Nat)(b:Bool),I.map (λf=>(f.name != "_",f.offset,P.underlying f.type))=(e.zipIdx i).map (λx=>(E,x.2,C (zuq x.1)))->Ef e (F.toList.drop i) (G.toList.drop i)=C b->∀w,(Op.eqFields (d+1) F G I).run P w=.ok b w
 |[],[],i,b,_,h,w=>by cases hu:F.toList.drop i<;>cases J:G.toList.drop i<;>rw[hu,J]at h<;>simp[Ef]at h;subst h;rfl|k::e,f::I,i,b,a,h,w=>by
  simp[cQ,xA,kM,aX]at a;have⟨⟨O,L,K⟩,M⟩:=a;have p:∀(g:Array Y)(z:Y)(rest:List Y),g.toList.drop i=z::rest->(part f.type g f.offset).run P w=.ok z w/\g.toList.drop (i+1)=rest:=by
   intro g z rest s;have t:g[i]?=C z:=by have:=congrArg (λl=>l[0]?) s;simpa using this
   refine⟨?_,by have:=congrArg List.tail s;simpa using this⟩;have q:(nR f.type).run P w=.ok H w:=by unfold nR;rw[Sem.run_bind,aT K];cases k<;>rfl
   unfold part;rw[Sem.run_bind,q,aL,L,t];rfl
  cases hu:F.toList.drop i with|nil=>rw[hu]at h;cases k<;>simp[Ef]at h|cons u j=>cases J:G.toList.drop i with |nil=>rw[hu,J]at h;cases k<;>cases u<;>simp[Ef]at h|cons v m=>
    have⟨y,Q⟩:=p F u j hu;have⟨N,R⟩:=p G v m J;rw[hu,J]at h;have fin:∀(r c:Bool),(cY (d+1) f.type u v).run P w=.ok r w->Ef e j m=C c->b=(r&&c)->(Op.eqFields (d+1) F G (f::I)).run P w=.ok b w:=by
     intro r c n o A;unfold Op.eqFields;rw[if_pos Y0,Sem.run_bind,y,aL,Sem.run_bind,N,aL,Sem.run_bind,n,aL,A];cases r;.rfl
     .simpa using D2 d F G e I (i+1) c M Y7 w
    cases k with
    |some B=>
     cases u<;>cases v<;>simp only[Ef,reduceCtorEq]at h;split at h
     .rename_i D;subst D;have⟨c,n,o⟩:=ak.1 h;exact fin _ c (run_equalIn_int w d f.type _ B _ _ K) n o.symm
     .cases h|none=>cases u<;>cases v<;>simp only[Ef,reduceCtorEq]at h;have⟨c,n,o⟩:=ak.1 h;exact fin _ c (run_equalIn_bool' w d f.type _ _ K) n o.symm
 |[],_::_,_,_,a,_,_=>by simp at a|_::_,[],_,_,a,_,_=>by simp at a
def zql.run{t:ah}{k:List (Option cZ)}(h:zql P t k){u v:Array Y}{b:Bool}(c:Ef k u.toList v.toList=C b)(w:V):(cY 10000 t (.agg u) (.agg v)).run P w=.ok b w:=by rw[run_equalIn_struct w 9999 t u v h.under h.held];exact D2 9998 u v k _ 0 b h.fields Y7 w
variable{y:aU}
def Vy{x:aU}{k c:cZ}{a b:Int}(w:V):(iS op t x y (.int k a) (.int c b)).run P w=.ok () w:=by unfold iS;split<;>rfl
def zcD{x:aU}{a b:Bool}(w:V):(iS op t x y (.bool a) (.bool b)).run P w=.ok () w:=by unfold iS;split<;>rfl
def yx{x:aU}{a b:ByteArray}(w:V):(iS op t x y (.string a) (.string b)).run P w=.ok () w:=by unfold iS;split<;>rfl
def Vz{x:aU}{a b:Option bX}(w:V):(iS op t x y (.pointer a) (.pointer b)).run P w=.ok () w:=by unfold iS;split<;>rfl
def ziW{e:ah}(k:P.underlying t=C (.pointer e))(p:Option bX)(w:V):(oO t (.pointer p) (.pointer U)).run P w=.ok p.isNone w:=by show(cY (9999+1) t (.pointer p) (.pointer U)).run P w=_;rw[cY,Sem.run_bind,aT k];cases p<;>rfl
def XD(a b:List UInt8):(a==b)=decide (a=b):=by grind
def zef(a b:List UInt8):((⟨a.toArray⟩:ByteArray)==⟨b.toArray⟩)=decide (a=b):=by show(a.toArray==b.toArray)=_;rw[<-XD];simp
def zjC{T:lJ}(G:eV P T){a b:AV}{s u:Y}{K:AV→Prop}(h:zqu T op t a b K)(F:AC cx β a s)(l:AC cx β b u)(x y:aU):∃r,K r∧∃v,AC cx β r v∧∀w,(do iS op t x y s u;binOp op t s u:Sem Y).run P w=.ok v w:=by
  unfold zqu at h;split at h
  . rename_i k B;obtain⟨_,rfl⟩:=F;split at h
    . rename_i J f;obtain⟨_,rfl⟩:=l;cases I:zmw op with|true=>simp[I]at h;have⟨r,g,v,j,o⟩:=znX (P:=P) (cx:=cx) (β:=β) (k':=J) h t;exact⟨r,g,v,j,fun w=>by rw[Sem.run_bind,Vy];exact o w⟩|false=>simp[I,aH]at h;obtain⟨rfl,h⟩:=h;have⟨r,g,v,j,o⟩:=zkb (P:=P) (cx:=cx) (β:=β) I h t;exact⟨r,g,v,j,fun w=>by rw[Sem.run_bind,Vy];exact o w⟩
    .cases h
  . rename_i B;obtain⟨_,rfl⟩:=F;split at h
    . rename_i f;obtain⟨_,rfl⟩:=l;have⟨i,D,h⟩:=dy.1 h;have e:=(G t i D).kind;split at h
      . rename_i d;rw[d]at e;have m:∀w,(oO t (.bool B) (.bool f)).run P w=.ok (B==f) w:=fun w=>by show(cY (9999+1) t (.bool B) (.bool f)).run P w=_;rw[cY,Sem.run_bind,aT e];rfl
        cases op<;>first|cases h|exact⟨_,h,_,acB _,fun w=>by rw[Sem.run_bind,zcD];simp[binOp,m]⟩
      .cases h
    .cases h
  . rename_i xs;obtain⟨L,rfl,M⟩:=F;split at h
    . rename_i Q;obtain⟨N,rfl,O⟩:=l;have⟨i,D,h⟩:=dy.1 h;cases m:i.eqs with|none=>simp[m]at h|some z=>
        simp[m]at h;have q:=((G t i D).eqs) z m;cases op<;>first|cases h|skip
        case eql=>have⟨c,g,j⟩:=Ji h M O;refine⟨_,g,_,acB _,fun w=>?_⟩;rw[Sem.run_bind,run_eqGuard_agg w _ t x y L N q.guard,aL,run_eql_struct,q.run j];rfl
        case neq=>have⟨c,g,j⟩:=Ji h M O;refine⟨_,g,_,acB _,fun w=>?_⟩;rw[Sem.run_bind,run_eqGuard_agg w _ t x y L N q.guard,aL,run_neq_struct,q.run j];rfl
    .cases h
  . rename_i B;obtain⟨_,rfl⟩:=F;split at h
    . rename_i f;obtain⟨_,rfl⟩:=l;cases op<;>first|exact h.elim|skip
      case add=>
        have⟨g,j⟩:=aH.1 h;refine⟨_,j,_,⟨rfl,rfl⟩,fun w=>?_⟩;have o:¬(9223372036854775807<((B.length:Int)+(f.length:Int))):=by unfold lH at g;omega
        have A:(⟨B.toArray⟩:ByteArray)++⟨f.toArray⟩=⟨(B++f).toArray⟩:=by apply ByteArray.ext;simp
        rw[Sem.run_bind];unfold fR;rw[yx,aL];simp only[binOp,rr];rw[if_neg (by show¬(((B.length+f.length:Nat):Int)>9223372036854775807);omega),A];rfl
      case eql=>exact⟨_,h,_,acB _,fun w=>by rw[Sem.run_bind];unfold fR;rw[yx,aL];simp[binOp,rr,XD]⟩
      case neq=>exact⟨_,h,_,acB _,fun w=>by rw[Sem.run_bind];unfold fR;rw[yx,aL];simp[binOp,rr,XD]⟩
    .cases h
  . rename_i p;obtain⟨_,rfl⟩:=F;split at h
    . obtain⟨_,rfl⟩:=l;have⟨i,D,h⟩:=dy.1 h;have e:=(G t i D).kind;split at h;. rename_i d;rw[d]at e;cases op<;>first|cases h|exact⟨_,h,_,acB _,fun w=>by rw[Sem.run_bind,Vz];simp[binOp,ziW e]⟩
      .cases h
    .cases h
  . obtain⟨_,n,_,rfl⟩:=F;split at h
    . obtain⟨_,rfl⟩:=l;have⟨i,D,h⟩:=dy.1 h;have e:=(G t i D).kind;split at h;. rename_i d;rw[d]at e;cases op<;>first|cases h|exact⟨_,h,_,acB _,fun w=>by rw[Sem.run_bind,Vz];simp[binOp,ziW e]⟩
      .cases h
    .cases h
  .cases h
def ZG(T:IQ P t i){q:List LV}{u:Array Y}{o b:Nat}{s:ah}{y:Nat×Nat}(d:w.heap[b]?=C (.cells u s y))(c:gi cx β q u.toList)(h:zbA q o i.sz i.agg K):∃r,K r/\∃v,AC cx β r v/\∀w':V,w'.heap[b]?=w.heap[b]?->(dx t ⟨b,o,U⟩).run P w'=.ok v w':=by
 have⟨f,h⟩:=sR.1 h;have⟨e,h⟩:=sW.1 h;have l:=(c.drop o).take i.sz;have m:((u.toList.drop o).take i.sz).length=i.sz:=by have:=l.length;rw[<-this];simp[da]at e⊢;omega
 have k:∀w':V,w'.heap[b]?=w.heap[b]?->∀j v,((u.toList.drop o).take i.sz)[j]?=C v->w'.cell? ((⟨b,o,U⟩:bX).add j)=C v:=by
  intro w' n j v p;have a:(⟨b,o,U⟩:bX).add j=⟨b,o+j,U⟩:=by unfold Addr.add;split<;>simp_all
  rw[a];unfold World.cell?;simp[n,d];rw[kA]at p;split at p;.simp_all
  .cases p
 cases g:i.agg with|true=>simp[g]at h;refine⟨_,h,.agg ((u.toList.drop o).take i.sz).toArray,⟨_,rfl,Y0⟩,λw' n=>?_⟩;have L:=nO (P:=P) w' ⟨b,o,U⟩ _ (k w' n);rw[m]at L;simp[dx,Ey (g▸T.agg),lp T.size,L]|false=>
  simp[g]at h;split at h
  .rename_i x z;rw[z]at l;cases hu:(u.toList.drop o).take i.sz with|nil=>rw[hu]at l;cases l|cons v A=>rw[hu]at l;refine⟨_,h,v,l.1,λw' n=>?_⟩;have:=k w' n 0 v (by rw[hu];rfl);simp[Addr.add,if_true]at this;simp[dx,Ey (g▸T.agg),load,Sem.run,this]
  .cases h
end
end Ab
open Go.RowKit
namespace Ab
def eC(g o j:Nat):(⟨g,o,U⟩:bX).add j=⟨g,o+j,U⟩:=by unfold Addr.add;split<;>simp_all
def EL.Pw(l:EL)(n:Nat):(l.take n).len=min n l.len:=by cases l<;>simp[EL.take,EL.len]
def EL.Pv(l:EL)(n:Nat):(l.drop n).len=l.len-n:=by cases l<;>simp[EL.drop,EL.len]
def EL.ze6(l:EL)(n:Nat):(l.take n).sz=l.sz:=by cases l<;>rfl
def EL.Ow(l:EL)(n:Nat):(l.drop n).sz=l.sz:=by cases l<;>rfl
def zf6(l:List (Int×Int))(n:Nat):EL.di (.bC (l.take n))=(EL.di (.bC l)).take (n*2):=by induction l generalizing n with|nil=>simp[EL.di]|cons a r i=>cases n with|zero=>simp[EL.di]|succ n=>have:=i n;simp only[EL.di]at this⊢;simp only[ib,cP,mB];rw[show n*2+2=(n*2+1)+1 from rfl];simp[this]
def zf5(l:List (Int×Int))(n:Nat):EL.di (.bC (l.drop n))=(EL.di (.bC l)).drop (n*2):=by induction l generalizing n with|nil=>simp[EL.di]|cons a r i=>cases n with|zero=>simp[EL.di]|succ n=>have:=i n;simp only[EL.di]at this⊢;simp only[sj,cP,mB];rw[show n*2+2=(n*2+1)+1 from rfl];simp[this]
def znj(l:List (Int×Int×Int))(n:Nat):EL.di (.k3 (l.take n))=(EL.di (.k3 l)).take (n*3):=by induction l generalizing n with|nil=>simp[EL.di]|cons a r i=>cases n with|zero=>simp[EL.di]|succ n=>have:=i n;simp only[EL.di]at this⊢;simp only[ib,cP,mB];rw[show n*3+3=(n*3+1+1)+1 from rfl];simp[this]
def zni(l:List (Int×Int×Int))(n:Nat):EL.di (.k3 (l.drop n))=(EL.di (.k3 l)).drop (n*3):=by induction l generalizing n with|nil=>simp[EL.di]|cons a r i=>cases n with|zero=>simp[EL.di]|succ n=>have:=i n;simp only[EL.di]at this⊢;simp only[sj,cP,mB];rw[show n*3+3=(n*3+1+1)+1 from rfl];simp[this]
def EL.ZL(l:EL)(n:Nat):(l.take n).di=l.di.take (n*l.sz):=by cases l with|bn l=>simp[EL.take,EL.di,EL.sz]|bytes l=>simp[EL.take,EL.di,EL.sz]|bC l=>exact zf6 l n|k3 l=>exact znj l n|strs l=>simp[EL.take,EL.di,EL.sz]
def EL.ZK(l:EL)(n:Nat):(l.drop n).di=l.di.drop (n*l.sz):=by cases l with|bn l=>simp[EL.drop,EL.di,EL.sz]|bytes l=>simp[EL.drop,EL.di,EL.sz]|bC l=>exact zf5 l n|k3 l=>exact zni l n|strs l=>simp[EL.drop,EL.di,EL.sz]
section
variable{P:al}{cx:Cx}{β:List En}{hp:Hp}{w:V}
def zcg(a:bX)(k:Nat):(a.add k).block=a.block:=by unfold Addr.add;split<;>rfl
variable{c i:Nat}
def CH{k:Nat}{a:Option bX}{ad:bX}(h:(if c=i then a else a.map (·.add k))=C ad):∃b,a=C b/\b.block=ad.block:=by
 split at h;.simp_all
 .obtain⟨b,d,rfl⟩:=ak.1 h;exact⟨b,d,(zcg _ _).symm⟩
def V0{l:List Y}{m k:Nat}(h:(l.take m).all tc=E)(a:k<=m):(l.take k).all tc=E:=by rw[dQ]at h⊢;intro x b;exact h x (List.take_subset_take_left l a b)
def EL.tl(l:EL):l.di.all tc=E:=by cases l<;>simp[EL.di,G5,List.all_flatMap,pk,tc,fR]
variable{h:Nat}
def Sl.sub{sz n:Nat}{a:Option bX}{x:List Y}(z:Sl w sz (.slice a n c) n x)(s:i<=h)(o:h<=n):n<=c/\Sl w sz (.slice (if c=i then a else a.map (·.add (i*sz))) (h-i) (c-i)) (h-i) ((x.drop (i*sz)).take ((h-i)*sz)):=by
 have t:((x.drop (i*sz)).take ((h-i)*sz)).length=(h-i)*sz:=by rw[da,iy,z.1,<-rj];exact dn (bk _ Y0)
 rcases z.2 with⟨rfl,D,v,b,A,r⟩|⟨g,y,v,u,T,b,p,k,l,q⟩
 .simp[bN,true_and]at b;obtain⟨rfl,rfl⟩:=b;refine⟨a7 _,t,.inl ⟨Y0,_,_,by rw[show h-i=0 by omega],λe=>?_,λad e=>?_⟩⟩
  .split at e;.omega
   .have:=A (by cases a<;>simp_all);omega
  .have⟨d,f,j⟩:=CH e;rw[<-j];exact r d f
 .simp[bN,true_and]at b;obtain⟨rfl,rfl⟩:=b;refine⟨p,t,?_⟩;by_cases m:h-i=0
  .refine .inl ⟨m,_,_,by rw[m],λe=>?_,λad e=>?_⟩;.split at e<;>cases e
   .have⟨d,f,j⟩:=CH e;cases f;rw[<-j];exact⟨u,T.1,T.2,k⟩
  .have B:¬c=i:=Y0;refine .inr ⟨g,y+i*sz,c-i,u,T,by simp[B,eC],Y0,k,?_,?_⟩
   .have f:i*sz+(h-i)*sz=h*sz:=by rw[<-fK];congr 1;omega
    have j:h*sz<=n*sz:=bk _ o;exact⟨Y0,V0 l.2 Y0⟩
   .rw[<-q,tN,List.take_take,jX];congr 1;rw[<-rj];exact(dn (bk _ Y0)).symm
def FZ.sub{n i h c:Nat}{a:Option bX}{l:EL}(f:FZ cx (.slice a n c) l)(m:n=l.len)(e:i<=h)(g:h<=n):FZ cx (.slice (if c=i then a else a.map (·.add (i*l.sz))) (h-i) (c-i)) ((l.drop i).take (h-i)):=by
 subst m;have d:((l.drop i).take (h-i)).len=h-i:=by rw[EL.Pw,EL.Pv];omega
 have s:((l.drop i).take (h-i)).sz=l.sz:=by rw[EL.ze6,EL.Ow]
 refine⟨?_,by rw[d];have:=f.2.1;omega,λj b k=>?_⟩;.rw[d,s,EL.ZL,EL.Ow,EL.ZK];exact(Sl.sub f.1 e g).2
 .rw[d]at j;apply f.2.2 Y0 b;rw[<-k];split;.cases a<;>rfl
  .cases a with|none=>rfl|some x=>simp[Value.ownBlock,Addr.Va]
variable{Q0:ah}
def tf.zvA{v n u:Nat}{a:Option bX}{x:List Y}(y:w.ownsRow u Q0 v (.slice a n c) n x)(k:i<=h)(l:h<=n):tf (.slice a n c) v i (h-i) (.slice (if c=i then a else a.map (·.add (i*v))) (h-i) (c-i)):=by
 rcases y.2 with⟨b,rfl⟩|⟨g,z,A,b,m,o,p,q,r,s⟩;.simp[bN,true_and]at b;obtain⟨rfl,rfl⟩:=b;exact⟨_,_,rfl,⟨λ_=>Y0,λad e=>Y7⟩,λh=>Y0⟩
 .simp[bN,true_and]at b;obtain⟨rfl,rfl⟩:=b;refine⟨_,_,rfl,⟨λe=>?_,λad e=>?_⟩,λt=>⟨g,n,c,rfl,?_,Y0,Y0⟩⟩;.grind
  .have⟨f,d,j⟩:=CH e;cases d;rw[<-j];rfl
  .have B:¬c=i:=Y0;simp[B,eC]
def tf.sub{v:Y}{s n t:Nat}{a:Option bX}(hp:tf v s t n (.slice a n c))(k:i<=h)(l:h<=n):tf v s (t+i) (h-i) (.slice (if c=i then a else a.map (·.add (i*s))) (h-i) (c-i)):=by
 have⟨y,m,d,z,p⟩:=hp;simp[bN,true_and]at d;obtain⟨rfl,rfl⟩:=d;refine⟨_,_,rfl,⟨λe=>?_,λad e=>?_⟩,λo=>?_⟩
 .split at e;.omega
  .simp_all
 .have⟨b,f,j⟩:=CH e;rw[<-j];simp_all
 .obtain⟨g,u,w,rfl,rfl,q,r⟩:=p Y0;have x:¬c=i:=Y0;exact⟨g,u,w,rfl,by simp[x,eC,fK],Y0,Y0⟩
def tf.sl{D v:Y}{sz n F x:Nat}{z:List Y}(hp:tf D sz i n v)(A:w.ownsRow x Q0 sz D F z)(I:i+n<=F)(L:z.all tc=E):Sl w sz v n ((z.drop (i*sz)).take (n*sz)):=by
 obtain⟨a,c,rfl,G,p⟩:=hp;have y:((z.drop (i*sz)).take (n*sz)).length=n*sz:=by rw[da,iy,A.1,<-rj];exact dn (bk _ Y0)
 refine⟨y,?_⟩;by_cases f:n=0
 .refine .inl ⟨f,a,c,by rw[f],G.1,λad e=>?_⟩;have b:=G.2 ad e;rcases A.2 with⟨h,_⟩|⟨J,B,u,h,_,d,_⟩;.rw[h]at b;cases b
  .rw[h]at b;cases b;exact⟨u,Q0,(0,0),d⟩
 .obtain⟨g,j,K,rfl,rfl,l,o⟩:=p Y0;rcases A.2 with⟨h,_⟩|⟨J,B,u,h,b,d,q,r,s,k⟩;.simp at h
  .simp[bN,ay,Addr.mk.injEq,and_true]at h;obtain⟨rfl,rfl,rfl⟩:=h;refine .inr ⟨g,i*sz,c,u,(Q0,(0,0)),rfl,l,d,?_,?_⟩
   .have m:i*sz+n*sz<=j*sz:=by rw[<-fK];exact bk _ Y0
    have t:j*sz<=K*sz:=bk _ Y0;exact⟨Y0,V0 Y7 m⟩
   .rw[<-k,tN,List.take_take,<-rj];congr 1;exact(dn (bk _ Y0)).symm
def dM{k v:Nat}{K:ah->EL->Prop}(h:vJ hp k v K):∃Q0 l,hp[k]?=C (.r v Q0 l)/\K Q0 l:=by
 have⟨x,a,h⟩:=dX.1 h;split at h;.rename_i c Q0 l;cases b:bD v c with|true=>simp[b]at h;have :=aE b;subst this;grind|false=>simp[b]at h
 .cases h
def iT(I:ki cx β hp w){k a:Nat}{l:EL}(h:hp[k]?=C (.r a Q0 l)):∃v,β[k]?=C (.r v a)/\w.ownsRow cx.w0.heap.size Q0 l.sz v l.len l.di/\l.len<=lH:=by
 have b:k<β.length:=by rw[I.len];grind
 have e:=aN b;have o:=I.Ds k _ _ h e;cases x:β[k]with|r v c=>rw[x]at o e;obtain⟨rfl,d,f⟩:=o;simp_all|_=>rw[x]at o;cases o
def F3{k a:Nat}{v v1:Y}(h:LC cx β (.s k a) v)(d:β[k]?=C (.r v1 a)):v=v1:=by have⟨_,g,c,b,f,e⟩:=h;rw[d]at b;simp[ay,En.r.injEq]at b;obtain⟨rfl,rfl⟩:=b;exact e rfl
def U8{k a s n:Nat}{v g:Y}(h:LC cx β (.w k a s i n) v)(d:β[k]?=C (.r g a)):tf g s i n v:=by have⟨_,j,c,b,f,e⟩:=h;rw[d]at b;simp[ay,En.r.injEq]at b;obtain⟨rfl,rfl⟩:=b;exact e rfl
def sS{b n s:Nat}{v:Y}{x:List Y}(h:w.ownsRow b Q0 s v n x):∃a c,v=.slice a n c:=by
 rcases h.2 with⟨rfl,rfl⟩|⟨g,d,e,rfl,_⟩;.simp_all
 .simp_all
def ye(I:ki cx β hp w){a:AV}{v:Y}{K:Nat->Prop}(g:AC cx β a v)(h:I8 hp a K):∃n,K n/\∃ad c,v=.slice ad n c:=by
 unfold I8 at h;split at h
 .have⟨a,c,e,_⟩:=g.2.1.form;simp_all
 .have⟨a,c,e,_⟩:=g.2.2.1.form;simp_all
 .have⟨Q0,l,b,h⟩:=dM h;have⟨i,d,f,_⟩:=iT I b;rw[F3 (cx:=cx) g d];exact⟨_,h,sS f⟩
 .have⟨Q0,l,b,h⟩:=dM h;have⟨i,d,f,_⟩:=iT I b;obtain⟨a,c,rfl,_⟩:=U8 (cx:=cx) g d;simp_all
 .obtain⟨_,rfl⟩:=g;simp_all
 .cases h
def Js(I:ki cx β hp w){f:EK}{a:AV}{v:Y}{K:EL->Prop}(j:AC cx β a v)(h:U4 hp f a K):∃l,K l/\Sl w l.sz v l.len l.di/\l.len<=lH:=by
 unfold U4 at h;split at h;.exact⟨_,h,j.2.sl I,j.2.2.1⟩
 .exact⟨_,h,j.2.2.sl I,j.2.2.2.1⟩
 .have⟨Q0,l,b,h⟩:=dM h;have⟨m,c,d,g⟩:=iT I b;rw[F3 (cx:=cx) j c];exact⟨_,h,nI d (EL.tl _),g⟩
 .have⟨Q0,l,b,h⟩:=dM h;have⟨m,c,d,g⟩:=iT I b;have⟨i,h⟩:=aH.1 h;have⟨k,h⟩:=aH.1 h;have hp:=U8 (cx:=cx) j c;rw[aE i]at hp;refine⟨_,h,?_,?_⟩
  .rw[EL.ze6,EL.Ow,EL.Pw,EL.Pv,EL.ZL,EL.Ow,EL.ZK,dn Y0];exact tf.sl hp d k (EL.tl _)
  .rw[EL.Pw,EL.Pv];omega
 .obtain⟨_,rfl⟩:=j;refine⟨_,h,?_⟩;cases f<;>exact⟨⟨rfl,.inl ⟨rfl,U,0,rfl,λ_=>rfl,λad e=>(by cases e)⟩⟩,a7 _⟩
 .cases h
def zhB(a:Act)(x:Option aU)(d n:Int):Prop:=match x with|none=>n=d|some y=>∃k,a.eval y=.int k n
def GR{fr:Fr}{a:Act}(f:FR cx β fr a.tmps){x:Option aU}{d:Int}{K:Int->Prop}(h:zhN fr x d K):∃n,K n/\zhB a x d n:=by cases x with|none=>exact⟨_,h,rfl⟩|some y=>
 have⟨r,b,c⟩:=cH f h;split at b;.exact⟨_,b,_,c.2⟩
 .cases b
variable{t:ah}
def Jx{e:ah}{f n:Nat}{ad:Option bX}(d:P.underlying t=C (.slice e))(p:(P.info? e).map (·.size)=C f)(A:n<=c){a:Act}{o x:Option aU}{i h:Int}(b:zhB a o 0 i)(g:zhB a x n h)(r:0<=i)(s:i<=h)(v:h<=n)(w:V):(eN t (.slice ad n c) (o.map a.eval) (x.map a.eval) U).run P w=.ok (.slice (if c=i.toNat then ad else ad.map (·.add (i.toNat*f))) (h.toNat-i.toNat) (c-i.toNat)) w:=by cases x with
 |none=>subst g;cases o with|none=>subst b;simp[eN,l7,cO,aT d,lp p]|some y=>have⟨k,q⟩:=b;simp[eN,l7,cO,aT d,q,e8,je,r,s,lp p]
 |some z=>
  have⟨B,j⟩:=g;have u:0<=h:=Y0;obtain⟨m,rfl⟩:=ee u;have l:m<=c:=Y0
  cases o with|none=>subst b;simp[eN,l7,cO,aT d,j,e8,je,l,lp p]|some y=>have⟨k,q⟩:=b;simp[eN,l7,cO,aT d,j,q,e8,je,l,lp p,r,s]
def jo{n m s:Nat}{ad:Option bX}{x:List Y}(h:Sl w s (.slice ad n c) m x):n=m:=by have⟨b,a,e,_⟩:=h.form;simp[bN]at e;exact e.2.1
def zjL(S:ki cx β hp w){fr:Fr}{a:Act}(B:FR cx β fr a.tmps){e:ah}{b:Nat}(T:P.underlying t=C (.slice e))(W:(P.info? e).map (·.size)=C b){x:AV}{v:Y}(Q:AC cx β x v){A hi:Option aU}{K:AV->Prop}(h:zt2 b x hp fr A hi K):∃r,K r/\∃u,AC cx β r u/\∀w,(eN t v (A.map a.eval) (hi.map a.eval) U).run P w=.ok u w:=by
 obtain⟨n,g1,ad,c,rfl⟩:=ye S Q h;have⟨i,g2,d⟩:=GR B g1;have⟨m,g3,f⟩:=GR B g2;have⟨⟨j,o,q⟩,I⟩:=aH.1 g3;split at I
 .rename_i l;have⟨g,M⟩:=aH.1 I;have z:=Q.2;have R:=jo z.1;have X:n<=c:=by have:=z.1;rw[<-R]at this;exact(Sl.sub this (ao _) (ao _)).1
  have hF:=FZ.sub z R (i:=i.toNat) (h:=m.toNat) Y0 Y0;rw[<-aE g]at hF;exact⟨_,M,_,⟨rfl,hF⟩,Jx T W X d f j o q⟩
 .rename_i k y;have⟨Q0,l,Z,M⟩:=dM I;have⟨g,g6⟩:=aH.1 M;have⟨v1,N,O,F⟩:=iT S Z;have hv:=F3 (cx:=cx) Q N;subst hv;have R:=jo (nI O (EL.tl _));rw[<-R,<-aE g]at O;exact⟨_,g6,_,⟨rfl,_,_,N,ao _,λ_=>tf.zvA O Y0 Y0⟩,Jx T W ((Sl.sub (nI O (EL.tl _)) (ao _) (ao _)).1) d f j o q⟩
 .rename_i k y sz i0 J;have⟨Q0,l,Z,M⟩:=dM I;have⟨g,g6⟩:=aH.1 M;have s:=aE g;subst s;have⟨v1,N,O,F⟩:=iT S Z;have hP:=U8 (cx:=cx) Q N;have⟨a',L,D,G,p⟩:=hP;simp[bN]at D;obtain⟨rfl,rfl,rfl⟩:=D;have X:n<=c:=by omega
  exact⟨_,g6,_,⟨rfl,_,_,N,ao _,λ_=>hP.sub Y0 Y0⟩,Jx T W X d f j o q⟩
 .cases I
def zjR(l:List Int)(i:Nat)(h:i<l.length):(EL.bn l).di[i]?=C (.int .i64 (l.getD i 0)):=by simp[EL.di,h,nT]
def zjQ(l:List (Int×Int)):∀(i:Nat),i<l.length->(EL.bC l).di[i*2]?=C (.int .i64 (l.getD i (0,0)).1)/\(EL.bC l).di[i*2+1]?=C (.int .i64 (l.getD i (0,0)).2):=by induction l with|nil=>intro i h;simp at h|cons a r b=>intro i h;cases i with|zero=>simp[EL.di]|succ i=>
 have:=b i Y7;simp only[EL.di]at this⊢;simp only[cP,mB,cU];constructor;.simp_all
 .simp_all
def zrr(l:List (Int×Int×Int)):∀(i:Nat),i<l.length->(EL.k3 l).di[i*3]?=C (.int .i64 (l.getD i (0,0,0)).1)/\(EL.k3 l).di[i*3+1]?=C (.int .i64 (l.getD i (0,0,0)).2.1)/\(EL.k3 l).di[i*3+2]?=C (.int .i64 (l.getD i (0,0,0)).2.2):=by induction l with|nil=>intro i h;simp at h|cons a r b=>intro i h;cases i with|zero=>simp[EL.di]|succ i=>
 have:=b i Y7;simp only[EL.di]at this⊢;simp only[cP,mB,cU];refine⟨?_,?_,?_⟩;.simp_all
 .simp_all
 .simp_all
def zeo{d:TI}(T:IQ P t d){l:EL}{n g o:Nat}{K:AV->Prop}(y:∀(j:Nat)u,l.di[j]?=C u->w.cell? ⟨g,o+j,U⟩=C u)(p:i<l.len)(h:elK l i n d.agg d.sz K):∃r,K r/\∃v,AC cx β r v/\∀w':V,w'.heap[g]?=w.heap[g]?->(dx t ⟨g,o+(i*l.sz+n),U⟩).run P w'=.ok v w':=by
 have q:∀w':V,w'.heap[g]?=w.heap[g]?->∀(j:Nat)u,l.di[j]?=C u->w'.cell? ⟨g,o+j,U⟩=C u:=λw' x j u z=>by rw[World.cell?_of_block (w:=w) (a:=⟨g,o+j,U⟩) x];simp_all
 have k:∀(j:Nat)u,l.di[j]?=C u->d.agg=H->∀w':V,w'.heap[g]?=w.heap[g]?->(dx t ⟨g,o+j,U⟩).run P w'=.ok u w':=λj u z b w' x=>by have:=q w' x j u z;simp[dx,Ey (b▸T.agg),load,Sem.run,this]
 cases l with
 |bn l=>cases b:d.agg with|true=>simp only[elK,b]at h|false=>
   simp only[elK,b]at h;split at h;.exact⟨_,h,_,K8 _ _,k _ _ (by simpa[EL.sz]using zjR l i p) b⟩
   .cases h|bytes l=>
  have c:(EL.bytes l).di[i]?=C (.int .u8 ((l.getD i 0).toNat:Int)):=by have e:i<l.length:=p;simp[EL.di,e,nT]
  cases b:d.agg with|true=>simp only[elK,b]at h|false=>
   simp only[elK,b]at h;split at h;.exact⟨_,h,_,K8 _ _,k _ _ (by simpa[EL.sz]using c) b⟩
   .cases h|bC l=>have c:=zjQ l i p;cases b:d.agg with
  |true=>
   simp only[elK,b]at h;split at h
   .split at h
    .rename_i f;refine⟨_,h,.agg #[.int .i64 (l.getD i (0,0)).1,.int .i64 (l.getD i (0,0)).2],⟨_,rfl,⟨rfl,rfl⟩,⟨rfl,rfl⟩,aA⟩,λw' x=>?_⟩;have L:=nO (P:=P) w' ⟨g,o+(i*2+0),U⟩ [.int .i64 (l.getD i (0,0)).1,.int .i64 (l.getD i (0,0)).2] (λj v m=>by rw[eC];match j with |0=>simp[bz,ay]at m;subst m;simp_all|1=>simp[ef,bz,ay]at m;subst m;grind|j+2=>simp at m);have s:=T.size;rw[f]at s;simp[aW,fN,ew]at L;simp[EL.sz,dx,Ey (b▸T.agg),lp s]at L⊢;simp[L]
    .cases h
   .cases h|false=>
   simp[elK,b]at h;split at h;.exact⟨_,h,_,K8 _ _,k _ _ (by simpa[EL.sz]using c.1) b⟩
   .exact⟨_,h,_,K8 _ _,k _ _ (by simpa[EL.sz]using c.2) b⟩
   .cases h
 |k3 l=>have c:=zrr l i p;cases b:d.agg with
  |true=>
   simp[elK,b]at h;split at h
   .split at h
    .rename_i f;refine⟨_,h,.agg #[.int .i64 (l.getD i (0,0,0)).1,.int .i64 (l.getD i (0,0,0)).2.1,.int .i64 (l.getD i (0,0,0)).2.2],⟨_,rfl,⟨rfl,rfl⟩,⟨rfl,rfl⟩,⟨rfl,rfl⟩,aA⟩,λw' x=>?_⟩;have L:=nO (P:=P) w' ⟨g,o+(i*3+0),U⟩ [.int .i64 (l.getD i (0,0,0)).1,.int .i64 (l.getD i (0,0,0)).2.1,.int .i64 (l.getD i (0,0,0)).2.2] (λj v m=>by rw[eC];match j with |0=>simp[bz,ay]at m;subst m;simp_all|1=>simp[ef,bz,ay]at m;subst m;grind|2=>simp only[ef,bz,ay]at m;subst m;grind|j+3=>simp at m);have s:=T.size;rw[f]at s;simp only[aW,fN,ew]at L;simp[EL.sz,dx,Ey (b▸T.agg),lp s]at L⊢;simp[L]
    .cases h
   .cases h|false=>
   simp only[elK,b]at h;split at h;.exact⟨_,h,_,K8 _ _,k _ _ (by simpa[EL.sz]using c.1) b⟩
   .exact⟨_,h,_,K8 _ _,k _ _ (by simpa[EL.sz]using c.2.1) b⟩
   .exact⟨_,h,_,K8 _ _,k _ _ (by simpa[EL.sz]using c.2.2) b⟩
   .cases h
 |strs l=>
  have c:(EL.strs l).di[i]?=C (fR (l.getD i [])):=by have e:i<l.length:=p;simp[EL.di,e,nT]
  cases b:d.agg with|true=>simp only[elK,b]at h|false=>
   simp only[elK,b]at h;split at h;.exact⟨_,h,_,⟨rfl,rfl⟩,k _ _ (by simpa[EL.sz]using c) b⟩
   .cases h
def zcM{b n s g:Nat}{x:List Y}(h:w.ownsRow b Q0 s (.slice (C ⟨g,0,U⟩) n c) n x):∀(j:Nat)u,x[j]?=C u->w.cell? ⟨g,0+j,U⟩=C u:=by intro j u a;have:=h.cells rfl j u a;rwa[eC]at this
def CG{e:ah}{a n:Nat}{ad:bX}(d:P.underlying t=C (.slice e))(s:(P.info? e).map (·.size)=C a){k:cZ}{i:Int}(h:0<=i)(b:i<n)(w:V):(gm t (.slice (C ad) n c) (.int k i)).run P w=.ok (.pointer (C (ad.add (i.toNat*a)))) w:=by simp[gm,aT d,je,h,b,lp s]
end
end Ab
open Go.RowKit
namespace Ab
section
variable{P:al}{cx:Cx}{β:List En}{hp:Hp}{w:V}
variable{t:ah}
def QO{a:List (Nat×Nat×Bool)}(h:KOk P t (.struct a)):∃g,P.underlying t=C (.struct g)/\g.toList.map (λf=>(f.offset,(P.info? f.type).map (·.size),(P.underlying f.type).map YO))=a.map λx=>(x.1,C x.2.1,C x.2.2):=by have⟨h,_⟩:=h;cases hu:P.underlying t with|none=>rw[hu]at h;cases h|some d=>
 rw[hu]at h;cases d<;>simp only[fZ]at h<;>first|(cases h;done)|skip
 simp_all
variable{i:Nat}
def Hz{k:List (Nat×Nat×Bool)}(h:KOk P t (.struct k)){o s:Nat}{a:Bool}(m:k[i]?=C (o,s,a)):∃g f,P.underlying t=C (.struct g)/\g[i]?=C f/\f.offset=o/\(P.info? f.type).map (·.size)=C s/\(P.underlying f.type).map YO=C a/\s≠0:=by have⟨g,c,d⟩:=QO h;have b:=congrArg (λl=>l[i]?) d;simp only[List.getElem?_map,m,cG]at b;have⟨f,j,e⟩:=ak.1 b;simp only[aX]at e;refine⟨g,f,c,Y7,e.1,e.2.1,e.2.2,?_⟩;have:=dQ.1 h.2 _ (List.mem_of_getElem? m);simpa using this
def Jw{n:List (Nat×Nat×Bool)}(h:KOk P t (.struct n)){o s:Nat}{a:Bool}(p:n[i]?=C (o,s,a))(g m:Nat)(w:V):(kX t (.pointer (C ⟨g,m,U⟩)) i).run P w=.ok (.pointer (C ⟨g,m+o,U⟩)) w:=by have⟨k,f,b,c,d,e,l,j⟩:=Hz h p;simp[kX,aT b,c,cC,fieldPlace,lp e,j,eC]
def ZH{n:Nat}{g:Bool}(b:(P.underlying t).map YO=C g)(s:(P.info? t).map (·.size)=C n){i:List LV}{u:Array Y}{o:Nat}{K:AV->Prop}(c:gi cx β i u.toList)(h:zbA i o n g K):∃r,K r/\∃v,AC cx β r v/\∀w,(part t u o).run P w=.ok v w:=by
 have⟨e,h⟩:=sR.1 h;have⟨f,h⟩:=sW.1 h;have a:=(c.drop o).take n
 cases g with|true=>
  refine⟨_,h,.agg (u.extract o (o+n)),⟨_,rfl,?_⟩,λw=>?_⟩;.simp_all
  .simp[part,Ey b,lp s]|false=>
  dsimp only at h;split at h
  .rename_i x j;rw[j]at a;cases hu:(u.toList.drop o).take n with|nil=>rw[hu]at a;cases a|cons v k=>
   rw[hu]at a;refine⟨_,h,v,a.1,λw=>?_⟩;have d:u[o]?=C v:=by
    have:=congrArg (λl=>l[0]?) hu;simp only[bz,kA,iO,dA]at this;split at this;.simp_all
    .cases this
   simp[part,Ey b,d]
  .cases h
def QC:∀(l:List Field)(j:List (Nat×Nat×Bool))(i:Array (Nat×Nat)),l.map (fun f=>(f.offset,(P.info? f.type).map (·.size),(P.underlying f.type).map YO))=j.map (fun x=>(x.1,C x.2.1,C x.2.2))→∀w:V,(l.foldlM (fun(b:Array (Nat×Nat))(f:Field)=>Functor.map b.push (do pure (f.offset,←ie f.type):Sem (Nat×Nat))) i).run P w=.ok (i++(j.map fun x=>(x.1,x.2.1)).toArray) w|[],[],i,_,w=>Y1|f::l,x::j,i,h,w=>by simp only[cQ,kM,aX]at h;have⟨⟨a,d,g⟩,e⟩:=h;rw[fY];change Sem.run P (((do pure (f.offset,←ie f.type):Sem (Nat×Nat))>>=fun c=>pure (i.push c))>>=fun b=>l.foldlM _ b) w=_;simp only[Sem.run_bind,lp d,aL,Sem.run_pure,a,QC l j (i.push (x.1,x.2.1)) e w];congr 1;simp|[],_::_,_,h,_=>by simp at h|_::_,[],_,h,_=>by simp at h
def GI:∀(a:List Y)(cells:Array Y)(o j:Nat),o+j+a.length<=cells.size->((a.zipIdx j).foldl (λc(x:Y×Nat)=>c.setIfInBounds (o+x.2) x.1) cells).toList=cells.toList.take (o+j)++a++cells.toList.drop (o+j+a.length)|[],cells,o,j,_=>Y1|v::a,cells,o,j,h=>by simp[aW]at h;simp[xA,List.foldl_cons];rw[GI a _ o (j+1) (by simp;omega)];simp[Array.toList_setIfInBounds];rw[<-gq];simpa[gq,yl 1]using list_seg_step cells.toList (o+j) v a (by simp;omega)
def Vt{fr:Fr}{a:Act}(q:FR cx β fr a.tmps){L:List (Nat×Nat×Bool)}:∀(parts:List (Nat×aU))(D:List LV)(G:Array Y)(K:List LV->Prop),gi cx β D G.toList->zdO fr L parts D K->∃f,K f/\∃F,gi cx β f F.toList/\ep ((L.map λx=>(x.1,x.2.1)).toArray[.]?) G (parts.map λx=>(x.1,a.eval x.2))=C F
 |[],D,G,K,J,h=>⟨D,h,G,J,rfl⟩|(i,x)::parts,D,G,K,J,h=>by
  have⟨o,s,g,u,v⟩:=Pp.1 h;have⟨r,d,t⟩:=cH q v;have c:∃I,OJ I s (Ai D o I λf=>zdO fr L parts f K)/\gi cx β I (a.eval x).cells.toList:=by
   unfold xU at d;split at d
   .refine⟨_,d,?_⟩;have b:=t;have j:(a.eval x).cells=#[a.eval x]:=by have:=b.1;cases M:a.eval x<;>first|rfl|(rw[M]at this;cases this)
    rw[j];exact⟨b,aA⟩
   .have⟨F,e,b⟩:=t;exact⟨_,d,by rw[e];exact b⟩
   .cases d
  have⟨I,b,j⟩:=c;have⟨A,w⟩:=AH.1 b;have⟨B,k⟩:=Jv.1 w;have y:I.length=(a.eval x).cells.size:=by rw[j.length];simp
  have z:G.size=D.length:=by rw[J.length];simp
  have n:gi cx β (D.take o++I++D.drop (o+I.length)) ((a.eval x).cells.zipIdx.foldl (λD(x:Y×Nat)=>D.setIfInBounds (o+x.2) x.1) G).toList:=by rw[<-iJ,ia,GI (a.eval x).cells.toList G o 0 (by simp;omega)];simp only[dA,cv];rw[<-y];exact gi.append (gi.append (J.take o) j) (J.drop _)
  have⟨f,l,F,m,p⟩:=Vt q parts _ _ K n k;refine⟨f,l,F,m,?_⟩;simp only[cQ,ep];have hp:(L.map λx=>(x.1,x.2.1)).toArray[i]?=C (o,s):=by simp[u]
  rw[hp];simp only;rw[if_neg (by simp;omega)];exact p
def Qi{fr:Fr}{a:Act}(o:FR cx β fr a.tmps){b:Nat}:∀(parts:List (Nat×aU))(y:List LV)(A:Array Y)(K:List LV->Prop),gi cx β y A.toList->WQ fr b parts y K->∃s,K s/\∃z,gi cx β s z.toList/\ep (λi=>C (i*b,b)) A (parts.map λx=>(x.1,a.eval x.2))=C z
 |[],y,A,K,D,h=>⟨y,h,A,D,rfl⟩|(i,x)::parts,y,A,K,D,h=>by
  have⟨r,f,p⟩:=cH o h;have c:∃B,OJ B b (Ai y (i*b) B λs=>WQ fr b parts s K)/\gi cx β B (a.eval x).cells.toList:=by
   unfold xU at f;split at f
   .refine⟨_,f,?_⟩;have d:=p;have g:(a.eval x).cells=#[a.eval x]:=by have:=d.1;cases F:a.eval x<;>first|rfl|(rw[F]at this;cases this)
    rw[g];exact⟨d,aA⟩
   .have⟨z,e,d⟩:=p;exact⟨_,f,by rw[e];exact d⟩
   .cases f
  have⟨B,d,g⟩:=c;have⟨v,q⟩:=AH.1 d;have⟨w,j⟩:=Jv.1 q;have t:B.length=(a.eval x).cells.size:=by rw[g.length];simp
  have u:A.size=y.length:=by rw[D.length];simp
  have n:gi cx β (y.take (i*b)++B++y.drop (i*b+B.length)) ((a.eval x).cells.zipIdx.foldl (λy(x:Y×Nat)=>y.setIfInBounds (i*b+x.2) x.1) A).toList:=by rw[<-iJ,ia,GI (a.eval x).cells.toList A (i*b) 0 (by simp;omega)];simp only[dA,cv];rw[<-t];exact gi.append (gi.append (D.take (i*b)) g) (D.drop _)
  have⟨s,k,z,l,m⟩:=Qi o parts _ _ K n j;refine⟨s,k,z,l,?_⟩;simp only[cQ,ep];rw[if_neg (by simp;omega)];exact m
def zcX(u:P.underlying t=C .string){s:List UInt8}{a:Act}{l r:Option aU}{i h:Int}(b:zhB a l 0 i)(c:zhB a r s.length h)(n:0<=i)(o:i<=h)(q:h<=s.length)(w:V):(eN t (fR s) (l.map a.eval) (r.map a.eval) U).run P w=.ok (fR ((s.drop i.toNat).take (h.toNat-i.toNat))) w:=by
 have g:(⟨s.toArray⟩:ByteArray).size=s.length:=rfl;have p:∀w:V,(cO H s.length s.length (l.map a.eval) (r.map a.eval) U).run P w=.ok (i.toNat,h.toNat,s.length) w:=λw=>by cases r with
  |none=>have e:=c;subst e;cases l with |none=>subst b;simp[cO]|some y=>have⟨k,j⟩:=b;simp[cO,j,e8,je,n,o]
  |some z=>have⟨v,d⟩:=c;obtain⟨m,rfl⟩:=ee (show 0<=h by omega);have f:m<=s.length:=Y0;cases l with|none=>subst b;simp[cO,d,e8,je,f]|some y=>have⟨k,j⟩:=b;simp[cO,d,j,e8,je,f,n,o]
 unfold eN;rw[Sem.run_bind,aT u,aL];unfold l7 fR;rw[Sem.run_bind,aT u,aL];simp[Option.isSome,bt,if_false,g];simp[Sem.run_bind,Sem.run_pure,aL,p,Lib.extract_eq]
def Sm(cx:Cx)(β:List En)(hp:Hp)(W:Option (Nat×List Nat))(w c:V):Prop:=match W with|none=>c=w|some (n,a)=>∀b,((∃k,k<n/\k∉a/\cN hp β k=C b)\/(b<cx.w0.heap.size/\b∉cx.M))->c.heap[b]?=w.heap[b]?
variable{W:Option (Nat×List Nat)}
def GO{k b:Nat}(m:Er W k=E)(o:cN hp β k=C b){c:V}(s:Sm cx β hp W w c):c.heap[b]?=w.heap[b]?:=by cases W with|none=>have :=s;rw[this]|some W=>have⟨n,a⟩:=W;simp[Er,aj,Bool.not_eq_true']at m;refine s b (.inl ⟨k,Y0,λh=>?_,o⟩);rw[AI.2 h]at m;cases m.2
def znb{b:Nat}(h:b<cx.w0.heap.size)(a:b∉cx.M){c:V}(s:Sm cx β hp W w c):c.heap[b]?=w.heap[b]?:=by cases W with|none=>have :=s;rw[this]|some W=>exact s b (.inr ⟨h,a⟩)
def pA{s:Sem Y}{v:Y}{w:V}(h:s.run P w=.ok v w):(do pure (dU (←s)):Sem s3).run P w=.ok (.value v) w:=by simp[h]
def zib{k a s o:Nat}{v l:Y}(h:LC cx β (.e k a s i o) v)(d:β[k]?=C (.r l a)):∃g n m,l=.slice (C ⟨g,0,U⟩) n m/\v=.pointer (C ⟨g,i*s+o,U⟩):=by have⟨_,p,c,b,j,f⟩:=h;rw[d]at b;simp[ay,En.r.injEq]at b;obtain⟨rfl,rfl⟩:=b;exact f rfl
def PV:∀{e:List (LV⊕List LV)}{f:List Y}{i:Nat}{K:AV->Prop},Wd cx β e f->zq3 e i K->∃r,K r/\∃v,AC cx β r v/\f[i]?=C v|[],_,_,_,_,h=>h.elim|.inl x::e,v::f,0,K,d,h=>⟨_,h,v,d.1,rfl⟩|.inr cs::e,v::f,0,K,d,h=>⟨_,h,v,d.1,rfl⟩|.inl x::e,v::f,i+1,K,d,h=>by have⟨r,a,u,b,c⟩:=PV d.2 h;grind|.inr x::e,v::f,i+1,K,d,h=>by have⟨r,a,u,b,c⟩:=PV d.2 h;grind|.inl _::_,[],_,_,d,_=>d.elim|.inr _::_,[],_,_,d,_=>d.elim
def HA{f:List (Nat×Nat×Bool)}(h:KOk P t (.struct f)):∃g,P.underlying t=C (.struct g):=by
 have⟨b,_⟩:=h;have⟨d,c,a⟩:=bH.1 b;split at a;.simp_all
 .cases a
def JG:∀{cs:List LV}{K:List Y->Prop},zd7 cs K->∃u,K u/\∀c,gi cx β cs c->c=u
 |[],K,h=>⟨[],h,λc d=>by cases c with|nil=>rfl|cons _ _=>cases d⟩|.v x::r,K,h=>by have⟨u,a,b⟩:=JG (cs:=r) h;refine⟨x::u,a,λc d=>?_⟩;cases c with|nil=>cases d|cons v c=>rw[(d.1.2),b c d.2]
 |.str x::r,K,h=>by have⟨u,a,b⟩:=JG (cs:=r) h;refine⟨fR x::u,a,λc d=>?_⟩;cases c with |nil=>cases d|cons v c=>rw[(d.1.2),b c d.2]
 |.p _ _::_,_,h=>h.elim|.s _ _::_,_,h=>h.elim|.w _ _ _ _ _::_,_,h=>h.elim|.f _::_,_,h=>h.elim|.fx _ _::_,_,h=>h.elim|.e _ _ _ _ _::_,_,h=>h.elim|.g _ _ _::_,_,h=>h.elim|.o _ _::_,_,h=>h.elim|.m _::_,_,h=>h.elim|.j::_,_,h=>h.elim
def Hr(n:Int):∀(g:List eB)(l:List (Int×Y))(i:Nat),g.map (λe=>(e.key,e.val))=l.map (λx=>(cL .i64 x.1,x.2))->∃j,fg (.int .i64) (.int .i64 n) g i=C ((Ws l n).map λv=>(j,v))
 |[],[],i,_=>⟨0,rfl⟩|e::g,(k,v)::l,i,h=>by
  simp[cQ,kM,aX]at h;have⟨⟨c,d⟩,f⟩:=h;have⟨j,m⟩:=Hr n g l (i+1) f;by_cases a:k=n;.subst a;exact⟨i,by simp[fg,jF,c,d,Ws]⟩
  .have b:(n==k)=H:=Y8;exact⟨j,by simp[fg,jF,c,Ws,a,b,m]⟩|[],_::_,_,h=>by simp at h|_::_,[],_,h=>by simp at h
def VD(h:KOk P t (.map H)):∃k e,P.underlying t=C (.map k e)/\P.underlying k=C (.int .i64):=by
 have⟨d,f,a⟩:=bH.1 h;split at a
 .rename_i k e;have⟨d2,b,c⟩:=ak.1 a;unfold zoN at c;split at c;.simp_all
  .cases c
 .cases a
def zeO{k:ah}(h:P.underlying k=C (.int .i64))(n:Int)(e:Bool)(w:V):(iH e 10000 k (.int .i64 n)).run P w=.ok () w:=by unfold iH;simp[aT h]
def zaq{k:ah}(h:P.underlying k=C (.int .i64)){n:Int}{b:Array eB}{c:List (Int×Y)}(a:b.toList.map (λe=>(e.key,e.val))=c.map λx=>(cL .i64 x.1,x.2))(w:V):∃j,(jD k (.int .i64 n) b.toList).run P w=.ok ((Ws c n).map λv=>(j,v)) w:=by have⟨j,d⟩:=Hr n b.toList c 0 a;refine⟨j,?_⟩;unfold jD;rw[Sem.run_bind,aT h,aL,d];rfl
def zkZ(h:KOk P t (.map H)){w:V}{b:Nat}{o:Obj}{m:List (Int×Y)}(c:w.heap[b]?=C o)(q:zbG m o){n:Int}{v:Y}(g:Ws m n=C v):(my t (.map (C b)) (.int .i64 n) H).run P w=.ok v w:=by obtain⟨i,l,rfl,d⟩:=q;have⟨k,e,f,a⟩:=VD h;have⟨j,p⟩:=zaq a (n:=n) d w;rw[g]at p;simp[my,aT f,ik c,zeO a,p]
def Qj(n:List UInt8):∀(g:List eB)(l:List (List UInt8×Int))(i:Nat),g.map (λe=>(e.key,e.val))=l.map (λx=>(fR x.1,cL .i64 x.2))->∃j,fg .string (fR n) g i=C ((MB l n).map λv=>(j,.int .i64 v))
 |[],[],i,_=>⟨0,rfl⟩|e::g,(k,v)::l,i,h=>by
  simp[cQ,kM,aX]at h;have⟨⟨c,d⟩,f⟩:=h;have⟨j,m⟩:=Qj n g l (i+1) f;by_cases a:k=n;.subst a;exact⟨i,by simp[fg,jF,c,d,MB,fR,zef]⟩
  .have b:((⟨n.toArray⟩:ByteArray)==⟨k.toArray⟩)=H:=by rw[zef];simpa usingλe:n=k=>a e.symm
   exact⟨j,by simp[fR]at m;simp[fg,jF,c,MB,a,b,m,fR]⟩|[],_::_,_,h=>by simp at h|_::_,[],_,h=>by simp at h
def Qt(h:KOk P t (.map E)):∃k e,P.underlying t=C (.map k e)/\P.underlying k=C .string/\∀w,(c9 e).run P w=.ok (.int .i64 0) w:=by
 have⟨d,g,a⟩:=bH.1 h;split at a
 .rename_i k e;have⟨d2,b,f⟩:=bH.1 a;have⟨i,j,c⟩:=ak.1 f;simp[aX]at c;refine⟨k,e,g,?_,λw=>by simp[c9,dq,j,c.2]⟩;have:=c.1;unfold zoO at this;split at this;.exact b
  .cases this
 .cases a
def PL{k:ah}(h:P.underlying k=C .string)(v:Y)(e:Bool)(w:V):(iH e 10000 k v).run P w=.ok () w:=by unfold iH;simp[aT h]
def VO{k:ah}(h:P.underlying k=C .string){n:List UInt8}{b:Array eB}{c:List (List UInt8×Int)}(a:b.toList.map (λe=>(e.key,e.val))=c.map λx=>(fR x.1,cL .i64 x.2))(w:V):∃j,(jD k (fR n) b.toList).run P w=.ok ((MB c n).map λv=>(j,.int .i64 v)) w:=by have⟨j,d⟩:=Qj n b.toList c 0 a;refine⟨j,?_⟩;unfold jD;rw[Sem.run_bind,aT h,aL,d];rfl
def zgx(h:KOk P t (.map E)){w:V}{b:Nat}{o:Obj}{q:List (List UInt8×Int)}(c:w.heap[b]?=C o)(r:zbH q o)(n:List UInt8):(my t (.map (C b)) (fR n) H).run P w=.ok (.int .i64 ((MB q n).getD 0)) w:=by
 obtain⟨i,l,rfl,f⟩:=r;have⟨k,e,d,a,g⟩:=Qt h;have⟨j,p⟩:=VO a (n:=n) f w
 cases m:MB q n with|none=>rw[m]at p;simp[my,aT d,ik c,PL a,p,g]|some v=>rw[m]at p;simp[my,aT d,ik c,PL a,p]
def zkX(h:KOk P t (.map E)){w:V}{b:Nat}{o:Obj}{q:List (List UInt8×Int)}(a:w.heap[b]?=C o)(s:zbH q o){n:List UInt8}{v:Int}(i:MB q n=U):∃c,zbH (q++[(n,v)]) c/\(fL t (.map (C b)) (fR n) (.int .i64 v)).run P w=.ok () {w with heap:=w.heap.setIfInBounds b c}:=by obtain⟨l,d,rfl,f⟩:=s;have⟨k,e,m,g,p⟩:=Qt h;have⟨j,r⟩:=VO g (n:=n) f w;rw[i]at r;refine⟨.map (l.push {key:=fR n,val:=.int .i64 v,born:=d}) (d+1),⟨_,_,rfl,by simp[f]⟩,?_⟩;simp[fL,aT m,ik a,PL g,r,yS _ a]
def VC:∀{e:List (List UInt8×Int)}{n:List UInt8}{K:AV->Prop},zio e n K->K (I .i64 ((MB e n).getD 0))
 |[],_,_,h=>h|(k,v)::r,n,K,h=>by
  have⟨b,c⟩:=I0.1 h;by_cases a:k=n;.simpa[MB,a]using b Y7
  .simpa[MB,a]using VC (c Y7)
def znI(h:KOk P t (.map H)){w:V}{b:Nat}{o:Obj}{p:List (Int×Y)}(a:w.heap[b]?=C o)(r:zbG p o){n:Int}{v:Y}(i:Ws p n=U):∃c,zbG (p++[(n,v)]) c/\(fL t (.map (C b)) (.int .i64 n) v).run P w=.ok () {w with heap:=w.heap.setIfInBounds b c}:=by obtain⟨l,d,rfl,f⟩:=r;have⟨k,e,m,g⟩:=VD h;have⟨j,q⟩:=zaq g (n:=n) f w;rw[i]at q;refine⟨.map (l.push {key:=.int .i64 n,val:=v,born:=d}) (d+1),⟨_,_,rfl,by simp[f]⟩,?_⟩;simp[fL,aT m,ik a,zeO g,q,yS _ a]
def JB{T:lJ}(hT:eV P T){fr:Fr}{a:Act}{o:bU}{K:AV->Prop}(hI:ki cx β hp w)(J:FR cx β fr a.tmps)(h:O2 T W fr hp o.op K):∃r,K r/\∃v,AC cx β r v/\∀w',Sm cx β hp W w w'->(aG a.eval o).run P w'=.ok (.value v) w':=by
 have⟨dst,op,ty,pos,after,guard⟩:=o;cases op<;>first|cases h|skip
 case move x=>have⟨r,p,q⟩:=cH J h;exact⟨r,p,_,q,λw' _=>rfl⟩
 case assign x=>have⟨r,p,q⟩:=cH J h;exact⟨r,p,_,q,λw' _=>rfl⟩
 case pick c x y=>
  have⟨r,p,q⟩:=cH J h;split at p
  .rename_i t;have⟨_,hc⟩:=q;rw[zbR]at p;cases t with|true=>have⟨r,B,A⟩:=cH J p;exact⟨r,B,_,A,λw' _=>by simp[aG,hc,asBool]⟩|false=>have⟨r,B,A⟩:=cH J p;exact⟨r,B,_,A,λw' _=>by simp[aG,hc,asBool]⟩
  .cases p
 case binOp op t x y yt=>have⟨Z,p,q⟩:=cH J h;have⟨rb,B,A⟩:=cH J p;have⟨r,F,v,D,R⟩:=zjC hT B q A x y;exact⟨r,F,v,D,λw' _=>pA (R w')⟩
 case unOp op t x=>
  have⟨Z,p,q⟩:=cH J h;cases op<;>first|cases p|skip
  case neg=>
   dsimp only at p;split at p;.have⟨_,Q1⟩:=q;have⟨B,A⟩:=aH.1 p;exact⟨_,A,_,K8 _ _,λw' _=>pA (by rw[Q1];simp only[Ax,nZ,tt B];rfl)⟩
   .cases p
  case not=>
   dsimp only at p;split at p
   .have⟨_,Q1⟩:=q;exact⟨_,p,_,acB _,λw' _=>by simp[aG,Q1,Ax]⟩
   .cases p
 case convert s d x=>
  have⟨Z,h0,q⟩:=cH J h;have⟨si,hs0,p⟩:=dy.1 h0;split at p
  .have⟨_,Q1⟩:=q;have⟨M,B,A⟩:=dy.1 p;split at A
   .rename_i k G;have⟨F,D⟩:=aH.1 A;have hu:=(hT d M B).kind;rw[G]at hu;refine⟨_,D,_,K8 _ _,λw' _=>pA ?_⟩;rw[Q1];have hs:∃ds,P.underlying s=C ds:=by cases hq:P.underlying s with|none=>have:=(hT s _ hs0).agg;rw[hq]at this;cases this|some ds=>exact⟨ds,rfl⟩
    have⟨ds,hds⟩:=hs;unfold convert;rw[Sem.run_bind,aT hds,aL,Sem.run_bind,aT hu,aL];cases ds<;>simp[Conv.intToInt,tt F]
   .cases A
  .cases p
 case extract x i=>
  have⟨Z,p,q⟩:=cH J h;split at p
  .rename_i xs;have⟨vs,Q1,hc⟩:=q;have⟨r,B,v,A,F⟩:=PV hc p;refine⟨r,B,v,A,λw' _=>pA ?_⟩;have D:vs[i]?=C v:=by simpa using F
   rw[Q1];simp[kW,D]
  .cases p
 case lookup t x i ok=>cases ok with|true=>cases h|false=>
   have⟨Z,p,q⟩:=cH J h;have⟨rb,B,A⟩:=cH J p;split at B
   .rename_i k;split at B
    .rename_i n;have⟨M,F,D⟩:=dy.1 B;have j:=(hT t M F).kind;split at D
     .rename_i G;rw[G]at j;have⟨hm,R⟩:=aH.1 D;have⟨hb0,L,N⟩:=dX.1 R;split at N
      .rename_i Φ;have⟨es,v,g1,g2,g3,g4⟩:=N;have⟨_,b,Q2,Q1⟩:=q;have⟨_,hi⟩:=A;obtain⟨_,ob,hob,hΦ⟩:=hI.Ds k _ _ L Q2;refine⟨_,g4,v,⟨g3,rfl⟩,λw' hs=>pA ?_⟩;have hw:=GO hm (show cN hp β k=C b by rw[dK L Q2];rfl) hs;rw[Q1,hi];exact zkZ j (hw.trans hob) (g1 _ hΦ) g2
      .cases N
     .cases D
    .rename_i n;have⟨M,F,D⟩:=dy.1 B;have j:=(hT t M F).kind;split at D
     .rename_i G;rw[G]at j;have⟨hm,R⟩:=aH.1 D;have⟨hb0,L,N⟩:=dX.1 R;split at N
      .have⟨es,g1,g2⟩:=N;have⟨_,b,Q2,Q1⟩:=q;have⟨_,hi⟩:=A;obtain⟨_,ob,hob,hΦ⟩:=hI.Ds k _ _ L Q2;refine⟨_,VC g2,_,K8 _ _,λw' hs=>pA ?_⟩;have hw:=GO hm (show cN hp β k=C b by rw[dK L Q2];rfl) hs;rw[Q1,hi];exact zgx j (hw.trans hob) (g1 _ hΦ) n
      .cases N
     .cases D
    .cases B
   .cases B
 case nilCheck x=>
  have⟨Z,p,q⟩:=cH J h;split at p
  .have⟨n,_,Q1⟩:=(q.2);exact⟨_,p,_,q,λw' _=>by simp[aG,Q1]⟩
  .cases p
 case makeInterface t x=>
  have⟨Z,h0,q⟩:=cH J h;have⟨M,ht,p⟩:=dy.1 h0;have Q3:=(hT t M ht).kind;split at p
  .rename_i k;split at p
   .rename_i e G;rw[G]at Q3;have⟨_,n,hn,Q1⟩:=q;exact⟨_,p,_,⟨rfl,n,hn,rfl⟩,λw' _=>pA (by rw[Q1];simp[jM,aT Q3])⟩
   .cases p
  .rename_i cs;split at p
   .rename_i fs G;have⟨vs,Q1,hc⟩:=q;have⟨us,B,A⟩:=JG (cx:=cx) (β:=β) p;have hvs:vs=us.toArray:=bj.1 (by rw[A _ hc]);have j:=Q3;rw[G]at j;have⟨g',hu⟩:=HA j;exact⟨_,B,_,⟨rfl,rfl⟩,λw' _=>pA (by rw[Q1,hvs];simp[jM,aT hu])⟩
   .cases p
  .cases p
 case typeAssert x xt t ok=>
  cases ok;case true=>cases h
  have⟨Z,h0,q⟩:=cH J h;have⟨M,ht,p⟩:=dy.1 h0;have Q3:=(hT t M ht).kind;split at p
  .rename_i t' us;split at p
   .rename_i fs G;have⟨B,A⟩:=aH.1 p;have⟨F,D⟩:=aH.1 A;have e:=aE B;subst e;rw[G]at Q3;have⟨g',hu⟩:=HA Q3;have⟨_,Q1⟩:=q;refine⟨_,D,.agg us,⟨us,rfl,gi.WJ λv hv=>dQ.1 F v hv⟩,λw' _=>pA ?_⟩;rw[Q1];simp[Instr.typeAssert,aT hu]
   .cases p
  .cases p
 case build t parts=>
  have⟨M,p,q⟩:=dy.1 h;have Q3:=hT t M p;split at q
  .rename_i fs G;have j:=Q3.kind;rw[G]at j;have⟨g,hg,hfl⟩:=QO j;have⟨z,S,hrz⟩:=Q3.PM;have hz0:gi cx β M.zl z.cells.toList:=by rw[S];exact Q3.ziC
   have⟨cs',B,us',A,F⟩:=Vt J parts.toList _ z.cells _ hz0 q;refine⟨_,B,.agg us',⟨us',rfl,A⟩,λw' _=>pA ?_⟩;unfold jj;rw[Sem.run_bind,hrz,aL,Sem.run_bind,aT hg,aL];rw[Sem.run_bind,e9,<-fC,QC (P:=P) g.toList fs #[] hfl w',aL];simp only[Array.empty_append,mD,F];rfl
  .rename_i m e Ce eg G;have j:=Q3.kind;rw[G]at j;have⟨hu,hes,_⟩:=j;have⟨z,S,hrz⟩:=Q3.PM;have hz0:gi cx β M.zl z.cells.toList:=by rw[S];exact Q3.ziC
   have⟨cs',B,us',A,F⟩:=Qi J parts.toList _ z.cells _ hz0 q;refine⟨_,B,.agg us',⟨us',rfl,A⟩,λw' _=>pA ?_⟩;unfold jj;rw[Sem.run_bind,hrz,aL,Sem.run_bind,aT hu,aL];rw[Sem.run_bind,lp hes,aL];simp only[mD,F];rfl
  .cases q
 case field t x f=>
  have⟨Z,p,q⟩:=cH J h;split at p
  .have⟨M,B,A⟩:=dy.1 p;split at A
   .rename_i fs G;have j:=(hT t M B).kind;rw[G]at j;have⟨o,s,g,F,D⟩:=Pp.1 A;have⟨fl,fd,e1,e2,e3,e4,e5,_⟩:=Hz j F;have⟨us,Q1,hc⟩:=q;have⟨r,R,v,L,N⟩:=ZH e5 e4 hc D;refine⟨r,R,v,L,λw' _=>pA ?_⟩;rw[Q1];unfold AP;rw[Sem.run_bind,aT e1,aL];simp[e2,e3,asAgg,N]
   .cases A
  .cases p
 case fieldAddr t x f=>
  have⟨Z,p,q⟩:=cH J h;have⟨M,B,A⟩:=dy.1 p;split at A
  .rename_i fs G;have j:=(hT t M B).kind;rw[G]at j;have⟨o,s,g,F,D⟩:=Pp.1 A;split at D
   .have⟨_,n,hn,Q1⟩:=q;exact⟨_,D,_,⟨rfl,n,hn,rfl⟩,λw' _=>pA (by rw[Q1];exact Jw j F _ _ w')⟩
   .rename_i k ver sz i off;have⟨Q0,l,hr,R⟩:=dM D;have⟨v1,r2,r3,r4⟩:=iT hI hr;have⟨g1,n1,c1,hv,Q1⟩:=zib (cx:=cx) q r2;exact⟨_,R,_,⟨rfl,v1,ver,r2,ao _,λ_=>⟨g1,n1,c1,hv,rfl⟩⟩,λw' _=>pA (by rw[Q1];have:=Jw j F g1 (i*sz+off) w';simpa[gq]using this)⟩
   .rename_i l i off;have⟨_,v1,g1,o1,n,c,S,hv,Q1⟩:=q;exact⟨_,D,_,⟨rfl,v1,g1,o1,n,c,S,hv,rfl⟩,λw' _=>pA (by rw[Q1];have:=Jw j F g1 (o1+(i*l.sz+off)) w';simpa[gq]using this)⟩
   .cases D
  .cases A
 case slice t x lo hi mx=>cases mx with|some m=>cases h|none=>
   have⟨Z,p,q⟩:=cH J h;have⟨M,B,A⟩:=dy.1 p;split at A
   .rename_i e Ce ek G;have j:=(hT t M B).kind;rw[G]at j;have⟨k1,k2,k3,k4⟩:=j;have hs:(P.info? e).map (·.size)=C Ce:=by have⟨f,hf1,e1⟩:=ak.1 k2;simp[aX]at e1;rw[hf1,cG,e1.2]
    have⟨r,F,v,D,R⟩:=zjL (P:=P) hI J k1 hs q A;exact⟨r,F,v,D,λw' _=>pA (R w')⟩
   .rename_i G;have j:=(hT t M B).kind;rw[G]at j;split at A
    .rename_i s;have⟨i,g2,hi0⟩:=GR J A;have⟨m,g3,hm0⟩:=GR J g2;have⟨⟨F,D,R⟩,g4⟩:=aH.1 g3;refine⟨_,g4,_,⟨rfl,rfl⟩,λw' _=>pA ?_⟩;have⟨_,Q1⟩:=q;rw[Q1];exact zcX j hi0 hm0 F D R w'
    .cases A
   .cases A
 case indexAddr t x i=>
  have⟨Z,p,q⟩:=cH J h;have⟨rb,B,A⟩:=cH J p;split at B
  .rename_i k0 n;have⟨_,hi⟩:=A;have⟨M,F,D⟩:=dy.1 B;have j:=(hT t M F).kind;split at D
   .rename_i e Ce ek G;rw[G]at j;have⟨k1,k2,k3,k4⟩:=j;have hs:(P.info? e).map (·.size)=C Ce:=by have⟨f,hf1,e1⟩:=ak.1 k2;simp[aX]at e1;rw[hf1,cG,e1.2]
    have⟨m,R,ad,c,Q1⟩:=ye hI q D;have⟨⟨n0,n1⟩,L⟩:=aH.1 R;split at L
    .rename_i l;have⟨Q2,N⟩:=aH.1 L;have S:=q.2;rw[Q1]at S;have hm:=jo S.1;have had:∃g o,ad=C ⟨g,o,U⟩:=by
      rcases S.1.2 with⟨Q4,_⟩|⟨g',Q5,zmq,cur,T',Q4,_⟩;.omega
      .simp[bN]at Q4;exact⟨g',Q5,Q4.1⟩
     obtain⟨g,o,rfl⟩:=had;refine⟨_,N,_,⟨rfl,_,g,o,m,c,S,rfl,rfl⟩,λw' _=>pA ?_⟩;rw[Q1,hi,CG k1 hs n0 n1,eC,aE Q2];rfl
    .rename_i u l;have⟨Q2,N⟩:=aH.1 L;have S:=q.2.2;rw[Q1]at S;have hm:=jo S.1;have had:∃g o,ad=C ⟨g,o,U⟩:=by
      rcases S.1.2 with⟨Q4,_⟩|⟨g',Q5,zmq,cur,T',Q4,_⟩;.omega
      .simp[bN]at Q4;exact⟨g',Q5,Q4.1⟩
     obtain⟨g,o,rfl⟩:=had;refine⟨_,N,_,⟨rfl,_,g,o,m,c,S,rfl,rfl⟩,λw' _=>pA ?_⟩;rw[Q1,hi,CG k1 hs n0 n1,eC,aE Q2];rfl
    .rename_i k ver;have⟨Q0,l,hr,N⟩:=dM L;have⟨Q2,O⟩:=aH.1 N;have⟨v1,r2,r3,r4⟩:=iT hI hr;have hv:=F3 (cx:=cx) q r2;rw[Q1]at hv;subst hv;have had:∃g,ad=C ⟨g,0,U⟩:=by
      rcases r3.2 with⟨Q4,_⟩|⟨g',zmq,cur,Q4,_⟩;.simp[bN]at Q4;omega
      .simp[bN]at Q4;exact⟨g',Q4.1⟩
     obtain⟨g,rfl⟩:=had;refine⟨_,O,.pointer (C ⟨g,n.toNat*Ce+0,U⟩),⟨rfl,_,_,r2,ao _,λ_=>⟨g,m,c,rfl,rfl⟩⟩,λw' _=>pA ?_⟩;rw[Q1,hi,CG k1 hs n0 n1,eC];simp
    .rename_i k ver sz i0 n2;have⟨Q0,l,hr,N⟩:=dM L;have⟨Q2,O⟩:=aH.1 N;have X:=aE Q2;subst X;have⟨v1,r2,r3,r4⟩:=iT hI hr;have hP:=U8 (cx:=cx) q r2;rw[Q1]at hP;have⟨a',c',Q4,hn',zqI⟩:=hP;simp[bN]at Q4;obtain⟨rfl,rfl,rfl⟩:=Q4;obtain⟨g,n3,c3,hv1,rfl,_⟩:=zqI Y0;refine⟨_,O,.pointer (C ⟨g,(i0+n.toNat)*Ce+0,U⟩),⟨rfl,_,_,r2,ao _,λ_=>⟨g,n3,c3,hv1,rfl⟩⟩,λw' _=>pA ?_⟩;rw[Q1,hi,CG k1 hs n0 n1,eC,<-fK];simp
    .cases L
   .rename_i m e Ce zt3 G;rw[G]at j;have⟨k1,k2,k3⟩:=j;have⟨⟨n0,n1⟩,L⟩:=aH.1 D;split at L
    .have⟨_,n2,hn,Q1⟩:=q;refine⟨_,L,_,⟨rfl,n2,hn,rfl⟩,λw' _=>pA ?_⟩;rw[Q1,hi];simp[gm,aT k1,je,cC,n0,n1,lp k2,eC]
    .cases L
   .cases D
  .cases B
 case index t x i=>
  have⟨Z,p,q⟩:=cH J h;have⟨rb,B,A⟩:=cH J p;split at B
  .rename_i k0 n;have⟨_,hi⟩:=A;have⟨M,F,D⟩:=dy.1 B;have j:=(hT t M F).kind;split at D
   .rename_i m e Ce zt3 G;rw[G]at j;have⟨k1,k2,k3⟩:=j;have⟨⟨n0,n1⟩,L⟩:=aH.1 D;split at L
    .have⟨us,Q1,hc⟩:=q;have⟨r,N,v,O,h11⟩:=ZH k3 k2 hc L;refine⟨r,N,v,O,λw' _=>pA ?_⟩;rw[Q1,hi];unfold kl;simp[je,aT k1,n0,n1,lp k2,h11]
    .cases L
   .rename_i G;rw[G]at j;split at D
    .rename_i s;have⟨⟨n0,n1⟩,L⟩:=aH.1 D;have⟨_,Q1⟩:=q;refine⟨_,L,_,K8 _ _,λw' _=>pA ?_⟩;rw[Q1,hi];unfold fR;rw[run_index_string w' t _ k0 n j,dif_pos ⟨n0,n1⟩];have hn:n.toNat<s.length:=Y0;simp[nT,hn];rfl
    .cases D
   .cases D
  .cases B
 case load t x=>
  have⟨Z,p,q⟩:=cH J h;have⟨M,B,A⟩:=dy.1 p;have Q3:=hT t M B;split at A
  .rename_i k off;have⟨hm,F⟩:=aH.1 A;have⟨x1,D,R⟩:=dX.1 F;split at R
   .rename_i cs T1;have⟨_,n,hn,Q1⟩:=q;have⟨_,us,Q2,hc⟩:=hI.Ds k _ _ D hn;have⟨r,L,v,N,O⟩:=ZG Q3 Q2 hc R;refine⟨r,L,v,N,λw' hs=>pA ?_⟩;rw[Q1];simpa[dz,cC]using O w' (GO hm (show cN hp β k=C n by rw[dK D hn];rfl) hs)
   .cases R
  .rename_i k ver sz i off;have⟨hm,F⟩:=aH.1 A;have⟨Q0,l,D,R⟩:=dM F;have⟨hbz,h7'⟩:=aH.1 R;have⟨hlt,L⟩:=aH.1 h7';have⟨v1,r2,r3,r4⟩:=iT hI D;obtain⟨g1,n1,c1,hv,Q1⟩:=zib (cx:=cx) q r2;subst hv;have hn:=jo (nI r3 (EL.tl _));subst hn;obtain⟨r,N,v,O,h11⟩:=zeo (w:=w) Q3 (zcM r3) hlt L;refine⟨r,N,v,O,λw' hs=>pA ?_⟩;have hw:=GO hm (show cN hp β k=C g1 by rw[dK D r2];rfl) hs;rw[Q1,aE hbz];have:=h11 w' hw;rw[ew]at this;simpa[dz,cC]using this
  .rename_i l i off;have⟨hlt,L⟩:=aH.1 A;obtain⟨_,v1,g1,o1,n,c,S,hv,Q1⟩:=q;subst hv;have hcell:=Sl.cells (jo S.1▸S.sl hI) Y0;simp[eC]at hcell;obtain⟨r,N,v,O,h11⟩:=zeo (w:=w) Q3 hcell hlt L;refine⟨r,N,v,O,λw' hs=>pA ?_⟩;have Q2:g1<cx.w0.heap.size:=by
    rcases S.1.2 with⟨Q4,_⟩|⟨g',Q5,zmq,cur,T',Q4,_,e1,_⟩;.omega
    .simp only[bN,ay,Addr.mk.injEq]at Q4;obtain⟨⟨rfl,_⟩,_⟩:=Q4;exact(ab.1 e1).1
   rw[Q1];simpa[dz,cC]using h11 w' (znb (b:=g1) Q2 (S.2.2 Y0 g1 rfl) hs)
  .cases A
 case call c=>
  have⟨callee,args,SJ⟩:=c;cases callee<;>first|cases h|skip
  rename_i bb;cases bb<;>first|cases h|skip
  .have⟨rs,p,q⟩:=oQ J h;split at p
   .rename_i x;split at p
    .rename_i t hat;have⟨M,B,A⟩:=dy.1 p;have j:=(hT t M B).kind;have Q:∃y,args.toList.map a.eval=[y]/\AC cx β x y:=by cases hl:args.toList.map a.eval with|nil=>rw[hl]at q;cases q|cons y ys=>rw[hl]at q;cases ys with|nil=>exact⟨y,rfl,q.1⟩|cons _ _=>cases q.2
     have⟨y,hy,hxy⟩:=Q;have hy':args.map a.eval=#[y]:=by apply bj.1;simpa using hy
     have zqC:SJ=#[t]:=bj.1 hat;have fin:∀(n:Nat),(∀w,(ij #[t] ty #[y]).run P w=.ok (.int .i64 n) w)->K (I .i64 n)->∃r,K r/\∃v,AC cx β r v/\∀w',Sm cx β hp W w w'->(aG a.eval {dst:=dst,op:=.call {callee:=.builtin .len,args:=args,argTypes:=SJ},type:=ty,pos:=pos,after:=after,guard:=guard}).run P w'=.ok (.value v) w':=by intro n fj hK;refine⟨_,hK,_,K8 _ _,λw' _=>?_⟩;simp[aG,resolve,hy',invoke,builtin,zqC,fj]
     split at A
     .rename_i e Ce ek G;rw[G]at j;have⟨k1,_⟩:=j;obtain⟨n,F,ad,c,rfl⟩:=ye hI hxy A;exact fin n (λw=>by simp[ij,aT k1,goInt]) F
     .rename_i e G;rw[G]at j;obtain⟨n,F,ad,c,rfl⟩:=ye hI hxy A;exact fin n (λw=>by simp[ij,aT j,goInt]) F
     .rename_i G;rw[G]at j;split at A
      .obtain⟨_,rfl⟩:=hxy;exact fin _ (λw=>by simp[ij,aT j,goInt,fR];rfl) A
      .cases A
     .cases A
    .cases p
   .cases p
  .have⟨rs,p,q⟩:=oQ J h;split at p
   .rename_i k x k' y;have Q:args.toList.map a.eval=[.int k x,.int k' y]:=by cases hl:args.toList.map a.eval with|nil=>rw[hl]at q;cases q|cons u us=>rw[hl]at q;cases us with|nil=>cases q.2|cons v vs=>have⟨⟨_,e1⟩,⟨_,e2⟩,B⟩:=q;cases vs with|nil=>rw[e1,e2]|cons _ _=>cases B
    have hy':args.map a.eval=#[.int k x,.int k' y]:=by apply bj.1;simpa using Q
    refine⟨_,p,_,K8 _ _,λw' _=>?_⟩;simp[aG,resolve,hy',invoke,builtin,Builtin.max_,Builtin.max2,zuf]
   .cases p
  .have⟨rs,p,q⟩:=oQ J h;split at p
   .rename_i k x k' y;have Q:args.toList.map a.eval=[.int k x,.int k' y]:=by cases hl:args.toList.map a.eval with|nil=>rw[hl]at q;cases q|cons u us=>rw[hl]at q;cases us with|nil=>cases q.2|cons v vs=>have⟨⟨_,e1⟩,⟨_,e2⟩,B⟩:=q;cases vs with|nil=>rw[e1,e2]|cons _ _=>cases B
    have hy':args.map a.eval=#[.int k x,.int k' y]:=by apply bj.1;simpa using Q
    refine⟨_,p,_,K8 _ _,λw' _=>?_⟩;simp[aG,resolve,hy',invoke,builtin,Builtin.min_,Builtin.min2,kG]
   .cases p
end
end Ab
open Go.RowKit
namespace Ab
structure kF(cx:Cx)(β:List En)(hp:Hp)(w:V)(S:Nat->Prop)(bR:List En)(dF:Hp)(w':V):Prop where
 mI:ki cx bR dF w'
 ext:uZ β bR
 om:∀k b,cN dF bR k=C b->cN hp β k=C b\/w.heap.size<=b
 size:w.heap.size<=w'.heap.size
 len:hp.length<=dF.length
 own:∀k,k<hp.length->¬S k->cN dF bR k=cN hp β k
 sb:∀b,b<w.heap.size->(∀k,S k->cN hp β k≠C b)->w'.heap[b]?=w.heap[b]?
def SW:Option (Nat×List Nat)->Nat->Prop|none,_=>True|some (n,W),k=>k∈W\/n<=k
def tG{W:Option (Nat×List Nat)}{k:Nat}:Aq W k=E↔SW W k:=by cases W with|none=>simp[Aq,SW]|some W=>have⟨n,a⟩:=W;simp[Aq,SW,AI]
section
variable{P:al}{cx:Cx}{β:List En}{hp:Hp}{w:V}{S:Nat->Prop}
def kF.refl(I:ki cx β hp w):kF cx β hp w S β hp w:=⟨I,uZ.refl _,λ_ _ h=>.inl h,ao _,ao _,λ_ _ _=>rfl,λ_ _ _=>rfl⟩
def kF.zfB(I:ki cx β hp w){w':V}(a:cj w.heap.size w w'):kF cx β hp w S β hp w':=⟨I.zfB a,uZ.refl _,λ_ _ h=>.inl h,a.size,ao _,λ_ _ _=>rfl,λb h _=>a.block b h⟩
def kF.mono{c:Nat->Prop}{bR:List En}{p:Hp}{w':V}(h:kF cx β hp w S bR p w')(s:∀k,S k->c k):kF cx β hp w c bR p w':=⟨h.mI,h.ext,h.om,h.size,h.len,λk a n=>h.own k a λe=>n (s k e),λb d n=>h.sb b d λk a=>n k (s k a)⟩
def CC{k:Nat}(h:hp[k]?=U):cN hp β k=U:=by unfold cN;rw[h]
def zjc{k:Nat}(h:hp[k]?=C .d):cN hp β k=U:=by unfold cN;rw[h];cases β[k]?<;>rfl
def kF.upd(I:ki cx β hp w){k0:Nat}{h':HB}{e':En}{p:Hp}{bR:List En}{w':V}(f:S k0)(t:uO (λb=>cN hp β k0=C b) w w')(c:∀k,k≠k0->p[k]?=hp[k]?/\bR[k]?=β[k]?)(g:p[k0]?=C h')(i:bR[k0]?=C e')(l:bR.length=p.length)(j:hp.length<=p.length)(x:uZ β bR)(d:HOk cx bR w' h' e')(o:∀b,nG h' e'=C b->cN hp β k0=C b\/w.heap.size<=b):kF cx β hp w S bR p w':=by
 have s:∀k,k≠k0->cN p bR k=cN hp β k:=λk h=>by unfold cN;rw[(c k h).1,(c k h).2]
 refine⟨I.upd t c g i l x d o,x,λk b a=>?_,t.size,j,λk _ n=>s k λe=>n (e▸f),λb a n=>t.block b a (n k0 f)⟩;by_cases h:k=k0
 .subst h;rw[dK g i]at a;exact o b a
 .simp_all
def AJ{rsv:Option Nat}{x:HB}{K:Nat->Hp->Prop}(I:ki cx β hp w)(h:OL rsv hp x K)(e:En)(q:∀k,(rsv=C k\/hp.length<=k)->S k){w':V}(c:cj w.heap.size w w')(o:∀b,nG x e=C b->w.heap.size<=b)(d:∀bR,uZ β bR->HOk cx bR w' x e):∃k B bR,K k B/\bR[k]?=C e/\kF cx β hp w S bR B w':=by cases rsv with
 |none=>
  have D:uZ β (β++[e]):=by intro k e0 f;have l:=(List.getElem?_eq_some_iff.1 f).1;have s:(β++[e])[k]?=C e0:=Y8;cases e0 with |b n=>exact s|r v a=>grind|x=>trivial
  refine⟨_,_,β++[e],Pm.1 h,by rw[ew,<-I.len];simp,?_⟩;refine kF.upd I (q _ (.inr (ao _))) (uO.PC c) (λk A=>?_) Y1 (by rw[<-I.len];simp) (by simp[I.len]) Y1 D (d _ D) (λb c=>.inr (o b c));have t:=I.len;by_cases l:k<hp.length;.grind
  .grind|some k=>
  have⟨y,m,p⟩:=dX.1 h;split at p
  .have⟨u,z⟩:=hX.1 p;have t:=I.len;have g:k<β.length:=Y0;have D:uZ β (β.set k e):=by
    intro i e0 f;by_cases j:i=k
    .subst j;have G:=I.Ds i _ _ m f;cases e0<;>first|exact G.elim|trivial
    .grind
   refine⟨k,_,β.set k e,z,by simp[g],?_⟩;exact kF.upd I (q _ (.inl rfl)) (uO.PC c) (λi F=>⟨bW (cA F),bW (cA F)⟩) (by simp[u]) (by simp[g]) (by simp[t]) Y1 D (d _ D) (λb c=>.inr (o b c))
  .cases p
def de{fr:Fr}{d:Option Tmp}{r:AV}{K:Fr->Prop}{a:Act}{v:Y}(h:mj fr d r K)(f:FR cx β fr a.tmps)(k:AC cx β r v):∃g,K g/\FR cx β g (a.put d v).tmps/\(a.put d v).defers=a.defers:=by cases d with|none=>exact⟨fr,h,f,rfl⟩|some d=>
 have⟨b,c⟩:=iE.1 h;refine⟨_,c,⟨by simp[oL,f.1],λi x j=>?_⟩,rfl⟩;by_cases hid:i=d
 .subst hid;rw[List.getElem?_set_self Y0]at j;obtain rfl:=fO j;have:i<a.tmps.size:=by rw[<-f.1];exact b
  simpa[oL,Array.getD,this]using k
 .rw[bW (cA hid)]at j;have:=f.2 i x j;have e:(a.put (C d) v).tmps.getD i undef=a.tmps.getD i undef:=by simp[oL,cE,bZ (cA hid)]
  rw[e];exact this
def zqo(cx:Cx)(β:List En)(hp:Hp)(w:V)(S:Nat->Prop)(a:Act)(K:Fr->Hp->Prop):Act->V->Prop:=λb c=>∃f p bR,K f p/\FR cx bR f b.tmps/\b.defers=a.defers/\kF cx β hp w S bR p c
def EF{a:AV}{v:Y}{K:List LV->Prop}(h:xU a K)(d:AC cx β a v):∃f,K f/\gi cx β f v.cells.toList:=by
 unfold xU at h;split at h
 .refine⟨_,h,?_⟩;have b:=d;have c:v.cells=#[v]:=by have:=b.1;cases g:v<;>first|rfl|(rw[g]at this;cases this)
  rw[c];exact⟨b,aA⟩
 .have⟨u,e,b⟩:=d;exact⟨_,h,by rw[e];exact b⟩
 .cases h
def Qw{fr:Fr}{a:Act}(j:FR cx β fr a.tmps){sz:Nat}:∀(i n:Nat)(parts:List (Nat×aU))(K:List LV->Prop),Jb fr sz i n parts K->∃G,K G/\∃J:List Y,gi cx β G J/\J.length=n*sz/\∀(m:Nat)(cells:Array Y),m=i+n->cells.size=m*sz->∃c:Array Y,ep (λi=>C (i*sz,sz)) cells (parts.map λx=>(x.1,a.eval x.2))=C c/\c.toList=cells.toList.take (i*sz)++J
 |i,0,[],K,h=>⟨[],h,[],aA,Y1,λm cells k M=>⟨cells,rfl,by simp;rw[aM Y7]⟩⟩|i,n+1,(O,x)::r,K,h=>by
  have⟨q,t⟩:=aH.1 h;have N:=aE q;subst N;have⟨D,u,w⟩:=cH j t;have⟨I,y,p⟩:=EF u w;have⟨z,A⟩:=AH.1 y;have⟨G,B,J,b,d,e⟩:=Qw j (i+1) n r _ A;have o:∀(I G:List LV)(K:List LV->Prop),Jb.zir I G K->K (I++G):=by intro I;induction I with|nil=>intro G K h;exact h|cons v I F=>intro G K h;exact F G _ h
  have l:(a.eval x).cells.size=sz:=by rw[<-z,p.length];simp
  refine⟨I++G,o _ _ _ B,(a.eval x).cells.toList++J,gi.append p b,Y8,λm cells k M=>?_⟩;have L:(i+1)*sz<=m*sz:=Y8;rw[mB]at L;have s:=GI (a.eval x).cells.toList cells (i*sz) 0 (by simp;omega);have⟨c,f,g⟩:=e m ((a.eval x).cells.zipIdx.foldl (λG(x:Y×Nat)=>G.setIfInBounds (i*sz+x.2) x.1) cells) Y0 (by have:=congrArg List.length s;rw[<-iJ,ia,<-cv,this];simp;omega);refine⟨c,?_,?_⟩;.simp only[cQ,ep];rw[if_neg (by simp;omega)];exact f
  .rw[g,<-iJ,ia,s];simp only[dA,cv,l];rw[List.take_append_of_le_length Y8,aM Y8];simp|_,0,_::_,_,h=>by simp[Jb]at h|_,_+1,[],_,h=>by simp[Jb]at h
def zgO{g:EK}{x:List LV}{us:List Y}{K:EL->Prop}(h:Am g x K)(w:gi cx β x us):∃l,K l/\l.di=us/\l.sz=g.sz:=by
 have go:∀(x:List LV)(us:List Y)(K:EL->Prop),Am.go x K->gi cx β x us->∃l,K (.bn l)/\(EL.bn l).di=us:=by intro x;induction x with
  |nil=>intro us K h w;cases us with |nil=>exact⟨[],h,rfl⟩|cons _ _=>cases w
  |cons c r i=>
   intro us K h w;unfold Am.go at h;split at h;.simp_all
   .rename_i n f e;obtain⟨rfl,rfl⟩:=vT e;cases us with |nil=>cases w|cons u us=>have⟨l,b,a⟩:=i us _ h w.2;obtain⟨⟨_,rfl⟩,_⟩:=w;exact⟨n::l,b,by simp[EL.di,cQ]at a⊢;rw[a]⟩
   .cases h
 have y:∀(m:Nat)(x:List LV)(us:List Y)(K:EL->Prop),x.length<=m->Am.go2 x K->gi cx β x us->∃l,K (.bC l)/\(EL.bC l).di=us:=by intro m;induction m with
  |zero=>intro x us K d h w;cases x with
   |nil=>cases us with |nil=>exact⟨[],h,rfl⟩|cons _ _=>cases w
   |cons _ _=>simp at d
  |succ m i=>
   intro x us K d h w;unfold Am.go2 at h;split at h;.cases us with|nil=>exact⟨[],h,rfl⟩|cons _ _=>cases w
   .rename_i z j f;cases us with |nil=>cases w|cons u us=>cases us with |nil=>cases w.2|cons p us=>have⟨l,b,a⟩:=i f us _ Y8 h w.2.2;obtain⟨⟨_,rfl⟩,⟨_,rfl⟩,_⟩:=w;exact⟨(z,j)::l,b,by simp only[EL.di,cP]at a⊢;rw[a];rfl⟩
   .cases h
 have k:∀(m:Nat)(x:List LV)(us:List Y)(K:EL->Prop),x.length<=m->Am.go3 x K->gi cx β x us->∃l,K (.k3 l)/\(EL.k3 l).di=us:=by intro m;induction m with
  |zero=>intro x us K d h w;cases x with
   |nil=>cases us with |nil=>exact⟨[],h,rfl⟩|cons _ _=>cases w
   |cons _ _=>simp at d
  |succ m i=>
   intro x us K d h w;unfold Am.go3 at h;split at h;.cases us with |nil=>exact⟨[],h,rfl⟩|cons _ _=>cases w
   .rename_i z j q f;cases us with|nil=>cases w|cons u us=>cases us with |nil=>cases w.2|cons p us=>cases us with |nil=>cases w.2.2|cons v us=>have⟨l,b,a⟩:=i f us _ Y8 h w.2.2.2;obtain⟨⟨_,rfl⟩,⟨_,rfl⟩,⟨_,rfl⟩,_⟩:=w;exact⟨(z,j,q)::l,b,by simp only[EL.di,cP]at a⊢;rw[a];rfl⟩
   .cases h
 cases g with
 |k3=>have⟨l,b,a⟩:=k _ x us K (ao _) h w;exact⟨_,b,a,rfl⟩|bn=>have⟨l,b,a⟩:=go x us K h w;exact⟨_,b,a,rfl⟩|bytes=>
  unfold Am at h;dsimp only at h;split at h;.cases us with|nil=>exact⟨_,h,rfl,rfl⟩|cons _ _=>cases w
  .rename_i n;have⟨b,a⟩:=aH.1 h;match us,w with
   |[u],⟨⟨_,e⟩,_⟩=>
    have b:0<=n/\n<=255:=b;refine⟨_,a,?_,rfl⟩;have t:((gz n.toNat).toNat:Int)=n:=by rw[UInt8.toNat_ofNat'];omega
    simp only[EL.di,cQ,sH,t,e]
  .cases h|strs=>
  have o:∀(x:List LV)(us:List Y)(K:List (List UInt8)->Prop),Am.go4 x K->gi cx β x us->∃l,K l/\(EL.strs l).di=us:=by intro x;induction x with
   |nil=>intro us K h w;cases us with |nil=>exact⟨[],h,rfl⟩|cons _ _=>cases w
   |cons c r i=>
    intro us K h w;unfold Am.go4 at h;split at h;.simp_all
    .rename_i s f e;obtain⟨rfl,rfl⟩:=vT e;cases us with|nil=>cases w|cons u us=>have⟨l,b,a⟩:=i us _ h w.2;obtain⟨⟨_,rfl⟩,_⟩:=w;exact⟨s::l,b,by simp[EL.di,cQ]at a⊢;rw[a]⟩
    .cases h
  have⟨l,b,a⟩:=o x us _ h w;exact⟨_,b,a,rfl⟩|bC=>have⟨l,b,a⟩:=y _ x us K (ao _) h w;exact⟨_,b,a,rfl⟩
def ST:Option (List Nat)->Nat->Prop|none,_=>True|some l,k=>k∈l
structure bF(P:al)(f:bu)(c:CS):Prop where fn:(P.funcs[f]?).map (λfn=>(fn.name== "runtime.NumGoroutine",fn.body.isNone))=C (H,H)snd:∀as1 hp K,c.S as1 hp K->∀cx β(w:V)(vs:Array Y),ki cx β hp w->(Gw cx.w0/\Gm cx.M)->IL cx β as1 vs.toList->Calls P f vs w λe w'=>∃v r dF bR,e=.returned v/\K r dF/\AC cx bR r v/\kF cx β hp w (ST (c.sb as1)) bR dF w'
def aR(P:al)(G:bK):Prop:=∀f c,(f,c)∈G->bF P f c
def Ad(P:al)(G:bK)(cx:Cx):Prop:=aR P G/\(G=[]\/(Gw cx.w0/\Gm cx.M))
def Ad.gl{P:al}{G:bK}{cx:Cx}(h:Ad P G cx){f:bu}{c:CS}(a:(f,c)∈G):Gw cx.w0/\Gm cx.M:=by
 rcases h.2 with h|h;.simp_all
 .exact h
def oX{f:bu}(h:(P.funcs[f]?).map (λd=>(d.name== "runtime.NumGoroutine",d.body.isNone))=C (H,H))(v:Array Y)(w:V):(callFunc f v).run P w=.ok (.enter f v) w:=by have⟨d,a,e⟩:=ak.1 h;simp only[aX]at e;have⟨b,c⟩:=e;change Sem.run P (match P.funcs[f]? with|none=>_|some d=>_) w=_;rw[a];dsimp only;rw[b];simp only[bt,if_false];rw[c];rfl
def PX{W:Option (Nat×List Nat)}:∀{l:List Nat},zdL W l=E->∀k∈l,SW W k
 |[],_,k,b=>by cases b|a::l,h,k,b=>by
  simp[zdL,aj]at h;rcases bq.1 b with rfl|b;.exact tG.1 h.1
  .exact PX h.2 k b
def oc{W:Option (Nat×List Nat)}{l:Option (List Nat)}(h:Es W l=E)(k:Nat)(a:ST l k):SW W k:=by cases l with|some l=>cases W<;>exact PX h k a|none=>cases W with|none=>trivial|some W=>cases h
def zjr{l m:EL}{K:EL->Prop}(h:zow l m K):∃a,K a/\a.di=l.di++m.di/\a.len=l.len+m.len/\a.sz=l.sz/\m.sz=l.sz:=by cases l<;>cases m<;>first|cases h|exact⟨_,h,by simp[EL.di],by simp[EL.len],rfl,rfl⟩
end
end Ab
end
end Go.Proofs.YtelohkknmgaacaaGreatDoor
